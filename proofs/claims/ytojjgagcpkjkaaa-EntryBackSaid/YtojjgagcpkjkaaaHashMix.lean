/- What trio.mix, trio.last of Jenkins's lookup3 compute. Conditions stand as premises. -/
import Derived.Test.YtojjgagcpkjkaaaUpd
import Derived.Laws.BitsAllLaws
import Derived.Deep.Cut
namespace Go.Proofs.Ytojjgagcpkjkaaa
open Go.ChangeShapes Go.WideShapes Go.ChangeAt Go.RowKit
set_option linter.unusedVariables false

/-- A number of 32 bits, turned. -/
def rotF (x : Int) (k : Nat) : Int := bits .or .u32 (x * 2 ^ k % 4294967296) (x / 2 ^ (32 - k))
theorem mod_bd (a : Int) : 0 ≤ a % 4294967296 ∧ a % 4294967296 ≤ 4294967295 := by omega
theorem wrap32_bd (z : Int) : 0 ≤ IntKind.u32.wrap z ∧ IntKind.u32.wrap z ≤ 4294967295 := by
  rw [show IntKind.u32.wrap z = z % 4294967296 from rfl]
  omega
theorem xor_bd (a b : Int) : 0 ≤ bits .xor .u32 a b ∧ bits .xor .u32 a b ≤ 4294967295 := by
  have h : bits .xor .u32 a b = IntKind.u32.wrap ((BitVec.ofInt 32 a ^^^ BitVec.ofInt 32 b).toNat : Int) := rfl
  rw [h]; exact wrap32_bd _
theorem rot_bd (x : Int) (k : Nat) : 0 ≤ rotF x k ∧ rotF x k ≤ 4294967295 := by
  have h : rotF x k = IntKind.u32.wrap ((BitVec.ofInt 32 (x * 2 ^ k % 4294967296) ||| BitVec.ofInt 32 (x / 2 ^ (32 - k))).toNat : Int) := rfl
  rw [h]; exact wrap32_bd _
theorem and31 : ∀ k < 32, bits .and .u64 ((k : Nat) : Int) 31 = (k : Int) := by decide +kernel
theorem rot_lit (x : Int) (k : Nat) (K : Int) (hK : K = (k : Int)) (h0 : 0 ≤ x) (h1 : x ≤ 4294967295) (hk : 0 < k) (hk2 : k < 32) (w : World) :
    Calls Try.prog 51 #[.int .u32 x, .int .i64 K] w fun e w' => e = .returned (.int .u32 (rotF x k)) ∧ w = w' := by
  subst hK
  have ha := and31 k hk2
  go_enter Try.func51, Try.ntmps51
  go_wp2
  go_ret
  exact ⟨rfl, rfl⟩

/-- Three numbers behind a pointer. -/
structure Trio (w : World) (p : Nat) (x y z : Int) : Prop where
  lt : p < w.heap.size
  c0 : w.cell? ⟨p, 0, none⟩ = some (.int .u32 x)
  c1 : w.cell? ⟨p, 1, none⟩ = some (.int .u32 y)
  c2 : w.cell? ⟨p, 2, none⟩ = some (.int .u32 z)
  f0 : w.frozen? ⟨p, 0, none⟩ = false
  f1 : w.frozen? ⟨p, 1, none⟩ = false
  f2 : w.frozen? ⟨p, 2, none⟩ = false
  bx : 0 ≤ x ∧ x ≤ 4294967295
  by_ : 0 ≤ y ∧ y ≤ 4294967295
  bz : 0 ≤ z ∧ z ≤ 4294967295
theorem Trio.upd {w w' : World} {p : Nat} {x y z : Int} {F : Nat → Prop} (h : Trio w p x y z) (hu : Upd F w w') (hf : ¬ F p) : Trio w' p x y z :=
  ⟨Nat.lt_of_lt_of_le h.lt hu.size, ucell hu hf h.c0, ucell hu hf h.c1, ucell hu hf h.c2, ufree hu h.lt hf h.f0, ufree hu h.lt hf h.f1, ufree hu h.lt hf h.f2, h.bx, h.by_, h.bz⟩
theorem Trio.below {w w' : World} {p : Nat} {x y z : Int} (h : Trio w p x y z) (hb : Below w.heap.size w w') : Trio w' p x y z := h.upd (F := fun _ => False) (Upd.ofBelow hb) (fun h => h)
theorem Trio.drewN {w : World} {p : Nat} {x y z : Int} (h : Trio w p x y z) (n : Nat) : Trio (w.drewN n) p x y z := h.below (Below.drewN' w n)
/-- What a step does to them. -/
def TrioStep (w : World) (p : Nat) (t : Int × Int × Int) (w' : World) : Prop := Trio w' p t.1 t.2.1 t.2.2 ∧ Upd (· = p) w w'
theorem TrioStep.mk3 {w : World} {n : Nat} {p : Nat} {x y z x' y' z' : Int} (h : Trio (w.drewN n) p x y z) (hx : 0 ≤ x' ∧ x' ≤ 4294967295) (hy : 0 ≤ y' ∧ y' ≤ 4294967295) (hz : 0 ≤ z' ∧ z' ≤ 4294967295) :
    TrioStep w p (x', y', z') ((((w.drewN n).setCell ⟨p, 0, none⟩ (.int .u32 x')).setCell ⟨p, 1, none⟩ (.int .u32 y')).setCell ⟨p, 2, none⟩ (.int .u32 z')) := by
  refine ⟨⟨by simpa using h.lt, ?_, ?_, ?_, by simpa using h.f0, by simpa using h.f1, by simpa using h.f2, hx, hy, hz⟩, ?_⟩
  · exact keep_set (by decide) (keep_set (by decide) (World.cell?_setCell_same _ _ _ h.c0))
  · exact keep_set (by decide) (World.cell?_setCell_same _ _ _ (keep_set (by decide) h.c1))
  · exact World.cell?_setCell_same _ _ _ (keep_set (by decide) (keep_set (by decide) h.c2))
  · exact (((Upd.ofBelow (Below.drewN' w n)).trans (Upd.setCell (F := (· = p)) _ ⟨p, 0, none⟩ _ rfl) (fun _ _ h => h)).trans (Upd.setCell (F := (· = p)) _ ⟨p, 1, none⟩ _ rfl) (fun _ _ h => h)).trans (Upd.setCell (F := (· = p)) _ ⟨p, 2, none⟩ _ rfl) (fun _ _ h => h)

def mixF (t : Int × Int × Int) : Int × Int × Int :=
  let x := t.1
  let y := t.2.1
  let z := t.2.2
  let x := (x - z) % 4294967296
  let x := bits .xor .u32 x (rotF z 4)
  let z := (z + y) % 4294967296
  let y := (y - x) % 4294967296
  let y := bits .xor .u32 y (rotF x 6)
  let x := (x + z) % 4294967296
  let z := (z - y) % 4294967296
  let z := bits .xor .u32 z (rotF y 8)
  let y := (y + x) % 4294967296
  let x := (x - z) % 4294967296
  let x := bits .xor .u32 x (rotF z 16)
  let z := (z + y) % 4294967296
  let y := (y - x) % 4294967296
  let y := bits .xor .u32 y (rotF x 19)
  let x := (x + z) % 4294967296
  let z := (z - y) % 4294967296
  let z := bits .xor .u32 z (rotF y 4)
  let y := (y + x) % 4294967296
  (x, y, z)
def lastF (t : Int × Int × Int) : Int × Int × Int :=
  let x := t.1
  let y := t.2.1
  let z := t.2.2
  let z := bits .xor .u32 z y
  let z := (z - rotF y 14) % 4294967296
  let x := bits .xor .u32 x z
  let x := (x - rotF z 11) % 4294967296
  let y := bits .xor .u32 y x
  let y := (y - rotF x 25) % 4294967296
  let z := bits .xor .u32 z y
  let z := (z - rotF y 16) % 4294967296
  let x := bits .xor .u32 x z
  let x := (x - rotF z 4) % 4294967296
  let y := bits .xor .u32 y x
  let y := (y - rotF x 14) % 4294967296
  let z := bits .xor .u32 z y
  let z := (z - rotF y 24) % 4294967296
  (x, y, z)

set_option maxRecDepth 100000 in
set_option maxHeartbeats 600000 in
theorem mix_any (p : Nat) (x y z : Int) (w : World) (h : Trio w p x y z) :
    Calls Try.prog 42 #[.pointer (some ⟨p, 0, none⟩)] w fun e w' => e = .returned (.tuple #[]) ∧ TrioStep w p (mixF (x, y, z)) w' := by
  have c0 := h.c0
  have c1 := h.c1
  have c2 := h.c2
  have f0 := h.f0
  have f1 := h.f1
  have f2 := h.f2
  obtain ⟨x0, x1⟩ := h.bx
  obtain ⟨y0, y1⟩ := h.by_
  obtain ⟨z0, z1⟩ := h.bz
  have H := Lib.hid h
  clear h
  go_enter Try.func42, Try.ntmps42
  go_wp2_with fail
  go_quiet (fail)
  obtain ⟨u1_, hu1_⟩ : ∃ v : Int, (x - z) % 4294967296 = v := ⟨_, rfl⟩
  have u1_b : 0 ≤ u1_ ∧ u1_ ≤ 4294967295 := by rw [← hu1_]; exact mod_bd _
  obtain ⟨u1_0, u1_1⟩ := u1_b
  have Hu1_ := Lib.hid hu1_
  clear hu1_
  go_upto_region 2 with fail
  rw [Hu1_.out]
  go_wp2_with fail
  (with_reducible refine (rot_lit z 4 (4 : Int) rfl z0 z1 (by decide) (by decide) _).mono ?_)
  rintro e w' ⟨rfl, rfl⟩
  obtain ⟨u2_, hu2_⟩ : ∃ v : Int, rotF z 4 = v := ⟨_, rfl⟩
  have u2_b : 0 ≤ u2_ ∧ u2_ ≤ 4294967295 := by rw [← hu2_]; exact rot_bd _ _
  obtain ⟨u2_0, u2_1⟩ := u2_b
  rw [hu2_]
  obtain ⟨u3_, hu3_⟩ : ∃ v : Int, bits .xor .u32 u1_ u2_ = v := ⟨_, rfl⟩
  have u3_b : 0 ≤ u3_ ∧ u3_ ≤ 4294967295 := by rw [← hu3_]; exact xor_bd _ _
  obtain ⟨u3_0, u3_1⟩ := u3_b
  have Hu2_ := Lib.hid hu2_
  have Hu3_ := Lib.hid hu3_
  clear hu2_ hu3_
  go_upto_region 3 with fail
  rw [Hu3_.out]
  obtain ⟨u4_, hu4_⟩ : ∃ v : Int, (z + y) % 4294967296 = v := ⟨_, rfl⟩
  have u4_b : 0 ≤ u4_ ∧ u4_ ≤ 4294967295 := by rw [← hu4_]; exact mod_bd _
  obtain ⟨u4_0, u4_1⟩ := u4_b
  have Hu4_ := Lib.hid hu4_
  clear hu4_
  go_upto_region 4 with fail
  rw [Hu4_.out]
  obtain ⟨u5_, hu5_⟩ : ∃ v : Int, (y - u3_) % 4294967296 = v := ⟨_, rfl⟩
  have u5_b : 0 ≤ u5_ ∧ u5_ ≤ 4294967295 := by rw [← hu5_]; exact mod_bd _
  obtain ⟨u5_0, u5_1⟩ := u5_b
  have Hu5_ := Lib.hid hu5_
  clear hu5_
  go_upto_region 5 with fail
  rw [Hu5_.out]
  go_wp2_with fail
  (with_reducible refine (rot_lit u3_ 6 (6 : Int) rfl u3_0 u3_1 (by decide) (by decide) _).mono ?_)
  rintro e w' ⟨rfl, rfl⟩
  obtain ⟨u6_, hu6_⟩ : ∃ v : Int, rotF u3_ 6 = v := ⟨_, rfl⟩
  have u6_b : 0 ≤ u6_ ∧ u6_ ≤ 4294967295 := by rw [← hu6_]; exact rot_bd _ _
  obtain ⟨u6_0, u6_1⟩ := u6_b
  rw [hu6_]
  obtain ⟨u7_, hu7_⟩ : ∃ v : Int, bits .xor .u32 u5_ u6_ = v := ⟨_, rfl⟩
  have u7_b : 0 ≤ u7_ ∧ u7_ ≤ 4294967295 := by rw [← hu7_]; exact xor_bd _ _
  obtain ⟨u7_0, u7_1⟩ := u7_b
  have Hu6_ := Lib.hid hu6_
  have Hu7_ := Lib.hid hu7_
  clear hu6_ hu7_
  go_upto_region 6 with fail
  rw [Hu7_.out]
  obtain ⟨u8_, hu8_⟩ : ∃ v : Int, (u3_ + u4_) % 4294967296 = v := ⟨_, rfl⟩
  have u8_b : 0 ≤ u8_ ∧ u8_ ≤ 4294967295 := by rw [← hu8_]; exact mod_bd _
  obtain ⟨u8_0, u8_1⟩ := u8_b
  have Hu8_ := Lib.hid hu8_
  clear hu8_
  go_upto_region 7 with fail
  rw [Hu8_.out]
  obtain ⟨u9_, hu9_⟩ : ∃ v : Int, (u4_ - u7_) % 4294967296 = v := ⟨_, rfl⟩
  have u9_b : 0 ≤ u9_ ∧ u9_ ≤ 4294967295 := by rw [← hu9_]; exact mod_bd _
  obtain ⟨u9_0, u9_1⟩ := u9_b
  have Hu9_ := Lib.hid hu9_
  clear hu9_
  go_upto_region 8 with fail
  rw [Hu9_.out]
  go_wp2_with fail
  (with_reducible refine (rot_lit u7_ 8 (8 : Int) rfl u7_0 u7_1 (by decide) (by decide) _).mono ?_)
  rintro e w' ⟨rfl, rfl⟩
  obtain ⟨u10_, hu10_⟩ : ∃ v : Int, rotF u7_ 8 = v := ⟨_, rfl⟩
  have u10_b : 0 ≤ u10_ ∧ u10_ ≤ 4294967295 := by rw [← hu10_]; exact rot_bd _ _
  obtain ⟨u10_0, u10_1⟩ := u10_b
  rw [hu10_]
  obtain ⟨u11_, hu11_⟩ : ∃ v : Int, bits .xor .u32 u9_ u10_ = v := ⟨_, rfl⟩
  have u11_b : 0 ≤ u11_ ∧ u11_ ≤ 4294967295 := by rw [← hu11_]; exact xor_bd _ _
  obtain ⟨u11_0, u11_1⟩ := u11_b
  have Hu10_ := Lib.hid hu10_
  have Hu11_ := Lib.hid hu11_
  clear hu10_ hu11_
  go_upto_region 9 with fail
  rw [Hu11_.out]
  obtain ⟨u12_, hu12_⟩ : ∃ v : Int, (u7_ + u8_) % 4294967296 = v := ⟨_, rfl⟩
  have u12_b : 0 ≤ u12_ ∧ u12_ ≤ 4294967295 := by rw [← hu12_]; exact mod_bd _
  obtain ⟨u12_0, u12_1⟩ := u12_b
  have Hu12_ := Lib.hid hu12_
  clear hu12_
  go_upto_region 10 with fail
  rw [Hu12_.out]
  obtain ⟨u13_, hu13_⟩ : ∃ v : Int, (u8_ - u11_) % 4294967296 = v := ⟨_, rfl⟩
  have u13_b : 0 ≤ u13_ ∧ u13_ ≤ 4294967295 := by rw [← hu13_]; exact mod_bd _
  obtain ⟨u13_0, u13_1⟩ := u13_b
  have Hu13_ := Lib.hid hu13_
  clear hu13_
  go_upto_region 11 with fail
  rw [Hu13_.out]
  go_wp2_with fail
  (with_reducible refine (rot_lit u11_ 16 (16 : Int) rfl u11_0 u11_1 (by decide) (by decide) _).mono ?_)
  rintro e w' ⟨rfl, rfl⟩
  obtain ⟨u14_, hu14_⟩ : ∃ v : Int, rotF u11_ 16 = v := ⟨_, rfl⟩
  have u14_b : 0 ≤ u14_ ∧ u14_ ≤ 4294967295 := by rw [← hu14_]; exact rot_bd _ _
  obtain ⟨u14_0, u14_1⟩ := u14_b
  rw [hu14_]
  obtain ⟨u15_, hu15_⟩ : ∃ v : Int, bits .xor .u32 u13_ u14_ = v := ⟨_, rfl⟩
  have u15_b : 0 ≤ u15_ ∧ u15_ ≤ 4294967295 := by rw [← hu15_]; exact xor_bd _ _
  obtain ⟨u15_0, u15_1⟩ := u15_b
  have Hu14_ := Lib.hid hu14_
  have Hu15_ := Lib.hid hu15_
  clear hu14_ hu15_
  go_upto_region 12 with fail
  rw [Hu15_.out]
  obtain ⟨u16_, hu16_⟩ : ∃ v : Int, (u11_ + u12_) % 4294967296 = v := ⟨_, rfl⟩
  have u16_b : 0 ≤ u16_ ∧ u16_ ≤ 4294967295 := by rw [← hu16_]; exact mod_bd _
  obtain ⟨u16_0, u16_1⟩ := u16_b
  have Hu16_ := Lib.hid hu16_
  clear hu16_
  go_upto_region 13 with fail
  rw [Hu16_.out]
  obtain ⟨u17_, hu17_⟩ : ∃ v : Int, (u12_ - u15_) % 4294967296 = v := ⟨_, rfl⟩
  have u17_b : 0 ≤ u17_ ∧ u17_ ≤ 4294967295 := by rw [← hu17_]; exact mod_bd _
  obtain ⟨u17_0, u17_1⟩ := u17_b
  have Hu17_ := Lib.hid hu17_
  clear hu17_
  go_upto_region 14 with fail
  rw [Hu17_.out]
  go_wp2_with fail
  (with_reducible refine (rot_lit u15_ 19 (19 : Int) rfl u15_0 u15_1 (by decide) (by decide) _).mono ?_)
  rintro e w' ⟨rfl, rfl⟩
  obtain ⟨u18_, hu18_⟩ : ∃ v : Int, rotF u15_ 19 = v := ⟨_, rfl⟩
  have u18_b : 0 ≤ u18_ ∧ u18_ ≤ 4294967295 := by rw [← hu18_]; exact rot_bd _ _
  obtain ⟨u18_0, u18_1⟩ := u18_b
  rw [hu18_]
  obtain ⟨u19_, hu19_⟩ : ∃ v : Int, bits .xor .u32 u17_ u18_ = v := ⟨_, rfl⟩
  have u19_b : 0 ≤ u19_ ∧ u19_ ≤ 4294967295 := by rw [← hu19_]; exact xor_bd _ _
  obtain ⟨u19_0, u19_1⟩ := u19_b
  have Hu18_ := Lib.hid hu18_
  have Hu19_ := Lib.hid hu19_
  clear hu18_ hu19_
  go_upto_region 15 with fail
  rw [Hu19_.out]
  obtain ⟨u20_, hu20_⟩ : ∃ v : Int, (u15_ + u16_) % 4294967296 = v := ⟨_, rfl⟩
  have u20_b : 0 ≤ u20_ ∧ u20_ ≤ 4294967295 := by rw [← hu20_]; exact mod_bd _
  obtain ⟨u20_0, u20_1⟩ := u20_b
  have Hu20_ := Lib.hid hu20_
  clear hu20_
  go_upto_region 16 with fail
  rw [Hu20_.out]
  obtain ⟨u21_, hu21_⟩ : ∃ v : Int, (u16_ - u19_) % 4294967296 = v := ⟨_, rfl⟩
  have u21_b : 0 ≤ u21_ ∧ u21_ ≤ 4294967295 := by rw [← hu21_]; exact mod_bd _
  obtain ⟨u21_0, u21_1⟩ := u21_b
  have Hu21_ := Lib.hid hu21_
  clear hu21_
  go_upto_region 17 with fail
  rw [Hu21_.out]
  go_wp2_with fail
  (with_reducible refine (rot_lit u19_ 4 (4 : Int) rfl u19_0 u19_1 (by decide) (by decide) _).mono ?_)
  rintro e w' ⟨rfl, rfl⟩
  obtain ⟨u22_, hu22_⟩ : ∃ v : Int, rotF u19_ 4 = v := ⟨_, rfl⟩
  have u22_b : 0 ≤ u22_ ∧ u22_ ≤ 4294967295 := by rw [← hu22_]; exact rot_bd _ _
  obtain ⟨u22_0, u22_1⟩ := u22_b
  rw [hu22_]
  obtain ⟨u23_, hu23_⟩ : ∃ v : Int, bits .xor .u32 u21_ u22_ = v := ⟨_, rfl⟩
  have u23_b : 0 ≤ u23_ ∧ u23_ ≤ 4294967295 := by rw [← hu23_]; exact xor_bd _ _
  obtain ⟨u23_0, u23_1⟩ := u23_b
  have Hu22_ := Lib.hid hu22_
  have Hu23_ := Lib.hid hu23_
  clear hu22_ hu23_
  go_upto_region 18 with fail
  rw [Hu23_.out]
  obtain ⟨u24_, hu24_⟩ : ∃ v : Int, (u19_ + u20_) % 4294967296 = v := ⟨_, rfl⟩
  have u24_b : 0 ≤ u24_ ∧ u24_ ≤ 4294967295 := by rw [← hu24_]; exact mod_bd _
  obtain ⟨u24_0, u24_1⟩ := u24_b
  have Hu24_ := Lib.hid hu24_
  clear hu24_
  go_upto_region 19 with fail
  rw [Hu24_.out]
  go_wp2_with fail
  go_end0
  refine ⟨rfl, ?_⟩
  rw [show mixF (x, y, z) = (u20_, u24_, u23_) by simp only [mixF, Hu1_.out, Hu2_.out, Hu3_.out, Hu4_.out, Hu5_.out, Hu6_.out, Hu7_.out, Hu8_.out, Hu9_.out, Hu10_.out, Hu11_.out, Hu12_.out, Hu13_.out, Hu14_.out, Hu15_.out, Hu16_.out, Hu17_.out, Hu18_.out, Hu19_.out, Hu20_.out, Hu21_.out, Hu22_.out, Hu23_.out, Hu24_.out]]
  exact TrioStep.mk3 (H.out.drewN nq) ⟨by omega, by omega⟩ ⟨by omega, by omega⟩ ⟨by omega, by omega⟩

set_option maxRecDepth 100000 in
set_option maxHeartbeats 600000 in
theorem last_any (p : Nat) (x y z : Int) (w : World) (h : Trio w p x y z) :
    Calls Try.prog 43 #[.pointer (some ⟨p, 0, none⟩)] w fun e w' => e = .returned (.tuple #[]) ∧ TrioStep w p (lastF (x, y, z)) w' := by
  have c0 := h.c0
  have c1 := h.c1
  have c2 := h.c2
  have f0 := h.f0
  have f1 := h.f1
  have f2 := h.f2
  obtain ⟨x0, x1⟩ := h.bx
  obtain ⟨y0, y1⟩ := h.by_
  obtain ⟨z0, z1⟩ := h.bz
  have H := Lib.hid h
  clear h
  go_enter Try.func43, Try.ntmps43
  go_wp2_with fail
  go_quiet (fail)
  obtain ⟨u1_, hu1_⟩ : ∃ v : Int, bits .xor .u32 z y = v := ⟨_, rfl⟩
  have u1_b : 0 ≤ u1_ ∧ u1_ ≤ 4294967295 := by rw [← hu1_]; exact xor_bd _ _
  obtain ⟨u1_0, u1_1⟩ := u1_b
  have Hu1_ := Lib.hid hu1_
  clear hu1_
  go_upto_region 2 with fail
  rw [Hu1_.out]
  go_wp2_with fail
  (with_reducible refine (rot_lit y 14 (14 : Int) rfl y0 y1 (by decide) (by decide) _).mono ?_)
  rintro e w' ⟨rfl, rfl⟩
  obtain ⟨u2_, hu2_⟩ : ∃ v : Int, rotF y 14 = v := ⟨_, rfl⟩
  have u2_b : 0 ≤ u2_ ∧ u2_ ≤ 4294967295 := by rw [← hu2_]; exact rot_bd _ _
  obtain ⟨u2_0, u2_1⟩ := u2_b
  rw [hu2_]
  obtain ⟨u3_, hu3_⟩ : ∃ v : Int, (u1_ - u2_) % 4294967296 = v := ⟨_, rfl⟩
  have u3_b : 0 ≤ u3_ ∧ u3_ ≤ 4294967295 := by rw [← hu3_]; exact mod_bd _
  obtain ⟨u3_0, u3_1⟩ := u3_b
  have Hu2_ := Lib.hid hu2_
  have Hu3_ := Lib.hid hu3_
  clear hu2_ hu3_
  go_upto_region 3 with fail
  rw [Hu3_.out]
  obtain ⟨u4_, hu4_⟩ : ∃ v : Int, bits .xor .u32 x u3_ = v := ⟨_, rfl⟩
  have u4_b : 0 ≤ u4_ ∧ u4_ ≤ 4294967295 := by rw [← hu4_]; exact xor_bd _ _
  obtain ⟨u4_0, u4_1⟩ := u4_b
  have Hu4_ := Lib.hid hu4_
  clear hu4_
  go_upto_region 4 with fail
  rw [Hu4_.out]
  go_wp2_with fail
  (with_reducible refine (rot_lit u3_ 11 (11 : Int) rfl u3_0 u3_1 (by decide) (by decide) _).mono ?_)
  rintro e w' ⟨rfl, rfl⟩
  obtain ⟨u5_, hu5_⟩ : ∃ v : Int, rotF u3_ 11 = v := ⟨_, rfl⟩
  have u5_b : 0 ≤ u5_ ∧ u5_ ≤ 4294967295 := by rw [← hu5_]; exact rot_bd _ _
  obtain ⟨u5_0, u5_1⟩ := u5_b
  rw [hu5_]
  obtain ⟨u6_, hu6_⟩ : ∃ v : Int, (u4_ - u5_) % 4294967296 = v := ⟨_, rfl⟩
  have u6_b : 0 ≤ u6_ ∧ u6_ ≤ 4294967295 := by rw [← hu6_]; exact mod_bd _
  obtain ⟨u6_0, u6_1⟩ := u6_b
  have Hu5_ := Lib.hid hu5_
  have Hu6_ := Lib.hid hu6_
  clear hu5_ hu6_
  go_upto_region 5 with fail
  rw [Hu6_.out]
  obtain ⟨u7_, hu7_⟩ : ∃ v : Int, bits .xor .u32 y u6_ = v := ⟨_, rfl⟩
  have u7_b : 0 ≤ u7_ ∧ u7_ ≤ 4294967295 := by rw [← hu7_]; exact xor_bd _ _
  obtain ⟨u7_0, u7_1⟩ := u7_b
  have Hu7_ := Lib.hid hu7_
  clear hu7_
  go_upto_region 6 with fail
  rw [Hu7_.out]
  go_wp2_with fail
  (with_reducible refine (rot_lit u6_ 25 (25 : Int) rfl u6_0 u6_1 (by decide) (by decide) _).mono ?_)
  rintro e w' ⟨rfl, rfl⟩
  obtain ⟨u8_, hu8_⟩ : ∃ v : Int, rotF u6_ 25 = v := ⟨_, rfl⟩
  have u8_b : 0 ≤ u8_ ∧ u8_ ≤ 4294967295 := by rw [← hu8_]; exact rot_bd _ _
  obtain ⟨u8_0, u8_1⟩ := u8_b
  rw [hu8_]
  obtain ⟨u9_, hu9_⟩ : ∃ v : Int, (u7_ - u8_) % 4294967296 = v := ⟨_, rfl⟩
  have u9_b : 0 ≤ u9_ ∧ u9_ ≤ 4294967295 := by rw [← hu9_]; exact mod_bd _
  obtain ⟨u9_0, u9_1⟩ := u9_b
  have Hu8_ := Lib.hid hu8_
  have Hu9_ := Lib.hid hu9_
  clear hu8_ hu9_
  go_upto_region 7 with fail
  rw [Hu9_.out]
  obtain ⟨u10_, hu10_⟩ : ∃ v : Int, bits .xor .u32 u3_ u9_ = v := ⟨_, rfl⟩
  have u10_b : 0 ≤ u10_ ∧ u10_ ≤ 4294967295 := by rw [← hu10_]; exact xor_bd _ _
  obtain ⟨u10_0, u10_1⟩ := u10_b
  have Hu10_ := Lib.hid hu10_
  clear hu10_
  go_upto_region 8 with fail
  rw [Hu10_.out]
  go_wp2_with fail
  (with_reducible refine (rot_lit u9_ 16 (16 : Int) rfl u9_0 u9_1 (by decide) (by decide) _).mono ?_)
  rintro e w' ⟨rfl, rfl⟩
  obtain ⟨u11_, hu11_⟩ : ∃ v : Int, rotF u9_ 16 = v := ⟨_, rfl⟩
  have u11_b : 0 ≤ u11_ ∧ u11_ ≤ 4294967295 := by rw [← hu11_]; exact rot_bd _ _
  obtain ⟨u11_0, u11_1⟩ := u11_b
  rw [hu11_]
  obtain ⟨u12_, hu12_⟩ : ∃ v : Int, (u10_ - u11_) % 4294967296 = v := ⟨_, rfl⟩
  have u12_b : 0 ≤ u12_ ∧ u12_ ≤ 4294967295 := by rw [← hu12_]; exact mod_bd _
  obtain ⟨u12_0, u12_1⟩ := u12_b
  have Hu11_ := Lib.hid hu11_
  have Hu12_ := Lib.hid hu12_
  clear hu11_ hu12_
  go_upto_region 9 with fail
  rw [Hu12_.out]
  obtain ⟨u13_, hu13_⟩ : ∃ v : Int, bits .xor .u32 u6_ u12_ = v := ⟨_, rfl⟩
  have u13_b : 0 ≤ u13_ ∧ u13_ ≤ 4294967295 := by rw [← hu13_]; exact xor_bd _ _
  obtain ⟨u13_0, u13_1⟩ := u13_b
  have Hu13_ := Lib.hid hu13_
  clear hu13_
  go_upto_region 10 with fail
  rw [Hu13_.out]
  go_wp2_with fail
  (with_reducible refine (rot_lit u12_ 4 (4 : Int) rfl u12_0 u12_1 (by decide) (by decide) _).mono ?_)
  rintro e w' ⟨rfl, rfl⟩
  obtain ⟨u14_, hu14_⟩ : ∃ v : Int, rotF u12_ 4 = v := ⟨_, rfl⟩
  have u14_b : 0 ≤ u14_ ∧ u14_ ≤ 4294967295 := by rw [← hu14_]; exact rot_bd _ _
  obtain ⟨u14_0, u14_1⟩ := u14_b
  rw [hu14_]
  obtain ⟨u15_, hu15_⟩ : ∃ v : Int, (u13_ - u14_) % 4294967296 = v := ⟨_, rfl⟩
  have u15_b : 0 ≤ u15_ ∧ u15_ ≤ 4294967295 := by rw [← hu15_]; exact mod_bd _
  obtain ⟨u15_0, u15_1⟩ := u15_b
  have Hu14_ := Lib.hid hu14_
  have Hu15_ := Lib.hid hu15_
  clear hu14_ hu15_
  go_upto_region 11 with fail
  rw [Hu15_.out]
  obtain ⟨u16_, hu16_⟩ : ∃ v : Int, bits .xor .u32 u9_ u15_ = v := ⟨_, rfl⟩
  have u16_b : 0 ≤ u16_ ∧ u16_ ≤ 4294967295 := by rw [← hu16_]; exact xor_bd _ _
  obtain ⟨u16_0, u16_1⟩ := u16_b
  have Hu16_ := Lib.hid hu16_
  clear hu16_
  go_upto_region 12 with fail
  rw [Hu16_.out]
  go_wp2_with fail
  (with_reducible refine (rot_lit u15_ 14 (14 : Int) rfl u15_0 u15_1 (by decide) (by decide) _).mono ?_)
  rintro e w' ⟨rfl, rfl⟩
  obtain ⟨u17_, hu17_⟩ : ∃ v : Int, rotF u15_ 14 = v := ⟨_, rfl⟩
  have u17_b : 0 ≤ u17_ ∧ u17_ ≤ 4294967295 := by rw [← hu17_]; exact rot_bd _ _
  obtain ⟨u17_0, u17_1⟩ := u17_b
  rw [hu17_]
  obtain ⟨u18_, hu18_⟩ : ∃ v : Int, (u16_ - u17_) % 4294967296 = v := ⟨_, rfl⟩
  have u18_b : 0 ≤ u18_ ∧ u18_ ≤ 4294967295 := by rw [← hu18_]; exact mod_bd _
  obtain ⟨u18_0, u18_1⟩ := u18_b
  have Hu17_ := Lib.hid hu17_
  have Hu18_ := Lib.hid hu18_
  clear hu17_ hu18_
  go_upto_region 13 with fail
  rw [Hu18_.out]
  obtain ⟨u19_, hu19_⟩ : ∃ v : Int, bits .xor .u32 u12_ u18_ = v := ⟨_, rfl⟩
  have u19_b : 0 ≤ u19_ ∧ u19_ ≤ 4294967295 := by rw [← hu19_]; exact xor_bd _ _
  obtain ⟨u19_0, u19_1⟩ := u19_b
  have Hu19_ := Lib.hid hu19_
  clear hu19_
  go_upto_region 14 with fail
  rw [Hu19_.out]
  go_wp2_with fail
  (with_reducible refine (rot_lit u18_ 24 (24 : Int) rfl u18_0 u18_1 (by decide) (by decide) _).mono ?_)
  rintro e w' ⟨rfl, rfl⟩
  obtain ⟨u20_, hu20_⟩ : ∃ v : Int, rotF u18_ 24 = v := ⟨_, rfl⟩
  have u20_b : 0 ≤ u20_ ∧ u20_ ≤ 4294967295 := by rw [← hu20_]; exact rot_bd _ _
  obtain ⟨u20_0, u20_1⟩ := u20_b
  rw [hu20_]
  obtain ⟨u21_, hu21_⟩ : ∃ v : Int, (u19_ - u20_) % 4294967296 = v := ⟨_, rfl⟩
  have u21_b : 0 ≤ u21_ ∧ u21_ ≤ 4294967295 := by rw [← hu21_]; exact mod_bd _
  obtain ⟨u21_0, u21_1⟩ := u21_b
  have Hu20_ := Lib.hid hu20_
  have Hu21_ := Lib.hid hu21_
  clear hu20_ hu21_
  go_upto_region 15 with fail
  rw [Hu21_.out]
  go_wp2_with fail
  go_end0
  refine ⟨rfl, ?_⟩
  rw [show lastF (x, y, z) = (u15_, u18_, u21_) by simp only [lastF, Hu1_.out, Hu2_.out, Hu3_.out, Hu4_.out, Hu5_.out, Hu6_.out, Hu7_.out, Hu8_.out, Hu9_.out, Hu10_.out, Hu11_.out, Hu12_.out, Hu13_.out, Hu14_.out, Hu15_.out, Hu16_.out, Hu17_.out, Hu18_.out, Hu19_.out, Hu20_.out, Hu21_.out]]
  exact TrioStep.mk3 (H.out.drewN nq) ⟨by omega, by omega⟩ ⟨by omega, by omega⟩ ⟨by omega, by omega⟩
end Go.Proofs.Ytojjgagcpkjkaaa
