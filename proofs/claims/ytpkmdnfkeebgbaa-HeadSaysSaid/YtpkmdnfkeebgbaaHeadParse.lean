/- What head.parse computes: a head's parts out of its bytes. Conditions stand as premises. -/
import Derived.Test.YtpkmdnfkeebgbaaHeadOf
import Derived.Test.YtpkmdnfkeebgbaaLeGet
import Derived.Test.YtpkmdnfkeebgbaaCopyS2
namespace Go.Proofs.Ytpkmdnfkeebgbaa
open Go.ChangeShapes Go.WideShapes Go.ChangeAt Go.RowKit
set_option linter.unusedVariables false
set_option linter.unusedSimpArgs false

/-- The number that stands at a place. -/
def gN (l : List Int) (p n : Nat) : Int := leN ((l.drop p).take n)
theorem getA_gN {l : List Int} {p n : Nat} (hs : okSize n = true) (h : p + n ≤ l.length) : getA l p n = gN l p n ∧ getB l p n = true := by
  have hb : getB l p n = true := by
    unfold getB
    simp only [Bool.and_eq_true, decide_eq_true_eq]
    exact ⟨⟨hs, by omega⟩, by omega⟩
  refine ⟨?_, hb⟩
  unfold getA gN
  rw [if_pos hb]
  simp
theorem gN_bound {l : List Int} (hl : IsB l) (p n : Nat) : 0 ≤ gN l p n ∧ gN l p n < 256 ^ n :=
  leN_le _ ((hl.drop p).take n) n (by simp; omega)
theorem gN_u32 {l : List Int} (hl : IsB l) (p : Nat) : U32 (gN l p 4) := by
  obtain ⟨h0, h1⟩ := gN_bound hl p 4
  exact ⟨h0, by have : (256 : Int) ^ 4 = 4294967296 := by decide
                omega⟩
theorem gN_u64 {l : List Int} (hl : IsB l) (p : Nat) : U64 (gN l p 8) := by
  obtain ⟨h0, h1⟩ := gN_bound hl p 8
  exact ⟨h0, by have : (256 : Int) ^ 8 = 18446744073709551616 := by decide
                omega⟩
/-- The numbers of eight bytes, so many. -/
def numsP (l : List Int) (m : Nat) : List Int := (List.range m).map fun k => gN l (88 + 8 * k) 8
theorem numsP_length (l : List Int) (m : Nat) : (numsP l m).length = m := by simp [numsP]
theorem numsP_snoc (l : List Int) (m : Nat) : numsP l (m + 1) = numsP l m ++ [gN l (88 + 8 * m) 8] := by simp [numsP, List.range_succ]
theorem numsP_u64 {l : List Int} (hl : IsB l) (m : Nat) : ∀ v ∈ numsP l m, U64 v := by
  intro v hv
  obtain ⟨k, _, rfl⟩ := List.mem_map.1 hv
  exact gN_u64 hl _
theorem numsP_at (l : List Int) (m k : Nat) (h : k < m) : (numsP l m)[k]? = some (gN l (88 + 8 * k) 8) := by
  unfold numsP
  rw [List.getElem?_map, List.getElem?_range h]; rfl
/-- A head's names. -/
def idsP (l : List Int) : List Int := (l.drop 24).take 64
theorem idsP_length {l : List Int} (h : 272 ≤ l.length) : (idsP l).length = 64 := by simp [idsP]; omega
/-- The head that bytes begin with. -/
def parseL (l : List Int) : List Value := headL (gN l 8 4) (gN l 12 4) (l[16]?.getD 0) (idsP l) (numsP l 21) (gN l 256 4) (gN l 260 4) (gN l 264 8)

theorem getn_any (a : Option Addr) (len cap : Nat) (l : List Int) (p n : Nat) (w : World) (hr : RdB w a len cap l) (hlen : len ≤ 1000000) (hs : okSize n = true) (h : p + n ≤ len) :
    Calls Try.prog 33 #[.slice a len cap, .int .i64 p, .int .i64 n] w fun e w' => e = .returned (.tuple #[.int .u64 (gN l p n), .bool true]) ∧ w = w' := by
  obtain ⟨h1, h2⟩ := getA_gN (l := l) (p := p) hs (by rw [hr.len]; exact h)
  have := get_any a len cap l p n w hr (by omega)
  rwa [h1, h2] at this
theorem get4_any (a : Option Addr) (len cap : Nat) (l : List Int) (p : Nat) (w : World) (hr : RdB w a len cap l) (hlen : len ≤ 1000000) (h : p + 4 ≤ len) :
    Calls Try.prog 33 #[.slice a len cap, .int .i64 p, .int .i64 4] w fun e w' => e = .returned (.tuple #[.int .u64 (gN l p 4), .bool true]) ∧ w = w' := getn_any a len cap l p 4 w hr hlen rfl h
theorem get8_any (a : Option Addr) (len cap : Nat) (l : List Int) (p : Nat) (w : World) (hr : RdB w a len cap l) (hlen : len ≤ 1000000) (h : p + 8 ≤ len) :
    Calls Try.prog 33 #[.slice a len cap, .int .i64 p, .int .i64 8] w fun e w' => e = .returned (.tuple #[.int .u64 (gN l p 8), .bool true]) ∧ w = w' := getn_any a len cap l p 8 w hr hlen rfl h

theorem four_any (b0 : Nat) (a : Option Addr) (n c : Nat) (l : List Int) (p : Nat) (w : World) (hbox : w.cell? ⟨b0, 0, none⟩ = some (.slice a n c)) (hr : RdB w a n c l) (hn : n ≤ 1000000) (hp : p + 4 ≤ n) :
    Calls Try.prog 32 #[.int .i64 p, .pointer (some ⟨b0, 0, none⟩)] w fun e w' => e = .returned (.int .u32 (gN l p 4)) ∧ w = w' := by
  obtain ⟨g0, g1⟩ := gN_u32 hr.1 p
  have hw : IntKind.u32.wrap (gN l p 4) = gN l p 4 := by rw [IntKind.wrap_u32]; omega
  have HG := Lib.hid (get4_any a n c l p w hr hn hp)
  generalize gN l p 4 = v at *
  clear hr
  go_enter Try.func32, Try.ntmps32
  go_wp2_with (go_at_call 33; refine HG.out.mono ?_; rintro e w1 ⟨rfl, rfl⟩)
  go_ret
  exact ⟨rfl, rfl⟩

theorem RdB.mono2 {w w' : World} {b off n c H : Nat} {l : List Int} (h : RdB w (some ⟨b, off, none⟩) n c l) (hu : Upd (· = H) w w') (hne : b ≠ H) : RdB w' (some ⟨b, off, none⟩) n c l := h.upd hu (fun x hx => by cases hx; exact hne)
theorem rd_cutd {w : World} {b off n c : Nat} {l : List Int} (h : RdB w (some ⟨b, off, none⟩) n c l) (hn : 272 ≤ n) (k : Nat) (hk : k < 272) : Rd (Value.int .u8) w.drew (some ⟨b, off + k, none⟩) (n - k) (c - k) ((l.drop k).take (n - k)) := by
  have hc := h.2.2.1
  have := (h.drewd.sliced k n (by omega) (Nat.le_refl _)).2
  rw [if_neg (by omega)] at this
  simpa [addr_add] using this
theorem ids_src {l : List Int} (hl : 272 ≤ l.length) {k : Nat} (hk : 16 * k + 16 ≤ 64) : ((l.drop (24 + 16 * k)).take (l.length - (24 + 16 * k))).take 16 = idN (idsP l) (16 * k) := by
  unfold idN idsP
  rw [List.take_take, List.drop_take, List.drop_drop, List.take_take]
  congr 1 <;> omega
theorem ids_next {D : List Int} (hD : D.length = 64) (k : Nat) (hk : k < 4) :
    (D.take (16 * k) ++ List.replicate (64 - 16 * k) 0).take (16 * k) ++ (idN D (16 * k) ++ (D.take (16 * k) ++ List.replicate (64 - 16 * k) 0).drop (16 * k + 16)) = D.take (16 * (k + 1)) ++ List.replicate (64 - 16 * (k + 1)) 0 := by
  rw [take_id, List.append_assoc]
  have h1 : (D.take (16 * k)).length = 16 * k := by simp; omega
  rw [List.take_append_of_le_length (by omega), List.take_of_length_le (by omega), List.drop_append, h1, List.drop_of_length_le (by omega), List.nil_append, List.drop_replicate, show 64 - 16 * k - (16 * k + 16 - 16 * k) = 64 - 16 * (k + 1) by omega]
theorem nums_next (l : List Int) (k : Nat) (hk : k < 21) : (numsP l k ++ List.replicate (21 - k) 0).set k (gN l (88 + 8 * k) 8) = numsP l (k + 1) ++ List.replicate (21 - (k + 1)) 0 := by
  rw [List.set_append_right _ _ (by rw [numsP_length]; omega), numsP_length, Nat.sub_self, numsP_snoc, show 21 - k = (21 - (k + 1)) + 1 by omega, List.replicate_succ, List.append_assoc]
  rfl
set_option maxRecDepth 100000 in
theorem Try.builtP (v : Int) : Try.prog.built 29 [(2, .int .i64 v)] = some (headL 0 0 v (List.replicate 64 0) (List.replicate 21 0) 0 0 0).toArray := by kernel_rfl
set_option maxRecDepth 100000 in
set_option maxHeartbeats 4000000 in
theorem parse_any (a : Option Addr) (n c : Nat) (l : List Int) (w : World) (hr : RdB w a n c l) (hn : n ≤ 1000000) (hlo : 272 ≤ n) :
    Calls Try.prog 20 #[.slice a n c] w fun e w' => e = .returned (.agg (parseL l).toArray) ∧ Below w.heap.size w w' := by
  obtain rfl : l.length = n := hr.len
  obtain ⟨b, off, rfl, hbl, hcs⟩ := hr.2.at (by omega)
  have hcc : 272 ≤ c := by have := hr.2.2.1; omega
  have hmf : ∀ (fn : Fn) (first cap : Array Value) (w : World), (Instr.makeFunc fn first cap).run Try.prog w = .ok (.func fn first cap) w := fun _ _ _ _ => rfl
  have h16 := hcs 16 (l[16]?.getD 0) (by rw [List.getElem?_eq_getElem (by omega)]; rfl)
  have hb16 := hr.1.getD 16
  generalize hv16 : l[16]?.getD 0 = v16 at h16 hb16
  have HV16 := Lib.hid hv16
  have HR := Lib.hid hr
  clear hv16 hcs
  go_enter Try.func20, Try.ntmps20
  go_upto_region 1 with fail
  have hQ1 : ((w.alloc (.cells #[Value.slice (some ⟨b, off, none⟩) l.length c] 22)).alloc (.cells Try.zeroCells29 29)).cell? ⟨w.heap.size, 0, none⟩ = some (.slice (some ⟨b, off, none⟩) l.length c) :=
    bcell (below_alloc (w.alloc (.cells #[Value.slice (some ⟨b, off, none⟩) l.length c] 22)) _) (by simp) (cell_of_heap (heap_alloc_new w _) 0 _ rfl)
  have hZ1 : ((w.alloc (.cells #[Value.slice (some ⟨b, off, none⟩) l.length c] 22)).alloc (.cells Try.zeroCells29 29)).heap[w.heap.size + 1]? = some (.cells Try.zeroCells29 29 (0, 0)) := by
    have := heap_alloc_new (w.alloc (.cells #[Value.slice (some ⟨b, off, none⟩) l.length c] 22)) (.cells Try.zeroCells29 29)
    simpa using this
  have HB1 := Lib.hid ((below_alloc w (.cells #[Value.slice (some ⟨b, off, none⟩) l.length c] 22)).alloc (by simp) (.cells Try.zeroCells29 29))
  generalize (w.alloc (.cells #[Value.slice (some ⟨b, off, none⟩) l.length c] 22)).alloc (.cells Try.zeroCells29 29) = w1 at hQ1 hZ1 HB1 ⊢
  have hS1 := lt_of_heap hZ1
  have HZ1 := Lib.hid hZ1
  have h16' := bcell HB1.out hbl h16
  have HBU := Lib.hid (Try.builtP v16)
  clear hZ1 h16
  go_upto_region 2 with (first
    | (refine wpList_buildS rfl rfl (cells := (headL 0 0 v16 (List.replicate 64 0) (List.replicate 21 0) 0 0 0).toArray) (Eq.trans (by kernel_rfl) HBU.out) ?_)
    | (with_reducible refine wpList_storeS rfl rfl Try.headI rfl rfl (heap_alloc_new w1 _) (by with_unfolding_all rfl) (headL_size (n := 21) rfl rfl) headL_one ?_; intro w2 hX2 hu2))
  have HUp := Lib.hid ((Upd.ofBelow (F := (· = w1.heap.size)) (below_alloc w1 _)).trans hu2 (fun _ _ h => h))
  have HB2 := Lib.hid (HB1.out.trans (HUp.out.below (B := w.heap.size) HB1.out.size (fun j hj => by omega)))
  have HQ2 := ucell HUp.out (by omega) hQ1
  have HZ2 := Lib.hid (row_upd HUp.out (by omega) HZ1.out)
  have HX2 := hX2.out
  clear hu2 hX2 hQ1 h16'
  obtain ⟨H, hH⟩ : ∃ H, w1.heap.size = H := ⟨_, rfl⟩
  have HH := Lib.hid hH
  rw [hH] at HX2 HUp ⊢
  obtain ⟨Bx, hBx⟩ : ∃ Bx, w.heap.size = Bx := ⟨_, rfl⟩
  have HBx := Lib.hid hBx
  rw [hBx] at HQ2 HZ2 ⊢
  have hne1 : Bx < H := by omega
  have hne2 : Bx + 1 < H := by omega
  have hbH : b < H := by omega
  clear hH hBx
  have HR2 := Lib.hid (HR.out.mono HB2.out)
  have HF8 := Lib.hid (show Calls Try.prog 32 #[.int .i64 8, .pointer (some ⟨Bx, 0, none⟩)] w2 (fun e w' => e = .returned (.int .u32 (gN l 8 4)) ∧ w2 = w') from four_any Bx _ _ _ l 8 w2 HQ2 HR2.out hn (by omega))
  have HF12 := Lib.hid (show Calls Try.prog 32 #[.int .i64 12, .pointer (some ⟨Bx, 0, none⟩)] w2 (fun e w' => e = .returned (.int .u32 (gN l 12 4)) ∧ w2 = w') from four_any Bx _ _ _ l 12 w2 HQ2 HR2.out hn (by omega))
  have i0 := headl_0 HX2
  have i1 := headl_1 HX2
  have f0 := free_of_heap HX2 0
  have f1 := free_of_heap HX2 1
  obtain ⟨co, hco⟩ : ∃ co, gN l 8 4 = co := ⟨_, rfl⟩
  obtain ⟨inc, hinc⟩ : ∃ inc, gN l 12 4 = inc := ⟨_, rfl⟩
  have HCo := Lib.hid hco
  have HInc := Lib.hid hinc
  rw [hco] at HF8
  rw [hinc] at HF12
  clear hco hinc
  go_upto_region 3 with fail
  go_upto_region 4 with (first
    | (go_at_call 32; with_reducible refine HF8.out.mono ?_; rintro e wa ⟨rfl, rfl⟩)
    | (go_at_call 32; with_reducible refine HF12.out.mono ?_; rintro e wa ⟨rfl, rfl⟩))
  have hX3 := row_set (row_set HX2 0 (.int .u32 co)) 1 (.int .u32 inc)
  rw [headL_setCo, headL_setInc] at hX3
  have HU3 := Lib.hid ((Upd.setCell (F := (· = H)) w2 ⟨H, 0, none⟩ (.int .u32 co) rfl).trans (Upd.setCell (F := (· = H)) _ ⟨H, 1, none⟩ (.int .u32 inc) rfl) (fun _ _ h => h))
  generalize (w2.setCell ⟨H, 0, none⟩ (.int .u32 co)).setCell ⟨H, 1, none⟩ (.int .u32 inc) = w3 at hX3 HU3 ⊢
  have hQ3 := ucell HU3.out (by omega) HQ2
  have HX3 := Lib.hid hX3
  clear HQ2 i0 i1 f0 f1 HX2 hX3
  go_upto_region 6 with (go_at_call 25; refine (ids4_any H _).mono ?_; rintro e w5 ⟨a5, rfl, hr5, hb5, hg5⟩)
  have hQ5 : w5.cell? ⟨Bx, 0, none⟩ = some (.slice (some ⟨b, off, none⟩) l.length c) := bcell hb5 (World.block_lt_of_cell? w3 _ hQ3) hQ3
  have HX5 := Lib.hid (row_below hb5 (lt_of_heap HX3.out) HX3.out)
  have HR5 := Lib.hid hr5
  have HG5 := Lib.hid (show ∀ x, a5 = some x → x.block ≠ H from fun x hx => by have := hg5 x hx; have := lt_of_heap HX3.out; omega)
  have HU5 := Lib.hid (HU3.out.trans (Upd.ofBelow (F := (· = H)) hb5) (fun _ _ h => h))
  clear hr5 hg5 hb5 hQ3
  have HR5w := Lib.hid ((HR2.out.upd HU5.out (fun x hx => by cases hx; show b ≠ H; omega)))
  have hIL := idsP_length hlo
  have HIL := Lib.hid hIL
  go_loopw [5, 24] (fun at_ i wr => ∃ (k : Nat), k ≤ 4 ∧ i = .int .i64 (k : Int) ∧ at_ = .int .i64 (24 + 16 * (k : Int)) ∧ wr.heap[H]? = some (.cells (headL co inc v16 ((idsP l).take (16 * k) ++ List.replicate (64 - 16 * k) 0) (List.replicate 21 0) 0 0 0).toArray 29 (0, 0)) ∧ Upd (· = H) w5 wr) (fun _ i _ => 4 - (intOf i).toNat)
  case atStart => exact ⟨0, Nat.zero_le _, rfl, rfl, HX5.out, Upd.refl _ _⟩
  case round =>
    obtain ⟨k, hk, rfl, rfl, hXr, hU⟩ := hrel
    have HU := Lib.hid hU
    have hQr : wr.cell? ⟨Bx, 0, none⟩ = some (.slice (some ⟨b, off, none⟩) l.length c) := ucell hU (by omega) hQ5
    have hri := HR5.out.upd hU HG5.out
    clear hU
    by_cases hlt : k < 4
    · have hlt' : (k : Int) < 4 := by omega
      obtain ⟨b5, off5, rfl, hb5, hcs⟩ := hri.at (by omega)
      have hc := hcs k _ (idPs_at k hlt)
      unfold encP at hc
      clear hcs hri
      go_upto_region 8 with fail
      have hC : wr.drew.cell? ⟨Bx, 0, none⟩ = some (.slice (some ⟨b, off, none⟩) l.length c) := hQr
      refine wp_region_held (S := fun w' => w'.cell? ⟨Bx, 0, none⟩ = some (.slice (some ⟨b, off, none⟩) l.length c)) (by kernel_rfl) ?_
      change wpAnyH _ _ _ _ _ _ _ _ wr.drew
      have q1 : 24 + 16 * (k : Int) ≤ (l.length : Int) := by omega
      have q2 : 24 + 16 * (k : Int) ≤ (c : Int) := by have := hr.2.2.1; omega
      have q3 : 0 ≤ 24 + 16 * (k : Int) := by omega
      refine held_take 0 (d := some 28) (v := (.int .i64 (24 + 16 * (k : Int)))) rfl rfl (by kernel_rfl) (by kernel_rfl) (by kernel_rfl) (fun _ _ _ h => h) hC (by kernel_rfl) (fun w hSw => by have x0 := hSw; clear hSw; go_simp) ?_
      try simp only [Act.put, List.setIfInBounds_toArray, List.set_cons_zero, List.set_cons_succ]
      refine held_take 1 (d := some 29) (v := (.pointer (some ⟨H, 3 + 16 * k, none⟩))) rfl rfl (by kernel_rfl) (by kernel_rfl) (by kernel_rfl) (fun _ _ _ h => h) hC (by kernel_rfl) (fun w hSw => by have x0 := hSw; clear hSw; go_simp) ?_
      try simp only [Act.put, List.setIfInBounds_toArray, List.set_cons_zero, List.set_cons_succ]
      refine held_take 2 (d := some 30) (v := (.pointer (some ⟨H, 3 + 16 * k, none⟩))) rfl rfl (by kernel_rfl) (by kernel_rfl) (by kernel_rfl) (fun _ _ _ h => h) hC (by kernel_rfl) (fun w hSw => by have x0 := hSw; clear hSw; go_simp) ?_
      try simp only [Act.put, List.setIfInBounds_toArray, List.set_cons_zero, List.set_cons_succ]
      refine held_take 3 (d := some 31) (v := (.slice (some ⟨H, 3 + 16 * k, none⟩) 16 16)) rfl rfl (by kernel_rfl) (by kernel_rfl) (by kernel_rfl) (fun _ _ _ h => h) hC (by kernel_rfl) (fun w hSw => by have x0 := hSw; clear hSw; go_simp) ?_
      try simp only [Act.put, List.setIfInBounds_toArray, List.set_cons_zero, List.set_cons_succ]
      refine held_take 4 (d := some 32) (v := (.slice (some ⟨b, off, none⟩) l.length c)) rfl rfl (by kernel_rfl) (by kernel_rfl) (by kernel_rfl) (fun _ _ _ h => h) hC (by kernel_rfl) (fun w hSw => by have x0 := hSw; clear hSw; go_simp) ?_
      try simp only [Act.put, List.setIfInBounds_toArray, List.set_cons_zero, List.set_cons_succ]
      refine held_take 5 (d := some 33) (v := (.int .i64 (24 + 16 * (k : Int)))) rfl rfl (by kernel_rfl) (by kernel_rfl) (by kernel_rfl) (fun _ _ _ h => h) hC (by kernel_rfl) (fun w hSw => by have x0 := hSw; clear hSw; go_simp) ?_
      try simp only [Act.put, List.setIfInBounds_toArray, List.set_cons_zero, List.set_cons_succ]
      have hT : (24 + 16 * (k : Int)).toNat = 24 + 16 * k := by omega
      have hcne : ¬ c = 24 + 16 * k := by omega
      refine held_take 6 (d := some 34) (v := (.slice (some ⟨b, off + (24 + 16 * k), none⟩) (l.length - (24 + 16 * k)) (c - (24 + 16 * k)))) rfl rfl (by kernel_rfl) (by kernel_rfl) (by kernel_rfl) (fun _ _ _ h => h) hC (by kernel_rfl) (fun w hSw => by have x0 := hSw; clear hSw; go_simp) ?_
      try simp only [Act.put, List.setIfInBounds_toArray, List.set_cons_zero, List.set_cons_succ]
      have HRs := Lib.hid (rd_cutd (HR5w.out.mono2 HU.out (by omega)) (by omega) (24 + 16 * k) (by omega))
      refine held_one 7 rfl (by kernel_rfl) (fun K hK => ?_)
      have HLi := Lib.hid (show ((idsP l).take (16 * k) ++ List.replicate (64 - 16 * k) (0 : Int)).length = 64 from by simp only [List.length_append, List.length_take, List.length_replicate, HIL.out]; omega)
      have HLn := Lib.hid (show (headL co inc v16 ((idsP l).take (16 * k) ++ List.replicate (64 - 16 * k) 0) (List.replicate 21 0) 0 0 0).length = 91 from headL_length (n := 21) HLi.out (List.length_replicate ..))
      refine step_copyS2 rfl rfl Try.oneB rfl rfl hXr HRs.out (by rw [HLn.out]; omega) (by omega) (by omega) (fun _ => rfl) ?_
      intro w6 hX6 hu6
      have hX6' := hX6.out
      rw [ids_src hlo (by omega), headL_spliceI HLi.out (16 * k) _ (idN_length HIL.out _ (by omega)) (by omega), ids_next HIL.out k hlt] at hX6'
      have HX6 := Lib.hid hX6'
      have HU6 := Lib.hid ((HU.out.trans (Upd.ofBelow (F := (· = H)) (below_drew wr)) (fun _ _ h => h)).trans hu6 (fun _ _ h => h))
      have hC6 : w6.cell? ⟨Bx, 0, none⟩ = some (.slice (some ⟨b, off, none⟩) l.length c) := ucell hu6 (by omega) hC
      clear hX6 hu6 hX6' hC hXr HRs
      refine hK _ _ hC6 ?_
      clear hK K
      try simp only [Act.put, List.setIfInBounds_toArray, List.set_cons_zero, List.set_cons_succ]
      have hwk : IntKind.i64.wrap (24 + 16 * ((k : Int) + 1)) = 24 + 16 * ((k : Int) + 1) := by rw [IntKind.wrap_i64]; omega
      refine held_take 8 (d := some 36) (v := (.int .i64 (24 + 16 * ((k : Int) + 1)))) rfl rfl (by kernel_rfl) (by kernel_rfl) (by kernel_rfl) (fun _ _ _ h => h) hC6 (by kernel_rfl) (fun w hSw => by clear hSw; go_simp; exact hwk) ?_
      try simp only [Act.put, List.setIfInBounds_toArray, List.set_cons_zero, List.set_cons_succ]
      refine held_take 9 (d := some 5) (v := (.int .i64 (24 + 16 * ((k : Int) + 1)))) rfl rfl (by kernel_rfl) (by kernel_rfl) (by kernel_rfl) (fun _ _ _ h => h) hC6 (by kernel_rfl) (fun w hSw => by clear hSw; go_simp) ?_
      try simp only [Act.put, List.setIfInBounds_toArray, List.set_cons_zero, List.set_cons_succ]
      refine wpAnyH_done (by kernel_rfl) ?_ _
      clear hwk
      go_wp2_with fail
      go_roundw
      case rel => exact ⟨k + 1, by omega, by congr 1, by congr 1, HX6.out, HU6.out⟩
      case measure => simp [intOf]; omega
    · obtain rfl : k = 4 := by omega
      have hge : ¬ ((4 : Int) < 4) := by omega
      rw [show 64 - 16 * 4 = 0 by omega, List.replicate_zero, List.append_nil, List.take_of_length_le (by rw [HIL.out]; omega)] at hXr
      have HXr := Lib.hid hXr
      have hRrr := HR5w.out.mono2 HU.out (by omega)
      have HUr := Lib.hid (HU5.out.trans HU.out (fun _ _ h => h))
      clear hXr hri HR5 HG5 HU hQ5 HX5 HU5 HR5w
      go_upto_region 11 with (go_at_call 26; refine (long21_any H _).mono ?_; rintro e w7 ⟨a7, rfl, hr7, hb7, hg7⟩)
      have hQ7 : w7.cell? ⟨Bx, 0, none⟩ = some (.slice (some ⟨b, off, none⟩) l.length c) := bcell hb7 (World.block_lt_of_cell? wr _ hQr) hQr
      have HX7 := Lib.hid (row_below hb7 (lt_of_heap HXr.out) HXr.out)
      have HR7 := Lib.hid hr7
      have HG7 := Lib.hid (show ∀ x, a7 = some x → x.block ≠ H from fun x hx => by have := hg7 x hx; have := lt_of_heap HXr.out; omega)
      have HU7 := Lib.hid (HUr.out.trans (Upd.ofBelow (F := (· = H)) hb7) (fun _ _ h => h))
      have HRb := Lib.hid (hRrr.mono hb7)
      clear hr7 hg7 hb7 hQr hRrr
      go_loopw [5, 40] (fun at_ i wr => ∃ (k : Nat), k ≤ 21 ∧ i = .int .i64 (k : Int) ∧ at_ = .int .i64 (88 + 8 * (k : Int)) ∧ wr.heap[H]? = some (.cells (headL co inc v16 (idsP l) (numsP l k ++ List.replicate (21 - k) 0) 0 0 0).toArray 29 (0, 0)) ∧ Upd (· = H) w7 wr) (fun _ i _ => 21 - (intOf i).toNat)
      case atStart => exact ⟨0, Nat.zero_le _, rfl, rfl, HX7.out, Upd.refl _ _⟩
      case round =>
        obtain ⟨k, hk, rfl, rfl, hXr, hU⟩ := hrel
        have HU := Lib.hid hU
        have hQr : wr.cell? ⟨Bx, 0, none⟩ = some (.slice (some ⟨b, off, none⟩) l.length c) := ucell hU (by omega) hQ7
        have HRr := Lib.hid (HRb.out.mono2 hU (by omega))
        have hri := HR7.out.upd hU HG7.out
        clear hU
        by_cases hlt : k < 21
        · have hlt' : (k : Int) < 21 := by omega
          obtain ⟨b7, off7, hab7, hb7, hcs⟩ := hri.at (by omega)
          subst hab7
          have hc := hcs k _ (longPs_at k hlt)
          unfold encP at hc
          have HG := Lib.hid (show Calls Try.prog 33 #[.slice (some ⟨b, off, none⟩) l.length c, .int .i64 (88 + 8 * (k : Int)), .int .i64 8] wr (fun e w' => e = .returned (.tuple #[.int .u64 (gN l (88 + 8 * k) 8), .bool true]) ∧ wr = w') from by have := get8_any (some ⟨b, off, none⟩) l.length c l (88 + 8 * k) wr HRr.out hn (by omega); simpa using this)
          have hNl : (numsP l k ++ List.replicate (21 - k) (0 : Int)).length = 21 := by simp only [List.length_append, numsP_length, List.length_replicate]; omega
          obtain ⟨ov, hov⟩ : ∃ ov, (numsP l k ++ List.replicate (21 - k) (0 : Int))[k]? = some ov := ⟨_, List.getElem?_eq_getElem (by omega)⟩
          have i67 := cell_of_heap hXr (67 + k) _ (headL_N HIL.out k _ hov)
          have f67 := free_of_heap hXr (67 + k)
          have HXn := Lib.hid (row_set hXr (67 + k) (.int .u64 (gN l (88 + 8 * k) 8)))
          rw [headL_setN HIL.out k (by omega), nums_next l k hlt] at HXn
          have HUn := Lib.hid (HU.out.trans (Upd.setCell (F := (· = H)) wr ⟨H, 67 + k, none⟩ (.int .u64 (gN l (88 + 8 * k) 8)) rfl) (fun _ _ h => h))
          have hwk : IntKind.i64.wrap (88 + 8 * ((k : Int) + 1)) = 88 + 8 * ((k : Int) + 1) := by rw [IntKind.wrap_i64]; omega
          generalize gN l (88 + 8 * k) 8 = gv at *
          clear hcs hri hXr hNl hov HRr HU
          go_wp2_with (go_at_call 33; refine HG.out.mono ?_; rintro e wg ⟨rfl, rfl⟩)
          go_roundw
          case rel => exact ⟨k + 1, by omega, by congr 1, by congr 1, HXn.out, HUn.out⟩
          case measure => simp [intOf]; omega
        · obtain rfl : k = 21 := by omega
          have hge2 : ¬ ((21 : Int) < 21) := by omega
          rw [Nat.sub_self, List.replicate_zero, List.append_nil] at hXr
          have hN21 := numsP_length l 21
          have HN21 := Lib.hid hN21
          have i88 := cell_of_heap hXr 88 _ (headL_ta HIL.out hN21)
          have i89 := cell_of_heap hXr 89 _ (headL_ti HIL.out hN21)
          have i90 := cell_of_heap hXr 90 _ (headL_te HIL.out hN21)
          have f88 := free_of_heap hXr 88
          have f89 := free_of_heap hXr 89
          have f90 := free_of_heap hXr 90
          have hXn := row_set (row_set (row_set hXr 88 (.int .u32 (gN l 256 4))) 89 (.int .u32 (gN l 260 4))) 90 (.int .u64 (gN l 264 8))
          rw [headL_setTa (n := 21) HIL.out hN21, headL_setTi (n := 21) HIL.out hN21, headL_setTe (n := 21) HIL.out hN21] at hXn
          have HXn := Lib.hid hXn
          have HUn := Lib.hid (((HU7.out.trans HU.out (fun _ _ h => h)).trans (Upd.setCell (F := (· = H)) wr ⟨H, 88, none⟩ (.int .u32 (gN l 256 4)) rfl) (fun _ _ h => h)).trans ((Upd.setCell (F := (· = H)) _ ⟨H, 89, none⟩ (.int .u32 (gN l 260 4)) rfl).trans (Upd.setCell (F := (· = H)) _ ⟨H, 90, none⟩ (.int .u64 (gN l 264 8)) rfl) (fun _ _ h => h)) (fun _ _ h => h))
          have HF1 := Lib.hid (show Calls Try.prog 32 #[.int .i64 256, .pointer (some ⟨Bx, 0, none⟩)] wr (fun e w' => e = .returned (.int .u32 (gN l 256 4)) ∧ wr = w') from four_any Bx _ _ _ l 256 wr hQr HRr.out hn (by omega))
          have HF2 := Lib.hid (show Calls Try.prog 32 #[.int .i64 260, .pointer (some ⟨Bx, 0, none⟩)] wr (fun e w' => e = .returned (.int .u32 (gN l 260 4)) ∧ wr = w') from four_any Bx _ _ _ l 260 wr hQr HRr.out hn (by omega))
          have HU2 := Lib.hid ((Upd.setCell (F := (· = H)) wr ⟨H, 88, none⟩ (.int .u32 (gN l 256 4)) rfl).trans (Upd.setCell (F := (· = H)) _ ⟨H, 89, none⟩ (.int .u32 (gN l 260 4)) rfl) (fun _ _ h => h))
          have HG := Lib.hid (show Calls Try.prog 33 #[.slice (some ⟨b, off, none⟩) l.length c, .int .i64 264, .int .i64 8] ((wr.setCell ⟨H, 88, none⟩ (.int .u32 (gN l 256 4))).setCell ⟨H, 89, none⟩ (.int .u32 (gN l 260 4))) (fun e w' => e = .returned (.tuple #[.int .u64 (gN l 264 8), .bool true]) ∧ ((wr.setCell ⟨H, 88, none⟩ (.int .u32 (gN l 256 4))).setCell ⟨H, 89, none⟩ (.int .u32 (gN l 260 4))) = w') from get8_any (some ⟨b, off, none⟩) l.length c l 264 _ (HRr.out.mono2 HU2.out (by omega)) hn (by omega))
          have HPL := Lib.hid (show headL co inc v16 (idsP l) (numsP l 21) (gN l 256 4) (gN l 260 4) (gN l 264 8) = parseL l from by unfold parseL; rw [HCo.out, HInc.out, HV16.out])
          rw [HPL.out] at HXn
          have HPs := Lib.hid (show (parseL l).toArray.size = 91 from headL_size (n := 21) HIL.out hN21)
          have HP1 := Lib.hid (show (parseL l).toArray.all (·.oneCell') = true from headL_one)
          generalize gN l 256 4 = g1 at *
          generalize gN l 260 4 = g2 at *
          generalize gN l 264 8 = g3 at *
          clear hXr hXn hri HRr HU hN21
          go_upto_region 17 with (first
            | (go_at_call 32; with_reducible refine HF1.out.mono ?_; rintro e wa ⟨rfl, rfl⟩)
            | (go_at_call 32; with_reducible refine HF2.out.mono ?_; rintro e wa ⟨rfl, rfl⟩))
          have hQs : ((wr.setCell ⟨H, 88, none⟩ (.int .u32 g1)).setCell ⟨H, 89, none⟩ (.int .u32 g2)).cell? ⟨Bx, 0, none⟩ = some (.slice (some ⟨b, off, none⟩) l.length c) := ucell HU2.out (by omega) hQr
          go_upto_region 18 with (go_at_call 33; with_reducible refine HG.out.mono ?_; rintro e wa ⟨rfl, rfl⟩)
          clear hQs
          generalize ((wr.setCell ⟨H, 88, none⟩ (.int .u32 g1)).setCell ⟨H, 89, none⟩ (.int .u32 g2)).setCell ⟨H, 90, none⟩ (.int .u64 g3) = w9 at HXn HUn ⊢
          have HZ9 := Lib.hid (row_upd HUn.out (by omega) HZ2.out)
          have HB9 := Lib.hid (HB2.out.trans (HUn.out.below (B := w.heap.size) HB2.out.size (fun j hj => by have := HBx.out; omega)))
          clear i88 i89 i90 f88 f89 f90 hQr
          generalize hPLL : parseL l = PL at *
          have HPLL := Lib.hid hPLL
          clear hPLL
          go_wp2_with (first
            | (with_reducible refine wpList_loadS rfl rfl Try.headI rfl HXn.out HPs.out ?_)
            | (with_reducible refine wpList_storeS rfl rfl Try.headI rfl rfl HZ9.out (by with_unfolding_all rfl) HPs.out HP1.out ?_; intro w10 hX10 hu10))
          have HB10 := Lib.hid (HB9.out.trans (hu10.below HB9.out.size (fun j hj => by have := HBx.out; omega)))
          refine bodyPost_ret (v := .agg PL.toArray) (results_S rfl Try.headI rfl hX10.out HPs.out) rfl ?_
          exact ⟨by rw [HPLL.out], HB10.out⟩
end Go.Proofs.Ytpkmdnfkeebgbaa
