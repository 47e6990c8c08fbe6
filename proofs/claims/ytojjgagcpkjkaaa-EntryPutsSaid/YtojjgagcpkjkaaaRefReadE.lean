/- What the document's own ReadEntry computes. Conditions stand as premises. -/
import Derived.Test.YtojjgagcpkjkaaaRefReadA
import Derived.Test.YtojjgagcpkjkaaaEntRead
namespace Go.Proofs.Ytojjgagcpkjkaaa
open Go.ChangeShapes Go.WideShapes Go.ChangeAt Go.RowKit
set_option linter.unusedVariables false
set_option linter.unusedSimpArgs false

theorem Try.ritemInfo : (Try.prog.info? 42).map (fun i => (i.zero, i.size, i.bytes)) = some (some (.agg #[.int .u64 0, .int .u64 0]), 2, 16) := by kernel_rfl
theorem Try.twoRI : TwoInfo Try.prog 37 42 16 := by
  obtain ⟨i, hi, h0, h1, h2⟩ := info_parts Try.ritemInfo
  exact ⟨Try.underlying37, i, _, hi, h0, h1, h2, rfl⟩
theorem Try.rowRE : RowInfo Try.prog 39 21 := ⟨by kernel_rfl, by kernel_rfl⟩

theorem allF_V {X : List Int} {i : Nat} {y : Int} (h8 : X.length % 8 = 0) (hy : (allF X)[i]? = some y) : y = leN ((X.drop (8 * i)).take 8) := by
  have hi : i < (allF X).length := (List.getElem?_eq_some_iff.1 hy).1
  rw [allF_length] at hi
  have hg : getB X ((8 * i : Nat) : Int) 8 = true := by unfold getB; simp [okSize]; omega
  have hA : getA X ((8 * i : Nat) : Int) 8 = leN ((X.drop (8 * i)).take 8) := by unfold getA; rw [if_pos hg]; congr 2
  unfold allF allI at hy
  rw [List.getElem?_map, List.getElem?_range hi] at hy
  rw [← hA]
  exact (Option.some.inj hy).symm
theorem pairI_get (L : List Int) (M i : Nat) (h : i < M) : (pairI L M)[i]? = some (L.getD (2 * i) 0, L.getD (2 * i + 1) 0) := by
  unfold pairI; simp [h]
theorem pairI_take (L : List Int) (M k : Nat) (h : k ≤ M) : (pairI L M).take k = pairI L k := by
  unfold pairI
  rw [← List.map_take, List.take_range, Nat.min_eq_left h]
theorem entL_setB {s r m : Int} {B : List Int} {x : Int} {a : Option Addr} {n c : Nat} (k : Nat) (hk : k < B.length) (b : Int) : (entL s r m B x a n c).toArray.setIfInBounds (3 + k) (.int .u8 b) = (entL s r m (B.set k b) x a n c).toArray := by
  simp only [entL, List.setIfInBounds_toArray]
  congr 1
  rw [List.set_append_right _ _ (by simp), List.set_append_left _ _ (by simp; omega)]
  simp [List.map_set]
theorem boot_step (Bt : List Int) (h : Bt.length = 16) (k : Nat) (b : Int) (hk : Bt[k]? = some b) : (Bt.take k ++ List.replicate (16 - k) 0).set k b = Bt.take (k + 1) ++ List.replicate (16 - (k + 1)) 0 := by
  have hlt : k < 16 := by have := (List.getElem?_eq_some_iff.1 hk).1; omega
  have hl : (Bt.take k).length = k := by simp; omega
  rw [List.set_append_right _ _ (by omega), hl, Nat.sub_self, show 16 - k = (16 - (k + 1)) + 1 by omega, List.replicate_succ, List.set_cons_zero, List.take_add_one, hk, List.append_assoc]
  rfl

def RefEE (w : World) (Ns Bt : List Int) (Its : List PR) (C : Int) (e : Ending) (w' : World) : Prop :=
  ∃ s r m B x a1 n1 c1, e = .returned (.tuple #[entV s r m B x a1 n1 c1, .int .i64 C]) ∧ (C = 0 → s = Ns.getD 0 0 ∧ r = Ns.getD 1 0 ∧ m = Ns.getD 2 0 ∧ B = Bt ∧ x = Ns.getD 5 0 ∧ RdP w' a1 n1 c1 Its) ∧
    (C ≠ 0 → s = 0 ∧ r = 0 ∧ m = 0 ∧ B = zero16 ∧ x = 0 ∧ a1 = none ∧ n1 = 0 ∧ c1 = 0) ∧ Below w.heap.size w w'
theorem refE_no (w w' : World) (Ns Bt : List Int) (Its : List PR) (C : Int) (hC : C ≠ 0) (hb : Below w.heap.size w w') : RefEE w Ns Bt Its C (.returned (.tuple #[.agg #[Value.int .u64 0, Value.int .u64 0, Value.int .u64 0, Value.int .u8 0, Value.int .u8 0, Value.int .u8 0, Value.int .u8 0, Value.int .u8 0, Value.int .u8 0, Value.int .u8 0, Value.int .u8 0, Value.int .u8 0, Value.int .u8 0, Value.int .u8 0, Value.int .u8 0, Value.int .u8 0, Value.int .u8 0, Value.int .u8 0, Value.int .u8 0, Value.int .u64 0, Value.slice none 0 0], .int .i64 C])) w' :=
  ⟨0, 0, 0, zero16, 0, none, 0, 0, rfl, fun h => absurd h hC, fun _ => ⟨rfl, rfl, rfl, rfl, rfl, rfl, rfl, rfl⟩, hb⟩

set_option maxRecDepth 100000 in
set_option maxHeartbeats 1000000 in
theorem refreade_no (p : Int) (a : Option Addr) (m c : Nat) (l : List Int) (w : World) (hr : RdB w a m c l) (hm : m ≤ 1000000) (h0 : 0 ≤ p) (h1 : p ≤ 18446744073709551615) (hb0 : bodyC l p 3 ≠ 0) (Ns Bt : List Int) (Its : List PR) :
    Calls Try.prog 18 #[.slice a m c, .int .u64 p] w (RefEE w Ns Bt Its (bodyC l p 3)) := by
  have HC := Lib.hid (fun w' (hb : Below w.heap.size w w') => refbody_any p 3 a m c l w' (hr.mono hb) (by omega) h0 h1)
  have hX := heap_alloc_new w (.cells #[Value.int .u64 0, Value.int .u64 0, Value.int .u64 0, Value.int .u8 0, Value.int .u8 0, Value.int .u8 0, Value.int .u8 0, Value.int .u8 0, Value.int .u8 0, Value.int .u8 0, Value.int .u8 0, Value.int .u8 0, Value.int .u8 0, Value.int .u8 0, Value.int .u8 0, Value.int .u8 0, Value.int .u8 0, Value.int .u8 0, Value.int .u8 0, Value.int .u64 0, Value.slice none 0 0] 39)
  have HB1 := Lib.hid (below_alloc w (.cells #[Value.int .u64 0, Value.int .u64 0, Value.int .u64 0, Value.int .u8 0, Value.int .u8 0, Value.int .u8 0, Value.int .u8 0, Value.int .u8 0, Value.int .u8 0, Value.int .u8 0, Value.int .u8 0, Value.int .u8 0, Value.int .u8 0, Value.int .u8 0, Value.int .u8 0, Value.int .u8 0, Value.int .u8 0, Value.int .u8 0, Value.int .u8 0, Value.int .u64 0, Value.slice none 0 0] 39))
  have HX := Lib.hid hX
  clear hX
  generalize bodyC l p 3 = C at *
  have hc' : (C != 0) = true := by simpa using hb0
  have Hc := Lib.hid hb0
  clear hb0
  go_enter Try.func18, Try.ntmps18
  go_upto_region 1 with fail
  generalize w.alloc (.cells #[Value.int .u64 0, Value.int .u64 0, Value.int .u64 0, Value.int .u8 0, Value.int .u8 0, Value.int .u8 0, Value.int .u8 0, Value.int .u8 0, Value.int .u8 0, Value.int .u8 0, Value.int .u8 0, Value.int .u8 0, Value.int .u8 0, Value.int .u8 0, Value.int .u8 0, Value.int .u8 0, Value.int .u8 0, Value.int .u8 0, Value.int .u8 0, Value.int .u64 0, Value.slice none 0 0] 39) = w1 at HB1 HX ⊢
  go_wp2_with fail
  refine (HC.out w1 HB1.out).mono ?_
  rintro e w2 ⟨a1, n1, c1, rfl, -, hb2⟩
  have HB2 := Lib.hid (HB1.out.trans (hb2.mono HB1.out.size))
  have HX2 := Lib.hid (row_below hb2 (lt_of_heap HX.out) HX.out)
  clear hb2
  go_wp2_with (with_reducible refine wpList_storeS rfl rfl Try.rowRE rfl rfl HX2.out (by with_unfolding_all rfl) (by with_unfolding_all rfl) (by with_unfolding_all rfl) ?_; intro w3 HX3 hu3)
  refine bodyPost_ret (results_S1 Try.results18 Try.rowRE rfl rfl HX3.out rfl) rfl ?_
  exact refE_no _ _ _ _ _ _ Hc.out (HB2.out.trans (hu3.below HB2.out.size (fun k hk => by subst hk; exact Nat.le_refl _)))

set_option maxRecDepth 100000 in
set_option maxHeartbeats 1000000 in
theorem refreade_size (p : Int) (a : Option Addr) (m c : Nat) (l : List Int) (w : World) (hr : RdB w a m c l) (hm : m ≤ 1000000) (h0 : 0 ≤ p) (h1 : p ≤ 18446744073709551615) (hb0 : bodyC l p 3 = 0) (hXl : (bodyL l p).length ≤ 1000000)
    (hs' : ((bodyL l p).length : Int) < 64 ∨ (64 ≤ ((bodyL l p).length : Int) ∧ (((bodyL l p).length : Int) % 16 != 0) = true)) (Ns Bt : List Int) (Its : List PR) :
    Calls Try.prog 18 #[.slice a m c, .int .u64 p] w (RefEE w Ns Bt Its 5) := by
  have HC := Lib.hid (fun w' (hb : Below w.heap.size w w') => refbody_any p 3 a m c l w' (hr.mono hb) (by omega) h0 h1)
  rw [hb0] at HC
  have hX := heap_alloc_new w (.cells #[Value.int .u64 0, Value.int .u64 0, Value.int .u64 0, Value.int .u8 0, Value.int .u8 0, Value.int .u8 0, Value.int .u8 0, Value.int .u8 0, Value.int .u8 0, Value.int .u8 0, Value.int .u8 0, Value.int .u8 0, Value.int .u8 0, Value.int .u8 0, Value.int .u8 0, Value.int .u8 0, Value.int .u8 0, Value.int .u8 0, Value.int .u8 0, Value.int .u64 0, Value.slice none 0 0] 39)
  have HB1 := Lib.hid (below_alloc w (.cells #[Value.int .u64 0, Value.int .u64 0, Value.int .u64 0, Value.int .u8 0, Value.int .u8 0, Value.int .u8 0, Value.int .u8 0, Value.int .u8 0, Value.int .u8 0, Value.int .u8 0, Value.int .u8 0, Value.int .u8 0, Value.int .u8 0, Value.int .u8 0, Value.int .u8 0, Value.int .u8 0, Value.int .u8 0, Value.int .u8 0, Value.int .u8 0, Value.int .u64 0, Value.slice none 0 0] 39))
  have HX := Lib.hid hX
  clear hX hb0
  generalize bodyL l p = X at *
  rcases hs' with hs | ⟨hs, hs2⟩
  all_goals
    go_enter Try.func18, Try.ntmps18
    go_upto_region 1 with fail
    generalize w.alloc (.cells #[Value.int .u64 0, Value.int .u64 0, Value.int .u64 0, Value.int .u8 0, Value.int .u8 0, Value.int .u8 0, Value.int .u8 0, Value.int .u8 0, Value.int .u8 0, Value.int .u8 0, Value.int .u8 0, Value.int .u8 0, Value.int .u8 0, Value.int .u8 0, Value.int .u8 0, Value.int .u8 0, Value.int .u8 0, Value.int .u8 0, Value.int .u8 0, Value.int .u64 0, Value.slice none 0 0] 39) = w1 at HB1 HX ⊢
    go_wp2_with fail
    refine (HC.out w1 HB1.out).mono ?_
    rintro e w2 ⟨a1, n1, c1, rfl, ho, hb2⟩
    obtain rfl : X.length = n1 := (ho trivial).2.1
    have HB2 := Lib.hid (HB1.out.trans (hb2.mono HB1.out.size))
    have HX2 := Lib.hid (row_below hb2 (lt_of_heap HX.out) HX.out)
    clear hb2 ho
    go_wp2_with (with_reducible refine wpList_storeS rfl rfl Try.rowRE rfl rfl HX2.out (by with_unfolding_all rfl) (by with_unfolding_all rfl) (by with_unfolding_all rfl) ?_; intro w3 HX3 hu3)
    refine bodyPost_ret (results_S1 Try.results18 Try.rowRE rfl rfl HX3.out rfl) rfl ?_
    exact refE_no _ _ _ _ _ _ (by decide) (HB2.out.trans (hu3.below HB2.out.size (fun k hk => by subst hk; exact Nat.le_refl _)))

set_option maxRecDepth 100000 in
set_option maxHeartbeats 4000000 in
theorem refreade_yes (p : Int) (a : Option Addr) (m c : Nat) (l : List Int) (w : World) (hr : RdB w a m c l) (hm : m ≤ 1000000) (h0 : 0 ≤ p) (h1 : p ≤ 18446744073709551615) (hb0 : bodyC l p 3 = 0) (X : List Int) (hXX : bodyL l p = X) (hbB : IsB X) (hXl : X.length ≤ 1000000)
    (M : Nat) (hM : X.length = 48 + 16 * M) (hM1 : 1 ≤ M) (L Bt : List Int) (hLL : L = allF X) (hBt : Bt = (X.drop 24).take 16) (Its : List PR) (hIt : Its = pairI (L.drop 6) M) (s r mo x : Int)
    (hs : L[0]? = some s) (hr' : L[1]? = some r) (hmo : L[2]? = some mo) (hx : L[5]? = some x) (C : Int) (hC : C = if s = 0 then 13 else if riseB Its = true then 0 else 11) :
    Calls Try.prog 18 #[.slice a m c, .int .u64 p] w (RefEE w L Bt Its C) := by
  have HC := Lib.hid (fun w' (hb : Below w.heap.size w w') => refbody_any p 3 a m c l w' (hr.mono hb) (by omega) h0 h1)
  rw [hb0, hXX] at HC
  have hX := heap_alloc_new w (.cells #[Value.int .u64 0, Value.int .u64 0, Value.int .u64 0, Value.int .u8 0, Value.int .u8 0, Value.int .u8 0, Value.int .u8 0, Value.int .u8 0, Value.int .u8 0, Value.int .u8 0, Value.int .u8 0, Value.int .u8 0, Value.int .u8 0, Value.int .u8 0, Value.int .u8 0, Value.int .u8 0, Value.int .u8 0, Value.int .u8 0, Value.int .u8 0, Value.int .u64 0, Value.slice none 0 0] 39)
  have HB1 := Lib.hid (below_alloc w (.cells #[Value.int .u64 0, Value.int .u64 0, Value.int .u64 0, Value.int .u8 0, Value.int .u8 0, Value.int .u8 0, Value.int .u8 0, Value.int .u8 0, Value.int .u8 0, Value.int .u8 0, Value.int .u8 0, Value.int .u8 0, Value.int .u8 0, Value.int .u8 0, Value.int .u8 0, Value.int .u8 0, Value.int .u8 0, Value.int .u8 0, Value.int .u8 0, Value.int .u64 0, Value.slice none 0 0] 39))
  have HX := Lib.hid hX
  have HRC := Lib.hid hC
  have hX8 : X.length % 8 = 0 := by omega
  have hL0 : L.length = 6 + 2 * M := by rw [hLL, allF_length]; omega
  have HBD := Lib.hid (show ∀ v ∈ L, 0 ≤ v ∧ v ≤ 18446744073709551615 from hLL ▸ allI_bd hbB _)
  have HU := Lib.hid (fun (a1 : Option Addr) (c1 i : Nat) (y q : Int) (w' : World) (h : RdB w' a1 X.length c1 X) (h2 : q = ((8 * i : Nat) : Int)) (h3 : L[i]? = some y) => uL_any a1 X.length c1 X i y q w' h hXl hX8 h2 (hLL ▸ h3))
  obtain ⟨V, hVV⟩ : ∃ V : Int → Int, ∀ q, V q = leN ((X.drop q.toNat).take 8) := ⟨fun q => leN ((X.drop q.toNat).take 8), fun _ => rfl⟩
  have HUV := Lib.hid (show ∀ (a1 : Option Addr) (c1 : Nat) (q : Int), 0 ≤ q → q + 8 ≤ X.length → ∀ w' : World, RdB w' a1 X.length c1 X → Calls Try.prog 38 #[.slice a1 X.length c1, .int .u64 q] w' fun e w'' => e = .returned (.int .u64 (V q)) ∧ w' = w'' from fun a1 c1 q h0 h1 w' h => by obtain ⟨k, rfl⟩ := Int.eq_ofNat_of_zero_le h0; rw [hVV]; exact u_any _ X.length c1 X k w' h (by omega) (by omega))
  have HVL := Lib.hid (show ∀ i y, L[i]? = some y → V ((8 * i : Nat) : Int) = y from fun i y h => by rw [hVV]; exact (allF_V hX8 (hLL ▸ h)).symm)
  have HL0 := Lib.hid hL0
  have HBt := Lib.hid hBt
  have HBl := Lib.hid (show Bt.length = 16 by rw [hBt]; simp; omega)
  have HIT := Lib.hid hIt
  have HS := Lib.hid hs
  have HR' := Lib.hid hr'
  have HMO := Lib.hid hmo
  have HXO := Lib.hid hx
  have hXlo : 64 ≤ X.length := by omega
  have hXM : X.length ≤ 48 + 16 * M := by omega
  have hMX : 48 + 16 * M ≤ X.length := by omega
  have hs2 : ((X.length : Int) % 16 != 0) = false := by simp; omega
  have hs4 : 64 ≤ (X.length : Int) := by omega
  obtain ⟨s0, s1⟩ := HBD.out s (List.mem_of_getElem? hs)
  obtain ⟨r0, r1⟩ := HBD.out r (List.mem_of_getElem? hr')
  obtain ⟨mo0, mo1⟩ := HBD.out mo (List.mem_of_getElem? hmo)
  obtain ⟨x0, x1⟩ := HBD.out x (List.mem_of_getElem? hx)
  have HE0 := Lib.hid (show L.getD 0 0 = s by rw [List.getD_eq_getElem?_getD, hs]; rfl)
  have HE1 := Lib.hid (show L.getD 1 0 = r by rw [List.getD_eq_getElem?_getD, hr']; rfl)
  have HE2 := Lib.hid (show L.getD 2 0 = mo by rw [List.getD_eq_getElem?_getD, hmo]; rfl)
  have HE5 := Lib.hid (show L.getD 5 0 = x by rw [List.getD_eq_getElem?_getD, hx]; rfl)
  clear hX hC hs hr' hmo hx hBt hIt hL0 hX8 hLL hXX hb0 hM hVV
  go_enter Try.func18, Try.ntmps18
  go_upto_region 1 with fail
  generalize w.alloc (.cells #[Value.int .u64 0, Value.int .u64 0, Value.int .u64 0, Value.int .u8 0, Value.int .u8 0, Value.int .u8 0, Value.int .u8 0, Value.int .u8 0, Value.int .u8 0, Value.int .u8 0, Value.int .u8 0, Value.int .u8 0, Value.int .u8 0, Value.int .u8 0, Value.int .u8 0, Value.int .u8 0, Value.int .u8 0, Value.int .u8 0, Value.int .u8 0, Value.int .u64 0, Value.slice none 0 0] 39) = w1 at HB1 HX ⊢
  go_wp2_with fail
  refine (HC.out w1 HB1.out).mono ?_
  rintro e w2 ⟨a1, n1, c1, rfl, ho, hb2⟩
  have ho := ho trivial
  obtain rfl : X.length = n1 := ho.2.1
  have HR := Lib.hid ho.rd
  have HB2 := Lib.hid (HB1.out.trans (hb2.mono HB1.out.size))
  have HX2 := Lib.hid (row_below hb2 (lt_of_heap HX.out) HX.out)
  clear hb2 ho
  obtain ⟨S, hS⟩ : ∃ S, w.heap.size = S := ⟨_, rfl⟩
  have HSS := Lib.hid hS
  rw [hS] at HX2 ⊢
  clear hS
  have HZ2 := Lib.hid (heap_alloc_new w2 (.cells #[Value.int .u64 0, Value.int .u64 0, Value.int .u64 0, Value.int .u8 0, Value.int .u8 0, Value.int .u8 0, Value.int .u8 0, Value.int .u8 0, Value.int .u8 0, Value.int .u8 0, Value.int .u8 0, Value.int .u8 0, Value.int .u8 0, Value.int .u8 0, Value.int .u8 0, Value.int .u8 0, Value.int .u8 0, Value.int .u8 0, Value.int .u8 0, Value.int .u64 0, Value.slice none 0 0] 39))
  go_wp2_with fail
  refine (HU.out a1 c1 0 s 0 w2 HR.out rfl HS.out).mono ?_
  rintro e w' ⟨rfl, rfl⟩
  go_wp2_with fail
  refine (HU.out a1 c1 1 r 8 w2 HR.out rfl HR'.out).mono ?_
  rintro e w' ⟨rfl, rfl⟩
  go_wp2_with fail
  refine (HU.out a1 c1 2 mo 16 w2 HR.out rfl HMO.out).mono ?_
  rintro e w' ⟨rfl, rfl⟩
  go_wp2_with fail
  refine (HU.out a1 c1 5 x 40 w2 HR.out rfl HXO.out).mono ?_
  rintro e w' ⟨rfl, rfl⟩
  go_upto_region 7 with (with_reducible refine wpList_storeS rfl rfl Try.rowRE rfl rfl HZ2.out (by with_unfolding_all rfl) (by with_unfolding_all rfl) (by with_unfolding_all rfl) ?_; intro w3 HX3 hu3)
  have hB23 : Below w2.heap.size w2 w3 := (below_alloc w2 (.cells #[Value.int .u64 0, Value.int .u64 0, Value.int .u64 0, Value.int .u8 0, Value.int .u8 0, Value.int .u8 0, Value.int .u8 0, Value.int .u8 0, Value.int .u8 0, Value.int .u8 0, Value.int .u8 0, Value.int .u8 0, Value.int .u8 0, Value.int .u8 0, Value.int .u8 0, Value.int .u8 0, Value.int .u8 0, Value.int .u8 0, Value.int .u8 0, Value.int .u64 0, Value.slice none 0 0] 39)).trans (hu3.below (below_alloc w2 (.cells #[Value.int .u64 0, Value.int .u64 0, Value.int .u64 0, Value.int .u8 0, Value.int .u8 0, Value.int .u8 0, Value.int .u8 0, Value.int .u8 0, Value.int .u8 0, Value.int .u8 0, Value.int .u8 0, Value.int .u8 0, Value.int .u8 0, Value.int .u8 0, Value.int .u8 0, Value.int .u8 0, Value.int .u8 0, Value.int .u8 0, Value.int .u8 0, Value.int .u64 0, Value.slice none 0 0] 39)).size (fun k hk => by subst hk; exact Nat.le_refl _))
  have HR3 := Lib.hid (HR.out.mono hB23)
  have HB3 := Lib.hid (HB2.out.trans (hB23.mono HB2.out.size))
  have HS3 := Lib.hid (row_below hB23 (lt_of_heap HX2.out) HX2.out)
  have hSE := lt_of_heap HX2.out
  have HRb := Lib.hid (fun z (hz : a1 = some z) => show z.block < w2.heap.size from by
    obtain ⟨_, g1, g2, g3, g4, g5⟩ := HR.out
    rcases g5 with g5 | ⟨b', o', hb', hlt', _⟩
    · omega
    · rw [hz] at hb'; cases hb'; exact hlt')
  have hwE : w.heap.size ≤ w2.heap.size := HB2.out.size
  have HX3' : Hid (w3.heap[w2.heap.size]? = some (.cells (entL s r mo zero16 x none 0 0).toArray 39 (0, 0))) := HX3
  obtain ⟨E, hE⟩ : ∃ E, w2.heap.size = E := ⟨_, rfl⟩
  rw [hE] at HX3' hSE HRb hwE ⊢
  have HSE := Lib.hid hSE
  have HWE := Lib.hid hwE
  have HE3 := Lib.hid (lt_of_heap HX3'.out)
  clear hu3 hB23 hE HX2 HR hSE hwE HB2 HX3 HZ2
  have hX0 : w3.cell? ⟨E, 0, none⟩ = some (.int .u64 s) := cell_of_heap HX3'.out 0 _ rfl
  by_cases hs0 : s = 0
  · have hs0' : (s == 0) = true := by simp [hs0]
    have HC13 := Lib.hid (HRC.out.trans (if_pos hs0))
    clear hs0
    go_wp2_with (with_reducible refine wpList_storeS rfl rfl Try.rowRE rfl rfl HS3.out (by with_unfolding_all rfl) (by with_unfolding_all rfl) (by with_unfolding_all rfl) ?_; intro w8 HX8 hu8)
    refine bodyPost_ret (results_S1 Try.results18 Try.rowRE rfl rfl HX8.out rfl) rfl ?_
    rw [HC13.out]
    exact refE_no _ _ _ _ _ _ (by decide) (HB3.out.trans (hu8.below HB3.out.size (fun j hj => by subst hj; exact Nat.le_of_eq HSS.out)))
  have hs0' : (s == 0) = false := by simp [hs0]
  have HC2 := Lib.hid (HRC.out.trans (if_neg hs0))
  clear hs0
  go_wp2_with fail
  go_loopw [9] (fun i wr => ∃ k : Nat, k ≤ 16 ∧ i = .int .i64 (k : Int) ∧ Hid (wr.heap[E]? = some (.cells (entL s r mo (Bt.take k ++ List.replicate (16 - k) 0) x none 0 0).toArray 39 (0, 0))) ∧ Upd (· = E) w3 wr) (fun i _ => 16 - (intOf i).toNat)
  case atStart => exact ⟨0, Nat.zero_le _, rfl, HX3', Upd.refl _ _⟩
  case round =>
    obtain ⟨k, hk, rfl, HXr, hur⟩ := hrel
    have HUr := Lib.hid hur
    clear hur
    have hrb := HR3.out.upd HUr.out (fun z hz h => by have := HRb.out z hz; omega)
    by_cases hlt : k < 16
    · obtain ⟨b1, o1, rfl, hbk, hcs⟩ := hrb.2.at (by omega)
      obtain ⟨v, hv⟩ : ∃ v, Bt[k]? = some v := ⟨_, List.getElem?_eq_getElem (by rw [HBl.out]; omega)⟩
      have hv2 : X[24 + k]? = some v := by
        have := hv; rw [HBt.out, List.getElem?_take, if_pos hlt, List.getElem?_drop] at this; exact this
      have hcx := hcs (24 + k) v hv2
      obtain ⟨K, hK⟩ : ∃ K, 24 + k = K := ⟨_, rfl⟩
      rw [hK] at hcx
      have hKw : IntKind.i64.wrap (24 + (k : Int)) = (K : Int) := by rw [IntKind.wrap_i64]; omega
      have hK0 : (0 : Int) ≤ (K : Int) := by omega
      have hK1 : (K : Int) < (X.length : Int) := by omega
      have hK2 : K < X.length := by omega
      have hk16 : (k : Int) < 16 := by omega
      have hvB := hbB v (List.mem_of_getElem? hv2)
      obtain ⟨v0, v1⟩ := hvB
      have HBS := Lib.hid (boot_step Bt HBl.out k v hv)
      have hBl2 : k < (Bt.take k ++ List.replicate (16 - k) 0).length := by simp; have := HBl.out; omega
      obtain ⟨u, hu⟩ : ∃ u, (entL s r mo (Bt.take k ++ List.replicate (16 - k) 0) x none 0 0).toArray[3 + k]? = some u := ⟨_, Array.getElem?_eq_getElem (by rw [entL_size (by simp; have := HBl.out; omega)]; omega)⟩
      have hce := cell_of_heap HXr.out (3 + k) u hu
      have hfe := free_of_heap HXr.out (3 + k)
      have hx6 := row_set HXr.out (3 + k) (.int .u8 v)
      rw [entL_setB k hBl2 v, HBS.out] at hx6
      have HX7 := Lib.hid hx6
      clear hv hv2 hK hu hx6 hcs hlt hBl2
      go_wp2_with fail
      go_roundw
      case rel => exact ⟨k + 1, by omega, by congr 1, HX7, HUr.out.trans (Upd.setCell (F := (· = E)) _ ⟨E, 3 + k, none⟩ (.int .u8 v) rfl) (fun _ _ h => h)⟩
      case measure => simp [intOf]; omega
    · obtain rfl : k = 16 := by omega
      have HXb : Hid (wr.heap[E]? = some (.cells (entL s r mo Bt x none 0 0).toArray 39 (0, 0))) := by
        have h := HXr.out
        rw [List.take_of_length_le (by have := HBl.out; omega), Nat.sub_self, List.replicate_zero, List.append_nil] at h
        exact h
      have HB4 := Lib.hid (HB3.out.trans (HUr.out.below HB3.out.size (fun j hj => by subst hj; exact HWE.out)))
      have HS4 := Lib.hid (row_upd HUr.out (show ¬ (S = E) by have := HSE.out; omega) HS3.out)
      have HR4 := Lib.hid hrb
      have HE4 := Lib.hid (lt_of_heap HXb.out)
      have hge : ¬ ((16 : Int) < 16) := by decide
      clear hrb hlt HXr HUr hk
      obtain ⟨wo, rfl⟩ : ∃ wo, wo = wr := ⟨wr, rfl⟩
      have hT0 : riseB (pairI (L.drop 6) 0) = true := rfl
      have HT0 := Lib.hid hT0
      clear hT0
      go_wp2_with fail
      go_loopw [10] (fun i wz => ∃ (k : Nat) (a' : Option Addr) (c' q : Nat), k ≤ M ∧ q = 48 + 16 * k ∧ i = .int .i64 (q : Int) ∧ Hid (wz.heap[E]? = some (.cells (entL s r mo Bt x a' k c').toArray 39 (0, 0))) ∧ OwnP 42 wz wo.heap.size a' k c' (pairI (L.drop 6) k) ∧ Hid (riseB (pairI (L.drop 6) k) = true) ∧ Upd (· = E) wo wz) (fun i _ => X.length - (intOf i).toNat)
      case atStart => exact ⟨0, none, 0, 48, Nat.zero_le _, rfl, rfl, HXb, OwnP.nil _ _ _, HT0, Upd.refl _ _⟩
      case round =>
        obtain ⟨k, a', c', q, hk, hq, rfl, HXr, hown, HRI, hur⟩ := hrel
        have HO := Lib.hid hown
        have HUr := Lib.hid hur
        have HQ := Lib.hid hq
        clear hown
        by_cases hlt : k < M
        · have hqX : (q : Int) < (X.length : Int) := by omega
          have hq2 : (q : Int) ≤ 1000000 := by omega
          have hL := HL0.out
          obtain ⟨y, hy⟩ : ∃ y, L[6 + 2 * k]? = some y := ⟨_, List.getElem?_eq_getElem (by omega)⟩
          obtain ⟨z, hz⟩ : ∃ z, L[6 + 2 * k + 1]? = some z := ⟨_, List.getElem?_eq_getElem (by omega)⟩
          have hVy : V (q : Int) = y := by have := HVL.out _ _ hy; rw [show ((8 * (6 + 2 * k) : Nat) : Int) = (q : Int) by omega] at this; exact this
          have hVz : V ((q : Int) + 8) = z := by have := HVL.out _ _ hz; rw [show ((8 * (6 + 2 * k + 1) : Nat) : Int) = (q : Int) + 8 by omega] at this; exact this
          have HPk := Lib.hid (show pairI (L.drop 6) (k + 1) = pairI (L.drop 6) k ++ [(V (q : Int), V ((q : Int) + 8))] by
            rw [pairI_succ, List.getD_eq_getElem?_getD, List.getD_eq_getElem?_getD, List.getElem?_drop, List.getElem?_drop, show 6 + (2 * k + 1) = 6 + 2 * k + 1 by omega, hy, hz, hVy, hVz]; rfl)
          obtain ⟨y0, y1⟩ := HBD.out y (List.mem_of_getElem? hy)
          obtain ⟨z0, z1⟩ := HBD.out z (List.mem_of_getElem? hz)
          have hV0 : 0 ≤ V (q : Int) := by omega
          have hV1 : V (q : Int) ≤ 18446744073709551615 := by omega
          have hV2 : 0 ≤ V ((q : Int) + 8) := by omega
          have hV3 : V ((q : Int) + 8) ≤ 18446744073709551615 := by omega
          have hrb := HR4.out.upd hur (fun z hz h => by have := HRb.out z hz; omega)
          have he20 := cell_of_heap HXr.out 20 _ (entL_20 HBl.out)
          have hf20 := free_of_heap HXr.out 20
          have HRw := Lib.hid hrb
          have hqw : IntKind.u64.wrap (q : Int) = (q : Int) := by rw [IntKind.wrap_u64]; omega
          have hqw2 : IntKind.u64.wrap ((q : Int) + 8) = (q : Int) + 8 := by rw [IntKind.wrap_u64]; omega
          have hqw3 : IntKind.i64.wrap ((q : Int) + 8) = (q : Int) + 8 := by rw [IntKind.wrap_i64]; omega
          have hqX8 : (q : Int) + 8 + 8 ≤ (X.length : Int) := by omega
          have hB3 : ∀ o, Below wr.heap.size wr (wr.drew.alloc o) := fun o => (below_drew wr).alloc (Nat.le_refl _) _
          have hff1 : (k + 1) * 16 ≤ 140737488355328 := by omega
          have hff2 : k + 1 ≤ 140737488355328 := by omega
          have hz3 := Nat.le_trans HUr.out.size (hB3 (.cells #[.int .u64 (V (q : Int)), .int .u64 (V ((q : Int) + 8))] 42)).size
          have HB3 := Lib.hid (hB3 (.cells #[.int .u64 (V (q : Int)), .int .u64 (V ((q : Int) + 8))] 42))
          have HOW := Lib.hid (HO.out.mono HB3.out)
          have HS0 := Lib.hid (cell_of_heap (heap_alloc_new wr.drew (.cells #[.int .u64 (V (q : Int)), .int .u64 (V ((q : Int) + 8))] 42)) 0 _ rfl)
          have HS1 := Lib.hid (cell_of_heap (heap_alloc_new wr.drew (.cells #[.int .u64 (V (q : Int)), .int .u64 (V ((q : Int) + 8))] 42)) 1 _ rfl)
          have HK := Lib.hid hlt
          have HEN := Lib.hid (show E ∉ blk a' from fun h => by obtain ⟨u, hu, hub⟩ := mem_blk.1 h; have := (HO.out.lt u hu).1; have := HE4.out; omega)
          have HXB := Lib.hid (row_below HB3.out (lt_of_heap HXr.out) HXr.out)
          have hEw := lt_of_heap HXr.out
          clear hy hz hq hlt hB3 hL hVy hVz hrb hur
          go_upto_region 17 with fail
          go_region_law (first | (refine step_appP (p := (V (q : Int), V ((q : Int) + 8))) rfl rfl Try.twoRI rfl rfl HOW.out HS0.out HS1.out hff1 hff2 hz3 ?_; intro a5 c5 w5 ho5 hu5 _; have hx5 := row_upd hu5 HEN.out HXB.out; have hg5 := cell_of_heap hx5 20 _ (entL_20 HBl.out); have hh5 := free_of_heap hx5 20; have HX5 := Lib.hid hx5; clear hx5) | (go_simp; go_at_call 38; go_must (with_reducible refine (HUV.out _ _ _ (by omega) (by omega) _ HRw.out.drewd).mono ?_); rintro e w' ⟨rfl, rfl⟩))
          all_goals
            have hx6 := row_set HX5.out 20 (.slice a5 (k + 1) c5)
            rw [entL_set HBl.out] at hx6
            have HX7 := Lib.hid hx6
            have HO7 := Lib.hid (ho5.upd (Upd.setCell (F := (· = E)) w5 ⟨E, 20, none⟩ (.slice a5 (k + 1) c5) rfl) (fun u hu h => by have := (ho5.lt u hu).1; have := HE4.out; omega))
            have HU7 := Lib.hid (((HUr.out.trans (Upd.ofBelow (F := (· = E)) HB3.out) (fun _ _ h => h)).trans hu5 (fun j hj hg => by obtain ⟨u, hu, rfl⟩ := mem_blk.1 hg; have := (HO.out.lt u hu).1; omega)).trans (Upd.setCell (F := (· = E)) w5 ⟨E, 20, none⟩ (.slice a5 (k + 1) c5) rfl) (fun _ _ h => h))
            clear hx6 hg5 hh5 he20 hf20 ho5 hu5
            generalize w5.setCell ⟨E, 20, none⟩ (.slice a5 (k + 1) c5) = w7 at HX7 HO7 HU7 ⊢
            go_upto_region 18 with fail
            have hk1M : k + 1 ≤ M := HK.out
            rcases Nat.eq_zero_or_pos k with hk0 | hk0
            · have hkd : decide (0 < (k : Int)) = false := by simp [hk0]
              have hkd2 : decide (0 < k) = false := by simp [hk0]
              have HRI2 := Lib.hid (show riseB (pairI (L.drop 6) (k + 1)) = true by rw [HPk.out, hk0]; rfl)
              have HK0 := Lib.hid hk0
              clear hk0
              go_quiet (fail)
              go_wp2_with fail
              go_roundw
              case rel => exact ⟨k + 1, a5, c5, q + 16, by have := HK.out; omega, by have := HQ.out; omega, by congr 1, Lib.hid (row_drewN HX7.out _), by rw [HPk.out]; exact HO7.out.mono (below_dN (Below.refl _ _) _), HRI2, HU7.out.drewN _⟩
              case measure => simp [intOf]; omega
            · have hkd : decide (0 < (k : Int)) = true := by simp; omega
              have hkd2 : decide (0 < k) = true := by simp; omega
              obtain ⟨j, hj⟩ : ∃ j, k = j + 1 := ⟨k - 1, by omega⟩
              obtain ⟨v, hv⟩ : ∃ v, (pairI (L.drop 6) k)[j]? = some v := ⟨_, List.getElem?_eq_getElem (by rw [pairI_length]; omega)⟩
              have HRS := Lib.hid (show riseB (pairI (L.drop 6) (k + 1)) = (riseB (pairI (L.drop 6) k) && decide (v.1 < V (q : Int))) by
                rw [HPk.out]
                refine riseB_snoc _ _ _ ?_
                rw [List.getLast?_eq_getElem?, pairI_length, hj, Nat.add_sub_cancel, ← hj]; exact hv)
              have HRB := Lib.hid HO7.out.rd
              obtain ⟨_, hr1, hr2, _, hr5⟩ := HO7.out.rd
              obtain ⟨bi, oi, rfl, hbi, hci⟩ := hr5.resolve_left (by omega)
              have hcv := (hci j v (by rw [List.getElem?_append_left (by rw [pairI_length]; omega)]; exact hv)).1
              have hcn := (hci k (V (q : Int), V ((q : Int) + 8)) (by rw [List.getElem?_append_right (by rw [pairI_length]; exact Nat.le_refl _), pairI_length, Nat.sub_self]; rfl)).1
              rw [show oi + 2 * j = oi + j * 2 by omega] at hcv
              rw [show oi + 2 * k = oi + k * 2 by omega] at hcn
              obtain ⟨v1, v2⟩ := v
              simp only at hcv hcn
              have he20 := cell_of_heap HX7.out 20 _ (entL_20 HBl.out)
              have hkw : IntKind.i64.wrap ((k : Int) - 1) = (j : Int) := by rw [IntKind.wrap_i64]; omega
              have hk3 : (0 : Int) ≤ (k : Int) := by omega
              have hk4 : (k : Int) < (k : Int) + 1 := by omega
              have hj3 : (0 : Int) ≤ (j : Int) := by omega
              have hj4 : (j : Int) < (k : Int) + 1 := by omega
              have HJ := Lib.hid hj
              have HK0 := Lib.hid hk0
              clear hj hv hci hr5 hk0
              by_cases hle : V (q : Int) ≤ v1
              · have hle' : decide (V (q : Int) ≤ v1) = true := decide_eq_true hle
                have hC11 : C = 11 := by
                  refine HC2.out.trans (if_neg ?_)
                  have h1 := HRS.out
                  rw [HRI.out, Bool.true_and, decide_eq_false (by simp; omega)] at h1
                  rw [← pairI_take (L.drop 6) M (k + 1) hk1M, ← HIT.out] at h1
                  rw [riseB_cut _ _ h1]; decide
                have HC11 := Lib.hid hC11
                clear hC11
                have HS7 := Lib.hid (row_upd HU7.out (show ¬ (S = E) by have := HSE.out; omega) HS4.out)
                go_quiet (fail)
                go_wp2_with (with_reducible refine wpList_storeS rfl rfl Try.rowRE rfl rfl (row_drewN HS7.out _) (by with_unfolding_all rfl) (by with_unfolding_all rfl) (by with_unfolding_all rfl) ?_; intro w8 HX8 hu8)
                refine bodyPost_ret (results_S1 Try.results18 Try.rowRE rfl rfl HX8.out rfl) rfl ?_
                rw [HC11.out]
                have hBw := below_dN (HB4.out.trans (HU7.out.below HB4.out.size (fun j hj => by subst hj; exact HWE.out))) nq
                exact refE_no _ _ _ _ _ _ (by decide) (hBw.trans (hu8.below hBw.size (fun j hj => by subst hj; exact Nat.le_of_eq HSS.out)))
              · have hle' : decide (V (q : Int) ≤ v1) = false := decide_eq_false hle
                have HRI2 := Lib.hid (show riseB (pairI (L.drop 6) (k + 1)) = true by
                  rw [HRS.out, HRI.out, Bool.true_and]; simp; omega)
                go_quiet (fail)
                go_wp2_with fail
                go_roundw
                case rel => exact ⟨k + 1, _, c5, q + 16, by have := HK.out; omega, by have := HQ.out; omega, by congr 1, Lib.hid (row_drewN HX7.out _), by rw [HPk.out]; exact HO7.out.mono (below_dN (Below.refl _ _) _), HRI2, HU7.out.drewN _⟩
                case measure => simp [intOf]; omega
        · obtain rfl : k = M := by omega
          have hge : ¬ ((q : Int) < (X.length : Int)) := by omega
          have hge2 : (X.length : Int) ≤ (q : Int) := by omega
          have HSr := Lib.hid (row_upd HUr.out (show ¬ (S = E) by have := HSE.out; omega) HS4.out)
          have hBr := Lib.hid (HB4.out.trans (HUr.out.below HB4.out.size (fun j hj => by subst hj; exact HWE.out)))
          have HC0 := Lib.hid (HC2.out.trans (if_pos (show riseB Its = true by rw [HIT.out]; exact HRI.out)))
          clear hlt hq hk hur
          go_wp2_with (first | (with_reducible refine wpList_loadS rfl rfl Try.rowRE rfl HXr.out (entL_size HBl.out) ?_) | (with_reducible refine wpList_storeS rfl rfl Try.rowRE rfl rfl HSr.out (by with_unfolding_all rfl) (entL_size HBl.out) entL_one ?_; intro w8 HX8 hu8))
          refine bodyPost_ret (v := .tuple #[.agg (entL s r mo Bt x a' k c').toArray, .int .i64 0]) (results_S1 Try.results18 Try.rowRE rfl rfl HX8.out (entL_size HBl.out)) rfl ?_
          rw [HC0.out]
          refine ⟨s, r, mo, Bt, x, a', k, c', by rw [entV_eq], fun _ => ⟨HE0.out.symm, HE1.out.symm, HE2.out.symm, rfl, HE5.out.symm, ?_⟩, fun h => absurd rfl h, hBr.out.trans (hu8.below hBr.out.size (fun j hj => by subst hj; exact Nat.le_of_eq HSS.out))⟩
          rw [HIT.out]
          exact (HO.out.upd hu8 (fun u hu h => by have := (HO.out.lt u hu).1; have := HSE.out; have := HE4.out; omega)).rd
end Go.Proofs.Ytojjgagcpkjkaaa
