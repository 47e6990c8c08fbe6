/- What the document's own ReadArray computes. Conditions stand as premises. -/
import Derived.Test.YtojjgagcpkjkaaaRefReadT
import Derived.Test.YtojjgagcpkjkaaaEntReadA
namespace Go.Proofs.Ytojjgagcpkjkaaa
open Go.ChangeShapes Go.WideShapes Go.ChangeAt Go.RowKit
set_option linter.unusedVariables false
set_option linter.unusedSimpArgs false

theorem Try.rowRA : RowInfo Try.prog 52 2 := ⟨by kernel_rfl, by kernel_rfl⟩
def RefAE (w : World) (Ns : List Int) (C : Int) (e : Ending) (w' : World) : Prop :=
  ∃ x a1 n1 c1, e = .returned (.tuple #[.agg #[.int .u64 x, .slice a1 n1 c1], .int .i64 C]) ∧ (C = 0 → ∃ t, Ns = x :: t ∧ Rd (Value.int .u64) w' a1 n1 c1 t) ∧ (C ≠ 0 → x = 0 ∧ a1 = none ∧ n1 = 0 ∧ c1 = 0) ∧ Below w.heap.size w w'
theorem refA_no (w w' : World) (Ns : List Int) (C : Int) (hC : C ≠ 0) (hb : Below w.heap.size w w') : RefAE w Ns C (.returned (.tuple #[.agg #[.int .u64 0, .slice none 0 0], .int .i64 C])) w' :=
  ⟨0, none, 0, 0, rfl, fun h => absurd h hC, fun _ => ⟨rfl, rfl, rfl, rfl⟩, hb⟩

set_option maxRecDepth 100000 in
set_option maxHeartbeats 1000000 in
theorem refreadarray_any (p : Int) (a : Option Addr) (m c : Nat) (l : List Int) (w : World) (hr : RdB w a m c l) (hm : m ≤ 1000000) (h0 : 0 ≤ p) (h1 : p ≤ 18446744073709551615) :
    Calls Try.prog 20 #[.slice a m c, .int .u64 p] w (RefAE w (numsOf l p) (entC l p 6 8 8)) := by
  obtain rfl : l.length = m := hr.len
  have HC := Lib.hid (fun w' (hb : Below w.heap.size w w') => refbody_any p 6 a l.length c l w' (hr.mono hb) (by omega) h0 h1)
  have hX := heap_alloc_new w (.cells #[Value.int .u64 0, Value.slice none 0 0] 52)
  have HB1 := Lib.hid (below_alloc w (.cells #[Value.int .u64 0, Value.slice none 0 0] 52))
  have HX := Lib.hid hX
  clear hX
  by_cases hb0 : bodyC l p 6 = 0
  case neg =>
    rw [entC_body_no hb0]
    generalize bodyC l p 6 = C at *
    have hc' : (C != 0) = true := by simpa using hb0
    have Hc := Lib.hid hb0
    clear hb0
    go_enter Try.func20, Try.ntmps20
    go_upto_region 1 with fail
    generalize w.alloc (.cells #[Value.int .u64 0, Value.slice none 0 0] 52) = w1 at HB1 HX ⊢
    go_wp2_with fail
    refine (HC.out w1 HB1.out).mono ?_
    rintro e w2 ⟨a1, n1, c1, rfl, -, hb2⟩
    have HB2 := Lib.hid (HB1.out.trans (hb2.mono HB1.out.size))
    have HX2 := Lib.hid (row_below hb2 (lt_of_heap HX.out) HX.out)
    clear hb2
    go_wp2_with (with_reducible refine wpList_storeS rfl rfl Try.rowRA rfl rfl HX2.out (by with_unfolding_all rfl) (by with_unfolding_all rfl) (by with_unfolding_all rfl) ?_; intro w3 HX3 hu3)
    refine bodyPost_ret (results_S1 Try.results20 Try.rowRA rfl rfl HX3.out rfl) rfl ?_
    exact refA_no _ _ _ _ Hc.out (HB2.out.trans (hu3.below HB2.out.size (fun k hk => by subst hk; exact Nat.le_refl _)))
  obtain ⟨k0, k1, k2⟩ := entC_body (A := 8) (T := 8) h0 (by omega) (by omega) (by decide) hb0
  rw [hb0] at HC
  have hbl := bodyL_length h0 k0
  obtain ⟨g1, g2, g3, g4, g5, g6⟩ := readC_ok h0 k0
  have hXl : (bodyL l p).length ≤ 1000000 := by omega
  have hbB : IsB (bodyL l p) := (hr.1.drop _).take _
  have HP := Lib.hid (show numsOf l p = allF (bodyL l p) from rfl)
  rw [k2]
  generalize numsOf l p = Ns at *
  generalize bodyL l p = X at *
  clear hbl k0 k1 k2 g1 g2 g3 g4 g5 g6 hb0
  by_cases hs : (X.length : Int) < 8 + 8 ∨ (X.length : Int) % 8 ≠ 0
  · rw [if_pos hs]
    have hs' : (X.length : Int) < 16 ∨ (16 ≤ (X.length : Int) ∧ ((X.length : Int) % 8 != 0) = true) := by
      rcases hs with h | h
      · exact .inl (by omega)
      · by_cases h2 : (X.length : Int) < 16
        · exact .inl h2
        · exact .inr ⟨by omega, by simpa using h⟩
    clear hs
    rcases hs' with hs | ⟨hs, hs2⟩
    all_goals
      go_enter Try.func20, Try.ntmps20
      go_upto_region 1 with fail
      generalize w.alloc (.cells #[Value.int .u64 0, Value.slice none 0 0] 52) = w1 at HB1 HX ⊢
      go_wp2_with fail
      refine (HC.out w1 HB1.out).mono ?_
      rintro e w2 ⟨a1, n1, c1, rfl, ho, hb2⟩
      obtain rfl : X.length = n1 := (ho trivial).2.1
      have HB2 := Lib.hid (HB1.out.trans (hb2.mono HB1.out.size))
      have HX2 := Lib.hid (row_below hb2 (lt_of_heap HX.out) HX.out)
      clear hb2 ho
      go_wp2_with (with_reducible refine wpList_storeS rfl rfl Try.rowRA rfl rfl HX2.out (by with_unfolding_all rfl) (by with_unfolding_all rfl) (by with_unfolding_all rfl) ?_; intro w3 HX3 hu3)
      refine bodyPost_ret (results_S1 Try.results20 Try.rowRA rfl rfl HX3.out rfl) rfl ?_
      exact refA_no _ _ _ _ (by decide) (HB2.out.trans (hu3.below HB2.out.size (fun k hk => by subst hk; exact Nat.le_refl _)))
  rw [if_neg hs]
  obtain ⟨M, hM⟩ : ∃ M, X.length = 8 + 8 * M := ⟨(X.length - 8) / 8, by omega⟩
  have hL0 : (allF X).length = 1 + M := by rw [allF_length]; omega
  have HL0 := Lib.hid hL0
  have hs2 : ((X.length : Int) % 8 != 0) = false := by simp; omega
  have hs4 : 16 ≤ (X.length : Int) := by omega
  have hX8 : X.length % 8 = 0 := by omega
  have HX8 := Lib.hid hX8
  have HU := Lib.hid (fun (a1 : Option Addr) (c1 i : Nat) (y q : Int) (w' : World) (h : RdB w' a1 X.length c1 X) (h2 : q = ((8 * i : Nat) : Int)) (h3 : (allF X)[i]? = some y) => uL_any a1 X.length c1 X i y q w' h hXl hX8 h2 h3)
  have HBD := Lib.hid (show ∀ v ∈ allF X, 0 ≤ v ∧ v ≤ 18446744073709551615 from allI_bd hbB _)
  obtain ⟨L, hLe⟩ : ∃ L, allF X = L := ⟨_, rfl⟩
  rw [hLe] at HU HBD HL0 HP
  have hXM : X.length ≤ 8 + 8 * M := by omega
  have hMX : 8 + 8 * M ≤ X.length := by omega
  have hne : 0 < L.length := by have := HL0.out; omega
  obtain ⟨x, L', hL'⟩ : ∃ x L', L = x :: L' := by cases L with
    | nil => simp at hne
    | cons x t => exact ⟨x, t, rfl⟩
  have hLx : L[0]? = some x := by rw [hL']; rfl
  have HLt := Lib.hid (show ∀ i, L[i + 1]? = L'[i]? from fun i => by rw [hL']; rfl)
  have HPx := Lib.hid (show Ns = x :: L' from HP.out.trans hL')
  have HLn := Lib.hid (show L'.length = M by have := HL0.out; rw [hL'] at this; simp at this; omega)
  obtain ⟨x0, x1⟩ := HBD.out x (by rw [hL']; exact List.mem_cons_self)
  have HLX := Lib.hid hLx
  clear hs hM hX8 hL0 hLe HP hL' hne hLx HL0
  go_enter Try.func20, Try.ntmps20
  go_upto_region 1 with fail
  generalize w.alloc (.cells #[Value.int .u64 0, Value.slice none 0 0] 52) = w1 at HB1 HX ⊢
  go_wp2_with fail
  refine (HC.out w1 HB1.out).mono ?_
  rintro e w2 ⟨a1, n1, c1, rfl, ho, hb2⟩
  have ho := ho trivial
  obtain rfl : X.length = n1 := ho.2.1
  have HR := Lib.hid ho.rd
  have HB2 := Lib.hid (HB1.out.trans (hb2.mono HB1.out.size))
  have HX2 := Lib.hid (row_below hb2 (lt_of_heap HX.out) HX.out)
  clear hb2 ho
  obtain ⟨S, hS⟩ : ∃ S, w.heap.size = S := ⟨_, rfl⟩
  have HSS := Lib.hid hS
  rw [hS] at HX2 ⊢
  clear hS
  go_wp2_with fail
  refine (HU.out a1 c1 0 x 0 w2 HR.out rfl HLX.out).mono ?_
  rintro e w' ⟨rfl, rfl⟩
  go_upto_region 7 with fail
  have hB23 := below_alloc w2 (.cells #[Value.int .u64 x, Value.slice none 0 0] 52)
  have hX3 := heap_alloc_new w2 (.cells #[Value.int .u64 x, Value.slice none 0 0] 52)
  generalize w2.alloc (.cells #[Value.int .u64 x, Value.slice none 0 0] 52) = w3 at hX3 hB23 ⊢
  have HR3 := Lib.hid (HR.out.mono hB23)
  have HB3 := Lib.hid (HB2.out.trans (hB23.mono HB2.out.size))
  have HX3 := Lib.hid hX3
  have HS3 := Lib.hid (row_below hB23 (lt_of_heap HX2.out) HX2.out)
  have hSE := lt_of_heap HX2.out
  have HRb := Lib.hid (fun z (hz : a1 = some z) => show z.block < w2.heap.size from by
    obtain ⟨_, g1, g2, g3, g4, g5⟩ := HR.out
    rcases g5 with g5 | ⟨b', o', hb', hlt', _⟩
    · omega
    · rw [hz] at hb'; cases hb'; exact hlt')
  have hwE : w.heap.size ≤ w2.heap.size := HB2.out.size
  obtain ⟨E, hE⟩ : ∃ E, w2.heap.size = E := ⟨_, rfl⟩
  rw [hE] at HX3 hSE HRb hwE ⊢
  have HSE := Lib.hid hSE
  have HWE := Lib.hid hwE
  have HE3 := Lib.hid (lt_of_heap HX3.out)
  clear hX3 hB23 hE HX2 HR hSE hwE HB2
  go_wp2_with fail
  go_loopw [9] (fun i wr => ∃ (k : Nat) (a' : Option Addr) (c' q : Nat), k ≤ M ∧ q = 8 + 8 * k ∧ i = .int .i64 (q : Int) ∧ Hid (wr.heap[E]? = some (.cells #[.int .u64 x, .slice a' k c'] 52 (0, 0))) ∧ Own (Value.int .u64) 25 wr w3.heap.size a' k c' (L'.take k) ∧ Upd (· = E) w3 wr) (fun i _ => X.length - (intOf i).toNat)
  case atStart => exact ⟨0, none, 0, 8, Nat.zero_le _, rfl, rfl, HX3, Own.nil _ _ _ _, Upd.refl _ _⟩
  case round =>
    obtain ⟨k, a', c', q, hk, hq, rfl, HXr, hown, hur⟩ := hrel
    have HO := Lib.hid hown
    have HUr := Lib.hid hur
    have HQ := Lib.hid hq
    clear hown hur
    by_cases hlt : k < M
    · have hqX : (q : Int) < (X.length : Int) := by omega
      have hq2 : (q : Int) ≤ 1000000 := by omega
      obtain ⟨y, hy⟩ : ∃ y, L'[k]? = some y := ⟨_, List.getElem?_eq_getElem (by rw [HLn.out]; omega)⟩
      have hyL : L[k + 1]? = some y := by rw [HLt.out]; exact hy
      obtain ⟨y0, y1⟩ := HBD.out y (List.mem_of_getElem? hyL)
      have HPk := Lib.hid (show L'.take (k + 1) = L'.take k ++ [y] by rw [List.take_add_one, hy]; rfl)
      have HR2 := Lib.hid (HR3.out.upd HUr.out (fun z hz h => by have := HRb.out z hz; omega))
      have HU1 := Lib.hid (HU.out a1 c1 (k + 1) y (q : Int) wr.drew HR2.out.drewd (by omega) hyL)
      have he1 : wr.cell? ⟨E, 1, none⟩ = some (.slice a' k c') := cell_of_heap HXr.out 1 _ rfl
      have hf1 := free_of_heap HXr.out 1
      have hB3 : Below wr.heap.size wr (wr.drew.alloc (.cells #[.int .u64 y] 25)) := (below_drew wr).alloc (Nat.le_refl _) _
      have HB3' := Lib.hid hB3
      have HOW := Lib.hid (HO.out.mono hB3)
      have HRO := Lib.hid (Rd.one (Value.int .u64) 25 wr.drew y)
      have hff1 : (k + 1) * 8 ≤ 140737488355328 := by omega
      have hff2 : k + 1 ≤ 140737488355328 := by omega
      have hz3 := Nat.le_trans HUr.out.size hB3.size
      have HK := Lib.hid hlt
      have HEN := Lib.hid (show E ∉ blk a' from fun h => by obtain ⟨u, hu, hub⟩ := mem_blk.1 h; have := (HO.out.lt u hu).1; have := HE3.out; omega)
      have HXB := Lib.hid (row_below hB3 (lt_of_heap HXr.out) HXr.out)
      have hEw := lt_of_heap HXr.out
      have hqw : IntKind.u64.wrap (q : Int) = (q : Int) := by rw [IntKind.wrap_u64]; omega
      clear hy hyL hq hlt hB3
      go_upto_region 10 with fail
      go_region_law (first | (refine step_appAt rfl rfl Try.oneU rfl rfl HOW.out HRO.out (fun _ => rfl) hff1 hff2 hz3 ?_; intro a5 c5 w5 ho5 hu5 _; have hx5 := row_upd hu5 HEN.out HXB.out; have hg5 := cell_of_heap hx5 1 _ rfl; have hh5 := free_of_heap hx5 1; have HX5 := Lib.hid hx5; clear hx5) | (go_simp; go_at_call 38; go_must (with_reducible refine HU1.out.mono ?_); rintro e w' ⟨rfl, rfl⟩))
      all_goals
        have hx6 := row_set HX5.out 1 (.slice a5 (k + 1) c5)
        have HX7 : Hid ((w5.setCell ⟨E, 1, none⟩ (.slice a5 (k + 1) c5)).heap[E]? = some (.cells #[.int .u64 x, .slice a5 (k + 1) c5] 52 (0, 0))) := hx6
        have HO7 := Lib.hid (ho5.upd (Upd.setCell (F := (· = E)) w5 ⟨E, 1, none⟩ (.slice a5 (k + 1) c5) rfl) (fun u hu h => by have := (ho5.lt u hu).1; have := HE3.out; omega))
        have HU7 := Lib.hid (((HUr.out.trans (Upd.ofBelow (F := (· = E)) HB3'.out) (fun _ _ h => h)).trans hu5 (fun j hj hg => by obtain ⟨u, hu, rfl⟩ := mem_blk.1 hg; have := (HO.out.lt u hu).1; omega)).trans (Upd.setCell (F := (· = E)) w5 ⟨E, 1, none⟩ (.slice a5 (k + 1) c5) rfl) (fun _ _ h => h))
        clear hx6 hg5 hh5
        generalize w5.setCell ⟨E, 1, none⟩ (.slice a5 (k + 1) c5) = w7 at HX7 HO7 HU7 ⊢
        go_wp2_with fail
        go_roundw
        case rel => exact ⟨k + 1, a5, c5, q + 8, by have := HK.out; omega, by have := HQ.out; omega, by congr 1, HX7, by rw [HPk.out]; exact HO7.out, HU7.out⟩
        case measure => simp [intOf]; omega
    · obtain rfl : k = M := by omega
      have hge : ¬ ((q : Int) < (X.length : Int)) := by omega
      have hge2 : (X.length : Int) ≤ (q : Int) := by omega
      have HSr := Lib.hid (row_upd HUr.out (show ¬ (S = E) by have := HSE.out; omega) HS3.out)
      have hBr := Lib.hid (HB3.out.trans (HUr.out.below (show w.heap.size ≤ w3.heap.size from HB3.out.size) (fun j hj => by subst hj; exact HWE.out)))
      clear hlt hq hk
      go_wp2_with (first | (with_reducible refine wpList_loadS rfl rfl Try.rowRA rfl HXr.out (by with_unfolding_all rfl) ?_) | (with_reducible refine wpList_storeS rfl rfl Try.rowRA rfl rfl HSr.out (by with_unfolding_all rfl) (by with_unfolding_all rfl) (by with_unfolding_all rfl) ?_; intro w8 HX8 hu8))
      refine bodyPost_ret (results_S1 Try.results20 Try.rowRA rfl rfl HX8.out rfl) rfl ?_
      have hot := HO.out
      rw [← HLn.out, List.take_length, HLn.out] at hot
      refine ⟨x, a', k, c', rfl, fun _ => ⟨L', HPx.out, hot.rd.upd hu8 (fun u hu h => by have := (hot.lt u hu).1; have := HSE.out; have := HE3.out; omega)⟩, fun h => absurd rfl h, hBr.out.trans (hu8.below hBr.out.size (fun j hj => by subst hj; exact Nat.le_of_eq HSS.out))⟩
end Go.Proofs.Ytojjgagcpkjkaaa
