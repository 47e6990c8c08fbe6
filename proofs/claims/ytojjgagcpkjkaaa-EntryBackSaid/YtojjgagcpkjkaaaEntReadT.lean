/- What entry.ReadTable computes. Conditions stand as premises. -/
import Derived.Test.YtojjgagcpkjkaaaEntReadA
namespace Go.Proofs.Ytojjgagcpkjkaaa
open Go.ChangeShapes Go.WideShapes Go.ChangeAt Go.RowKit
set_option linter.unusedVariables false

theorem Try.slotInfo : (Try.prog.info? 45).map (fun i => (i.zero, i.size, i.bytes)) = some (some (.agg #[.int .u64 0, .int .u64 0]), 2, 16) := by kernel_rfl
theorem Try.twoS : TwoInfo Try.prog 36 45 16 := by
  obtain ⟨i, hi, h0, h1, h2⟩ := info_parts Try.slotInfo
  exact ⟨Try.underlying36, i, _, hi, h0, h1, h2, rfl⟩

def pairI (L : List Int) (k : Nat) : List PR := (List.range k).map fun i => (L.getD (2 * i) 0, L.getD (2 * i + 1) 0)
theorem pairI_succ (L : List Int) (k : Nat) : pairI L (k + 1) = pairI L k ++ [(L.getD (2 * k) 0, L.getD (2 * k + 1) 0)] := by
  unfold pairI; rw [List.range_succ, List.map_append]; rfl
theorem pairI_length (L : List Int) (k : Nat) : (pairI L k).length = k := by simp [pairI]
def tabC (l : List Int) (p kind : Int) : Int := if tableF kind = true then entC l p kind 0 16 else 1
def pairsOf (l : List Int) (p : Int) : List PR := pairI (numsOf l p) ((numsOf l p).length / 2)

def ReadTE (w : World) (l : List Int) (p C : Int) (e : Ending) (w' : World) : Prop :=
  ∃ a1 n1 c1, e = .returned (.tuple #[.slice a1 n1 c1, .int .i64 C]) ∧ (C = 0 → OwnP 45 w' w.heap.size a1 n1 c1 (pairsOf l p)) ∧ (C ≠ 0 → a1 = none ∧ n1 = 0 ∧ c1 = 0) ∧ Below w.heap.size w w'

set_option maxRecDepth 100000 in
set_option maxHeartbeats 1000000 in
theorem readtab_any (p kind : Int) (a : Option Addr) (m c : Nat) (l : List Int) (w : World) (hr : RdB w a m c l) (hm : m ≤ 1000000) (h0 : 0 ≤ p) (h1 : p ≤ 18446744073709551615) :
    Calls Try.prog 21 #[.slice a m c, .int .u64 p, .int .i64 kind] w (ReadTE w l p (tabC l p kind)) := by
  obtain rfl : l.length = m := hr.len
  have HT := Lib.hid (table_any kind w)
  cases ht : tableF kind with
  | false =>
    rw [show tabC l p kind = 1 by unfold tabC; rw [if_neg (by rw [ht]; decide)]]
    rw [ht] at HT
    clear ht
    go_enter Try.func21, Try.ntmps21
    go_wp2_with fail
    refine HT.out.mono ?_
    rintro e w' ⟨rfl, rfl⟩
    go_wp2_with fail
    refine bodyPost_ret (v := .tuple #[.slice none 0 0, .int .i64 1]) (by simp [results, Try.results21, go_sem]) rfl ?_
    exact ⟨none, 0, 0, rfl, fun h => absurd h (by decide), fun _ => ⟨rfl, rfl, rfl⟩, Below.refl _ _⟩
  | true =>
  rw [show tabC l p kind = entC l p kind 0 16 by unfold tabC; rw [if_pos ht]]
  rw [ht] at HT
  have HC := Lib.hid (entbody_any p kind 0 16 (by omega) (by omega) a l.length c l w hr hm h0 h1)
  obtain ⟨C, hCC⟩ : ∃ C, entC l p kind 0 16 = C := ⟨_, rfl⟩
  rw [hCC] at HC ⊢
  have HCC := Lib.hid hCC
  clear hCC ht
  by_cases hc : C = 0
  case neg =>
    have hc' : (C != 0) = true := by simpa using hc
    have Hc := Lib.hid hc
    clear hc
    go_enter Try.func21, Try.ntmps21
    go_wp2_with fail
    refine HT.out.mono ?_
    rintro e w' ⟨rfl, rfl⟩
    go_wp2_with fail
    refine HC.out.mono ?_
    rintro e w2 ⟨a1, n1, c1, rfl, -, hb2⟩
    go_wp2_with fail
    refine bodyPost_ret (v := .tuple #[.slice none 0 0, .int .i64 C]) (by simp [results, Try.results21, go_sem]) rfl ?_
    exact ⟨none, 0, 0, rfl, fun h => absurd h Hc.out, fun _ => ⟨rfl, rfl, rfl⟩, hb2⟩
  subst hc
  obtain ⟨k0, k1, k2, k3⟩ := entC_ok h0 (by omega) HCC.out
  have hbl := bodyL_length h0 k0
  obtain ⟨g1, g2, g3, g4, g5, g6⟩ := readC_ok h0 k0
  obtain ⟨M, hM⟩ : ∃ M, (allF (bodyL l p)).length = 2 * M := ⟨(allF (bodyL l p)).length / 2, by rw [allF_length, hbl]; omega⟩
  have hbln : (bodyL l p).length ≤ 1000000 := by omega
  have hbB : IsB (bodyL l p) := (hr.1.drop _).take _
  have hbd : ∀ v ∈ allF (bodyL l p), 0 ≤ v ∧ v ≤ 18446744073709551615 := allI_bd hbB _
  have hMl : M ≤ 1000000 := by rw [allF_length] at hM; omega
  unfold ReadTE
  have HNO := Lib.hid (show pairsOf l p = pairI (allF (bodyL l p)) M by unfold pairsOf numsOf; rw [hM, Nat.mul_div_cancel_left _ (by omega)])
  obtain ⟨X, hX⟩ : ∃ X, bodyL l p = X := ⟨_, rfl⟩
  rw [hX] at hbln hbd hM HNO
  have HXX := Lib.hid hX
  clear hX hbl hbB k0 k1 k2 k3 g1 g2 g3 g4 g5 g6
  have HLL := Lib.hid (rfl : allF X = allF X)
  obtain ⟨L, hL⟩ : ∃ L, allF X = L := ⟨_, rfl⟩
  rw [hL] at hbd hM HNO
  have HVV := Lib.hid hL
  have HBD := Lib.hid hbd
  have HM := Lib.hid hM
  clear hL hbd HLL
  go_enter Try.func21, Try.ntmps21
  go_wp2_with fail
  refine HT.out.mono ?_
  rintro e w' ⟨rfl, rfl⟩
  go_wp2_with fail
  refine HC.out.mono ?_
  rintro e w2 ⟨a1, n1, c1, rfl, hr2, hb2⟩
  have hr2 := hr2 rfl
  rw [HXX.out] at hr2
  have hn1 := hr2.len
  have HB2 := Lib.hid hb2
  have HAL := Lib.hid (all_any a1 n1 c1 X w2 hr2 (by omega))
  rw [HVV.out] at HAL
  clear hr2 hn1 hb2
  go_wp2_with fail
  refine HAL.out.mono ?_
  rintro e w3 ⟨a3, c3, rfl, ho3, hb3⟩
  have HB3 := Lib.hid (HB2.out.trans (hb3.mono HB2.out.size))
  have HO3 := Lib.hid ho3
  rw [hM]
  clear hb3 ho3 hM
  go_wp2_with fail
  go_loopw [11, 12] (fun s i wr => ∃ (k : Nat) (a' : Option Addr) (c' q : Nat), k ≤ M ∧ q = 2 * k ∧ i = .int .i64 (q : Int) ∧ s = .slice a' k c' ∧ OwnP 45 wr w3.heap.size a' k c' (pairI L k) ∧ Below w3.heap.size w3 wr) (fun s _ _ => M - lenS' s)
  case atStart => exact ⟨0, none, 0, 0, Nat.zero_le _, rfl, rfl, rfl, OwnP.nil _ _ _, Below.refl _ _⟩
  case round =>
    obtain ⟨k, a', c', q, hk, hq, rfl, rfl, hown, hB⟩ := hrel
    have HO := Lib.hid hown
    have HB := Lib.hid hB
    have HQ := Lib.hid hq
    clear hown hB
    by_cases hlt : k < M
    · have hq2 : q + 1 < 2 * M := by omega
      have hqM : q ≤ 2000000 := by omega
      obtain ⟨N, hN⟩ : ∃ N, 2 * M = N := ⟨_, rfl⟩
      have hLN : L.length = N := HM.out.trans hN
      rw [hN] at hq2 ⊢
      have HN := Lib.hid hN
      have hrd := HO3.out.rd
      rw [hLN] at hrd
      have hrd := hrd.mono HB.out
      obtain ⟨b, off, rfl, hbk, hcs⟩ := hrd.at (by omega)
      obtain ⟨x, hx⟩ : ∃ x, L[q]? = some x := ⟨_, List.getElem?_eq_getElem (by omega)⟩
      obtain ⟨y, hy⟩ : ∃ y, L[q + 1]? = some y := ⟨_, List.getElem?_eq_getElem (by omega)⟩
      have hcx := hcs q x hx
      have hcy := hcs (q + 1) y hy
      obtain ⟨x0, x1⟩ := HBD.out x (List.mem_of_getElem? hx)
      obtain ⟨y0, y1⟩ := HBD.out y (List.mem_of_getElem? hy)
      have HP := Lib.hid (show pairI L (k + 1) = pairI L k ++ [(x, y)] by
        rw [pairI_succ, ← HQ.out, List.getD_eq_getElem?_getD, List.getD_eq_getElem?_getD, hx, hy]; rfl)
      have hqi : (q : Int) < (N : Int) := by omega
      obtain ⟨q1, hq1⟩ : ∃ q1, q + 1 = q1 := ⟨_, rfl⟩
      rw [hq1] at hcy
      have hqw : IntKind.i64.wrap ((q : Int) + 1) = (q1 : Int) := by rw [IntKind.wrap_i64]; omega
      have hqj : (q1 : Int) < (N : Int) := by omega
      have hqj2 : q1 < N := by omega
      have HQ1 := Lib.hid hq1
      clear hq1
      have hqn : q < N := by omega
      have hB3 : Below wr.heap.size wr (wr.drew.alloc (.cells #[.int .u64 x, .int .u64 y] 45)) := (below_drew wr).alloc (Nat.le_refl _) _
      have HOW := Lib.hid (HO.out.mono hB3)
      have HS0 := Lib.hid (cell_of_heap (heap_alloc_new wr.drew (.cells #[.int .u64 x, .int .u64 y] 45)) 0 _ rfl)
      have HS1 := Lib.hid (cell_of_heap (heap_alloc_new wr.drew (.cells #[.int .u64 x, .int .u64 y] 45)) 1 _ rfl)
      have hf1 : (k + 1) * 16 ≤ 140737488355328 := by omega
      have hf2 : k + 1 ≤ 140737488355328 := by omega
      have hz3 := Nat.le_trans HB.out.size hB3.size
      have HB3' := Lib.hid hB3
      have HK := Lib.hid hlt
      clear hx hy hcs hrd hN hq hLN hB3 hlt
      go_upto_region 11 with fail
      go_region_law (refine step_appP (p := (x, y)) rfl rfl Try.twoS rfl rfl HOW.out HS0.out HS1.out hf1 hf2 hz3 ?_; intro a5 c5 w5 ho5 hu5 _)
      all_goals
        have hlow : ∀ j ∈ blk a', w3.heap.size ≤ j := fun j hj => by obtain ⟨z, hz, rfl⟩ := mem_blk.1 hj; exact (HO.out.lt z hz).1
        have hB5 := HB.out.trans ((HB3'.out.mono HB.out.size).trans (hu5.below hz3 hlow))
        go_wp2_with fail
        go_roundw
        case rel => exact ⟨k + 1, a5, c5, q + 2, by have := HK.out; omega, by have := HQ.out; omega, by congr 1, rfl, by rw [HP.out]; exact ho5, hB5⟩
        case measure => show M - (k + 1) < M - k; have := HK.out; omega
    · obtain rfl : k = M := by omega
      have hge : ¬ ((q : Int) < ((2 * k : Nat) : Int)) := by omega
      have hge2 : 2 * k ≤ q := by omega
      clear hlt
      go_wp2_with fail
      refine bodyPost_ret (v := .tuple #[.slice a' k c', .int .i64 0]) (by simp [results, Try.results21, go_sem]) rfl ?_
      exact ⟨_, _, _, rfl, by rw [HNO.out]; exact HO.out.base HB3.out.size, HB3.out.trans (HB.out.mono HB3.out.size)⟩
end Go.Proofs.Ytojjgagcpkjkaaa
