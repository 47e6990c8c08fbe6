/- What the document's own ReadTable, ReadArray compute. Conditions stand as premises. -/
import Derived.Test.YtojjgagcpkjkaaaRefBodyE
import Derived.Test.YtojjgagcpkjkaaaEntReadT
import Derived.Test.YtojjgagcpkjkaaaStruct
import Derived.Deep.CutBlock
namespace Go.Proofs.Ytojjgagcpkjkaaa
open Go.ChangeShapes Go.WideShapes Go.ChangeAt Go.RowKit
set_option linter.unusedVariables false
set_option linter.unusedSimpArgs false

theorem Try.rslotInfo : (Try.prog.info? 46).map (fun i => (i.zero, i.size, i.bytes)) = some (some (.agg #[.int .u64 0, .int .u64 0]), 2, 16) := by kernel_rfl
theorem Try.twoRS : TwoInfo Try.prog 43 46 16 := by
  obtain ⟨i, hi, h0, h1, h2⟩ := info_parts Try.rslotInfo
  exact ⟨Try.underlying43, i, _, hi, h0, h1, h2, rfl⟩

/-- The codes of package and document. -/
theorem entC_body {l : List Int} {p kind A T : Int} (hp : 0 ≤ p) (hA : 0 ≤ A) (hT : 0 < T) (hAT : A % T = 0) (h : bodyC l p kind = 0) :
    readC l p = 0 ∧ kindAt l p = kind ∧ (entC l p kind A T = if ((bodyL l p).length : Int) < A + T ∨ ((bodyL l p).length : Int) % T ≠ 0 then 5 else 0) := by
  unfold bodyC at h
  by_cases h1 : readC l p ≠ 0
  · rw [if_pos h1] at h; exact absurd h h1
  rw [if_neg h1] at h
  by_cases h2 : kindAt l p ≠ kind
  · rw [if_pos h2] at h; exact absurd h (by decide)
  have h1 : readC l p = 0 := by simpa using h1
  have h2 : kindAt l p = kind := by simpa using h2
  refine ⟨h1, h2, ?_⟩
  have hl := bodyL_length hp h1
  obtain ⟨_, _, _, _, g5, _⟩ := readC_ok hp h1
  unfold entC
  rw [if_neg (by simpa using h1), if_neg (by simpa using h2)]
  have hz : sizeAt l p.toNat = 16 + ((bodyL l p).length : Int) := by omega
  rw [hz]
  generalize ((bodyL l p).length : Int) = n at *
  have e : (16 + n - (16 + A)) % T = n % T := by
    rw [show 16 + n - (16 + A) = n - A by omega, Int.sub_emod, hAT, Int.sub_zero, Int.emod_emod]
  rw [e]
  by_cases h3 : n % T = 0
  · obtain ⟨q, rfl⟩ := Int.dvd_of_emod_eq_zero h3
    obtain ⟨r, rfl⟩ := Int.dvd_of_emod_eq_zero hAT
    have key : (T * q ≤ T * r) ↔ (T * q < T * r + T) := by
      constructor
      · intro h; omega
      · intro h
        have : T * q < T * (r + 1) := by rw [Int.mul_add, Int.mul_one]; exact h
        have := Int.lt_of_mul_lt_mul_left this (Int.le_of_lt hT)
        exact Int.mul_le_mul_of_nonneg_left (by omega) (Int.le_of_lt hT)
    have e3 : T * q % T = 0 := Int.mul_emod_right T q
    by_cases h4 : T * q ≤ T * r
    · rw [if_pos (.inl (by omega)), if_pos (.inl (key.1 h4))]
    · rw [if_neg (by omega), if_neg (fun h => h.elim (fun h => h4 (key.2 h)) (fun h => h e3))]
  · rw [if_pos (.inr h3), if_pos (.inr h3)]
theorem entC_body_no {l : List Int} {p kind A T : Int} (h : bodyC l p kind ≠ 0) : entC l p kind A T = bodyC l p kind := by
  unfold bodyC at h ⊢
  unfold entC
  by_cases h1 : readC l p ≠ 0
  · rw [if_pos h1, if_pos h1]
  rw [if_neg h1] at h ⊢
  rw [if_neg h1]
  by_cases h2 : kindAt l p ≠ kind
  · rw [if_pos h2, if_pos h2]
  · rw [if_neg h2] at h; exact absurd rfl h

/-- One number of bytes, by the document's reading. -/
theorem uL_any (a : Option Addr) (n c : Nat) (X : List Int) (i : Nat) (y q : Int) (w : World) (hr : RdB w a n c X) (hn : n ≤ 1000000) (h8 : X.length % 8 = 0) (hq : q = ((8 * i : Nat) : Int)) (hy : (allF X)[i]? = some y) :
    Calls Try.prog 38 #[.slice a n c, .int .u64 q] w fun e w' => e = .returned (.int .u64 y) ∧ w = w' := by
  have hl := hr.len
  have hi : i < (allF X).length := (List.getElem?_eq_some_iff.1 hy).1
  rw [allF_length] at hi
  have h2 : 8 * i + 8 ≤ n := by omega
  have hg : getB X ((8 * i : Nat) : Int) 8 = true := by unfold getB; simp [okSize]; omega
  have hA : getA X ((8 * i : Nat) : Int) 8 = leN ((X.drop (8 * i)).take 8) := by unfold getA; rw [if_pos hg]; congr 2
  have hyy : y = leN ((X.drop (8 * i)).take 8) := by
    unfold allF allI at hy
    rw [List.getElem?_map, List.getElem?_range hi] at hy
    rw [← hA]
    exact (Option.some.inj hy).symm
  rw [hyy, hq]
  exact u_any a n c X (8 * i) w hr (by omega) h2

def RefTE (w : World) (Ps : List PR) (C : Int) (e : Ending) (w' : World) : Prop :=
  ∃ a1 n1 c1, e = .returned (.tuple #[.slice a1 n1 c1, .int .i64 C]) ∧ (C = 0 → OwnP 46 w' w.heap.size a1 n1 c1 Ps) ∧ (C ≠ 0 → a1 = none ∧ n1 = 0 ∧ c1 = 0) ∧ Below w.heap.size w w'

set_option maxRecDepth 100000 in
set_option maxHeartbeats 1000000 in
theorem refreadtab_any (p kind : Int) (a : Option Addr) (m c : Nat) (l : List Int) (w : World) (hr : RdB w a m c l) (hm : m ≤ 1000000) (h0 : 0 ≤ p) (h1 : p ≤ 18446744073709551615) :
    Calls Try.prog 22 #[.slice a m c, .int .u64 p, .int .i64 kind] w (RefTE w (pairsOf l p) (tabC l p kind)) := by
  obtain rfl : l.length = m := hr.len
  cases ht : tableF kind with
  | false =>
    rw [show tabC l p kind = 1 by unfold tabC; rw [if_neg (by rw [ht]; decide)]]
    have k4 : (kind != 4) = true := by unfold tableF at ht; simp at ht; simp [ht.1]
    have k5 : (kind != 5) = true := by unfold tableF at ht; simp at ht; simp [ht.2]
    clear ht
    go_enter Try.func22, Try.ntmps22
    go_wp2_with fail
    refine bodyPost_ret (v := .tuple #[.slice none 0 0, .int .i64 1]) (by simp [results, Try.results22, go_sem]) rfl ?_
    exact ⟨none, 0, 0, rfl, fun h => absurd h (by decide), fun _ => ⟨rfl, rfl, rfl⟩, Below.refl _ _⟩
  | true =>
  rw [show tabC l p kind = entC l p kind 0 16 by unfold tabC; rw [if_pos ht]]
  have HC := Lib.hid (refbody_any p kind a l.length c l w hr (by omega) h0 h1)
  have hk : kind = 4 ∨ kind = 5 := by unfold tableF at ht; simpa using ht
  clear ht
  by_cases hb0 : bodyC l p kind = 0
  case neg =>
    rw [entC_body_no hb0]
    generalize bodyC l p kind = C at *
    have hc' : (C != 0) = true := by simpa using hb0
    have Hc := Lib.hid hb0
    clear hb0
    rcases hk with rfl | rfl
    all_goals
      go_enter Try.func22, Try.ntmps22
      go_wp2_with fail
      refine HC.out.mono ?_
      rintro e w2 ⟨a1, n1, c1, rfl, -, hb2⟩
      go_wp2_with fail
      refine bodyPost_ret (v := .tuple #[.slice none 0 0, .int .i64 C]) (by simp [results, Try.results22, go_sem]) rfl ?_
      exact ⟨none, 0, 0, rfl, fun h => absurd h Hc.out, fun _ => ⟨rfl, rfl, rfl⟩, hb2⟩
  obtain ⟨k0, k1, k2⟩ := entC_body (A := 0) (T := 16) h0 (by omega) (by omega) (by decide) hb0
  rw [hb0] at HC
  have hbl := bodyL_length h0 k0
  obtain ⟨g1, g2, g3, g4, g5, g6⟩ := readC_ok h0 k0
  have hXl : (bodyL l p).length ≤ 1000000 := by omega
  have hbB : IsB (bodyL l p) := (hr.1.drop _).take _
  have HP := Lib.hid (show pairsOf l p = pairI (allF (bodyL l p)) ((allF (bodyL l p)).length / 2) from rfl)
  rw [k2]
  generalize pairsOf l p = Ps at *
  generalize bodyL l p = X at *
  clear hbl k0 k1 k2 g1 g2 g3 g4 g5 g6 hb0
  by_cases hs : (X.length : Int) < 16 ∨ (X.length : Int) % 16 ≠ 0
  · rw [if_pos (by omega)]
    by_cases hs1 : (X.length : Int) < 16
    · clear hs
      rcases hk with rfl | rfl
      all_goals
        go_enter Try.func22, Try.ntmps22
        go_wp2_with fail
        refine HC.out.mono ?_
        rintro e w2 ⟨a1, n1, c1, rfl, ho, hb2⟩
        obtain rfl : X.length = n1 := (ho trivial).2.1
        clear ho
        go_wp2_with fail
        refine bodyPost_ret (v := .tuple #[.slice none 0 0, .int .i64 5]) (by simp [results, Try.results22, go_sem]) rfl ?_
        exact ⟨none, 0, 0, rfl, fun h => absurd h (by decide), fun _ => ⟨rfl, rfl, rfl⟩, hb2⟩
    · have hs3 : (X.length : Int) % 16 ≠ 0 := by omega
      have hs2 : ((X.length : Int) % 16 != 0) = true := by simpa using hs3
      have hs4 : 16 ≤ (X.length : Int) := by omega
      clear hs hs3
      rcases hk with rfl | rfl
      all_goals
        go_enter Try.func22, Try.ntmps22
        go_wp2_with fail
        refine HC.out.mono ?_
        rintro e w2 ⟨a1, n1, c1, rfl, ho, hb2⟩
        obtain rfl : X.length = n1 := (ho trivial).2.1
        clear ho
        go_wp2_with fail
        refine bodyPost_ret (v := .tuple #[.slice none 0 0, .int .i64 5]) (by simp [results, Try.results22, go_sem]) rfl ?_
        exact ⟨none, 0, 0, rfl, fun h => absurd h (by decide), fun _ => ⟨rfl, rfl, rfl⟩, hb2⟩
  rw [if_neg (by omega)]
  obtain ⟨M, hM⟩ : ∃ M, X.length = 16 * M := ⟨X.length / 16, by omega⟩
  have hL0 : (allF X).length = 2 * M := by rw [allF_length]; omega
  have hM1 : 1 ≤ M := by omega
  have HM := Lib.hid hM
  have HL0 := Lib.hid hL0
  have hs2 : ((X.length : Int) % 16 != 0) = false := by simp; omega
  have hs4 : 16 ≤ (X.length : Int) := by omega
  have hX8 : X.length % 8 = 0 := by omega
  have HX8 := Lib.hid hX8
  have HU := Lib.hid (fun (a1 : Option Addr) (c1 i : Nat) (y q : Int) (w' : World) (h : RdB w' a1 X.length c1 X) (h2 : q = ((8 * i : Nat) : Int)) (h3 : (allF X)[i]? = some y) => uL_any a1 X.length c1 X i y q w' h hXl hX8 h2 h3)
  have HBD := Lib.hid (show ∀ v ∈ allF X, 0 ≤ v ∧ v ≤ 18446744073709551615 from allI_bd hbB _)
  have HPs := Lib.hid (show Ps = pairI (allF X) M by rw [HP.out, hL0, Nat.mul_div_cancel_left _ (by omega)])
  obtain ⟨L, hLe⟩ : ∃ L, allF X = L := ⟨_, rfl⟩
  rw [hLe] at HU HBD HPs HL0
  have hXM : X.length ≤ 16 * M := by omega
  clear hs hM hX8 hL0 hLe HP
  rcases hk with rfl | rfl
  all_goals
    go_enter Try.func22, Try.ntmps22
    go_wp2_with fail
    refine HC.out.mono ?_
    rintro e w2 ⟨a1, n1, c1, rfl, ho, hb2⟩
    have ho := ho trivial
    obtain rfl : X.length = n1 := ho.2.1
    have HR := Lib.hid ho.rd
    have HB := Lib.hid hb2
    clear ho hb2
    go_wp2_with fail
    go_loopw [10, 11] (fun s i wr => ∃ (k : Nat) (a' : Option Addr) (c' q : Nat), k ≤ M ∧ q = 16 * k ∧ i = .int .i64 (q : Int) ∧ s = .slice a' k c' ∧ OwnP 46 wr w2.heap.size a' k c' (pairI L k) ∧ Below w2.heap.size w2 wr) (fun s _ _ => M - lenS' s)
    case atStart => exact ⟨0, none, 0, 0, Nat.zero_le _, rfl, rfl, rfl, OwnP.nil _ _ _, Below.refl _ _⟩
    case round =>
      obtain ⟨k, a', c', q, hk, hq, rfl, rfl, hown, hB⟩ := hrel
      have HO := Lib.hid hown
      have HBr := Lib.hid hB
      have HQ := Lib.hid hq
      have hMX : 16 * M ≤ X.length := by have := HM.out; omega
      clear hown hB
      by_cases hlt : k < M
      · have hqX : (q : Int) < (X.length : Int) := by omega
        have hq2 : (q : Int) ≤ 1000000 := by omega
        obtain ⟨y, hy⟩ : ∃ y, L[2 * k]? = some y := ⟨_, List.getElem?_eq_getElem (by rw [HL0.out]; omega)⟩
        obtain ⟨z, hz⟩ : ∃ z, L[2 * k + 1]? = some z := ⟨_, List.getElem?_eq_getElem (by rw [HL0.out]; omega)⟩
        obtain ⟨y0, y1⟩ := HBD.out y (List.mem_of_getElem? hy)
        obtain ⟨z0, z1⟩ := HBD.out z (List.mem_of_getElem? hz)
        have HPk := Lib.hid (show pairI L (k + 1) = pairI L k ++ [(y, z)] by
          rw [pairI_succ, List.getD_eq_getElem?_getD, List.getD_eq_getElem?_getD, hy, hz]; rfl)
        have HR2 := Lib.hid (HR.out.mono HBr.out)
        have HU1 := Lib.hid (HU.out a1 c1 (2 * k) y (q : Int) wr HR2.out (by omega) hy)
        have HU2 := Lib.hid (HU.out a1 c1 (2 * k + 1) z ((q : Int) + 8) wr HR2.out (by omega) hz)
        have hB3 := below_alloc wr (.cells #[.int .u64 y, .int .u64 z] 46)
        have HOW := Lib.hid (HO.out.mono hB3)
        have HS0 := Lib.hid (cell_of_heap (heap_alloc_new wr (.cells #[.int .u64 y, .int .u64 z] 46)) 0 _ rfl)
        have HS1 := Lib.hid (cell_of_heap (heap_alloc_new wr (.cells #[.int .u64 y, .int .u64 z] 46)) 1 _ rfl)
        have hf1 : (k + 1) * 16 ≤ 140737488355328 := by omega
        have hf2 : k + 1 ≤ 140737488355328 := by omega
        have hz3 := Nat.le_trans HBr.out.size hB3.size
        have HB3' := Lib.hid hB3
        have HK := Lib.hid hlt
        clear hy hz hq hlt hB3
        go_wp2_with fail
        refine HU1.out.mono ?_
        rintro e w' ⟨rfl, rfl⟩
        go_wp2_with fail
        refine HU2.out.mono ?_
        rintro e w' ⟨rfl, rfl⟩
        go_wp2_with (at_builtin; go_must (refine wpList_appP (p := (y, z)) rfl rfl Try.twoRS rfl rfl HOW.out HS0.out HS1.out hf1 hf2 hz3 ?_); intro a5 c5 w5 ho5 hu5 _)
        have hlow : ∀ j ∈ blk a', w2.heap.size ≤ j := fun j hj => by obtain ⟨z, hz, rfl⟩ := mem_blk.1 hj; exact (HO.out.lt z hz).1
        have hB5 := HBr.out.trans ((HB3'.out.mono HBr.out.size).trans (hu5.below hz3 hlow))
        go_roundw
        case rel => exact ⟨k + 1, a5, c5, q + 16, by have := HK.out; omega, by have := HQ.out; omega, by congr 1, rfl, by rw [HPk.out]; exact ho5, hB5⟩
        case measure => show M - (k + 1) < M - k; have := HK.out; omega
      · obtain rfl : k = M := by omega
        have hge : ¬ ((q : Int) < (X.length : Int)) := by omega
        have hge2 : (X.length : Int) ≤ (q : Int) := by omega
        clear hlt hq
        go_wp2_with fail
        refine bodyPost_ret (v := .tuple #[.slice a' k c', .int .i64 0]) (by simp [results, Try.results22, go_sem]) rfl ?_
        exact ⟨_, _, _, rfl, fun _ => by rw [HPs.out]; exact HO.out.base HB.out.size, fun h => absurd rfl h, HB.out.trans (HBr.out.mono HB.out.size)⟩
end Go.Proofs.Ytojjgagcpkjkaaa
