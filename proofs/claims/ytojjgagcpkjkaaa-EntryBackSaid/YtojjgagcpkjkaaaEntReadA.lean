/- What entry.ReadArray computes. Conditions stand as premises. -/
import Derived.Test.YtojjgagcpkjkaaaEntBody
import Derived.Test.YtojjgagcpkjkaaaEntAll
import Derived.Test.YtojjgagcpkjkaaaEntPutT
import Derived.Test.YtojjgagcpkjkaaaHashMix
import Derived.OrdersHeld
namespace Go.Proofs.Ytojjgagcpkjkaaa
open Go.ChangeShapes Go.WideShapes Go.ChangeAt Go.RowKit
set_option linter.unusedVariables false

theorem entC_ok {l : List Int} {p kind A T : Int} (hp : 0 ≤ p) (hA : 0 ≤ A) (h : entC l p kind A T = 0) : readC l p = 0 ∧ kindAt l p = kind ∧ 16 + A < sizeAt l p.toNat ∧ (sizeAt l p.toNat - (16 + A)) % T = 0 := by
  unfold entC at h
  by_cases h1 : readC l p ≠ 0
  · rw [if_pos h1] at h; exact absurd h h1
  rw [if_neg h1] at h
  by_cases h2 : kindAt l p ≠ kind
  · rw [if_pos h2] at h; exact absurd h (by decide)
  rw [if_neg h2] at h
  by_cases h3 : sizeAt l p.toNat ≤ 16 + A ∨ (sizeAt l p.toNat - (16 + A)) % T ≠ 0
  · rw [if_pos h3] at h; exact absurd h (by decide)
  refine ⟨by simpa using h1, by simpa using h2, by omega, by omega⟩

/-- The numbers of an object at a place. -/
def numsOf (l : List Int) (p : Int) : List Int := allF (bodyL l p)

def ReadAE (w : World) (l : List Int) (p C : Int) (e : Ending) (w' : World) : Prop :=
  ∃ x a1 n1 c1, e = .returned (.tuple #[.agg #[.int .u64 x, .slice a1 n1 c1], .int .i64 C]) ∧ (C = 0 → ∃ t, numsOf l p = x :: t ∧ Rd (Value.int .u64) w' a1 n1 c1 t) ∧ (C ≠ 0 → x = 0 ∧ a1 = none ∧ n1 = 0 ∧ c1 = 0) ∧ Below w.heap.size w w'

set_option maxRecDepth 100000 in
set_option maxHeartbeats 1000000 in
theorem readarray_any (p : Int) (a : Option Addr) (m c : Nat) (l : List Int) (w : World) (hr : RdB w a m c l) (hm : m ≤ 1000000) (h0 : 0 ≤ p) (h1 : p ≤ 18446744073709551615) :
    Calls Try.prog 19 #[.slice a m c, .int .u64 p] w (ReadAE w l p (entC l p 6 8 8)) := by
  obtain rfl : l.length = m := hr.len
  have HC := Lib.hid (fun w' (hb : Below w.heap.size w w') => entbody_any p 6 8 8 (by omega) (by omega) a l.length c l w' (hr.mono hb) hm h0 h1)
  obtain ⟨C, hCC⟩ : ∃ C, entC l p 6 8 8 = C := ⟨_, rfl⟩
  rw [hCC] at HC ⊢
  have HCC := Lib.hid hCC
  clear hCC
  by_cases hc : C = 0
  case neg =>
    have hc' : (C != 0) = true := by simpa using hc
    have Hc := Lib.hid hc
    clear hc
    go_enter Try.func19, Try.ntmps19
    go_upto_region 1 with fail
    have hX := heap_alloc_new w (.cells #[.int .u64 0, .slice none 0 0] 35)
    have HB1 := Lib.hid (below_alloc w (.cells #[.int .u64 0, .slice none 0 0] 35))
    have hq0 := cell_of_heap hX 0 _ rfl
    have hq1 := cell_of_heap hX 1 _ rfl
    have hf0 := free_of_heap hX 0
    have hf1 := free_of_heap hX 1
    have hlt := lt_of_heap hX
    clear hX
    generalize w.alloc (.cells #[.int .u64 0, .slice none 0 0] 35) = w1 at HB1 hq0 hq1 hf0 hf1 hlt ⊢
    go_wp2_with fail
    refine (HC.out w1 HB1.out).mono ?_
    rintro e w2 ⟨a1, n1, c1, rfl, -, hb2⟩
    have HB2 := Lib.hid (HB1.out.trans (hb2.mono HB1.out.size))
    have hs0 := bcell hb2 hlt hq0
    have hs1 := bcell hb2 hlt hq1
    have hg0 := bfree hb2 hlt hf0
    have hg1 := bfree hb2 hlt hf1
    clear hb2 hq0 hq1 hf0 hf1
    go_wp2_with fail
    have e0 : ((w2.setCell ⟨w.heap.size, 0, none⟩ (.int .u64 0)).setCell ⟨w.heap.size, 1, none⟩ (.slice none 0 0)).cell? ⟨w.heap.size, 0, none⟩ = some (.int .u64 0) := keep_set (by decide) (World.cell?_setCell_same _ _ _ hs0)
    have e1 : ((w2.setCell ⟨w.heap.size, 0, none⟩ (.int .u64 0)).setCell ⟨w.heap.size, 1, none⟩ (.slice none 0 0)).cell? ⟨w.heap.size, 1, none⟩ = some (.slice none 0 0) := World.cell?_setCell_same _ _ _ (keep_set (by decide) hs1)
    have HB3 := Lib.hid ((HB2.out.setCell (p := ⟨w.heap.size, 0, none⟩) (Nat.le_refl _) (.int .u64 0)).setCell (p := ⟨w.heap.size, 1, none⟩) (Nat.le_refl _) (.slice none 0 0))
    generalize (w2.setCell ⟨w.heap.size, 0, none⟩ (.int .u64 0)).setCell ⟨w.heap.size, 1, none⟩ (.slice none 0 0) = w3 at e0 e1 HB3 ⊢
    refine bodyPost_ret (v := .tuple #[.agg #[.int .u64 0, .slice none 0 0], .int .i64 C]) (by simp [results, Try.results19, go_sem, e0, e1]) rfl ?_
    exact ⟨0, none, 0, 0, rfl, fun h => absurd h Hc.out, fun _ => ⟨rfl, rfl, rfl, rfl⟩, HB3.out⟩
  subst hc
  obtain ⟨k0, k1, k2, k3⟩ := entC_ok h0 (by omega) HCC.out
  have hbl := bodyL_length h0 k0
  obtain ⟨g1, g2, g3, g4, g5, g6⟩ := readC_ok h0 k0
  have hn2 : 2 ≤ (allF (bodyL l p)).length := by rw [allF_length, hbl]; omega
  have hbln : (bodyL l p).length ≤ 1000000 := by omega
  have hbB : IsB (bodyL l p) := (hr.1.drop _).take _
  have hbd : ∀ v ∈ allF (bodyL l p), 0 ≤ v ∧ v ≤ 18446744073709551615 := allI_bd hbB _
  have hnl : (allF (bodyL l p)).length ≤ 1000000 := by rw [allF_length]; omega
  unfold ReadAE
  have HNO := Lib.hid (rfl : numsOf l p = allF (bodyL l p))
  obtain ⟨X, hX⟩ : ∃ X, bodyL l p = X := ⟨_, rfl⟩
  rw [hX] at hn2 hbln hbd hnl
  have HXX := Lib.hid hX
  clear hX hbl hbB k0 k1 k2 k3 g1 g2 g3 g4 g5 g6
  match hv : allF X, hn2 with
  | x :: y :: t, _ =>
  rw [hv] at hbd hnl
  obtain ⟨x0, x1⟩ := hbd x (by simp)
  have HVV := Lib.hid hv
  clear hv hbd
  go_enter Try.func19, Try.ntmps19
  go_upto_region 1 with fail
  have hX := heap_alloc_new w (.cells #[.int .u64 0, .slice none 0 0] 35)
  have HB1 := Lib.hid (below_alloc w (.cells #[.int .u64 0, .slice none 0 0] 35))
  have hq0 := cell_of_heap hX 0 _ rfl
  have hq1 := cell_of_heap hX 1 _ rfl
  have hf0 := free_of_heap hX 0
  have hf1 := free_of_heap hX 1
  have hlt := lt_of_heap hX
  clear hX
  generalize w.alloc (.cells #[.int .u64 0, .slice none 0 0] 35) = w1 at HB1 hq0 hq1 hf0 hf1 hlt ⊢
  go_wp2_with fail
  refine (HC.out w1 HB1.out).mono ?_
  rintro e w2 ⟨a1, n1, c1, rfl, hr2, hb2⟩
  have hr2 := hr2 rfl
  rw [HXX.out] at hr2
  have HB2 := Lib.hid (HB1.out.trans (hb2.mono HB1.out.size))
  have hs0 := bcell hb2 hlt hq0
  have hs1 := bcell hb2 hlt hq1
  have hg0 := bfree hb2 hlt hf0
  have hg1 := bfree hb2 hlt hf1
  have hlt2 := Nat.lt_of_lt_of_le hlt hb2.size
  clear hb2 hq0 hq1 hf0 hf1
  have hn1 := hr2.len
  have HAL := Lib.hid (all_any a1 n1 c1 X w2 hr2 (by omega))
  rw [HVV.out] at HAL
  clear hr2 hn1
  go_wp2_with fail
  refine HAL.out.mono ?_
  rintro e w3 ⟨a3, c3, rfl, ho3, hb3⟩
  have HB3 := Lib.hid (HB2.out.trans (hb3.mono HB2.out.size))
  have hlt3 := Nat.lt_of_lt_of_le hlt2 hb3.size
  have hr0 := bcell hb3 hlt2 hs0
  have hr1 := bcell hb3 hlt2 hs1
  have hh0 := bfree hb3 hlt2 hg0
  have hh1 := bfree hb3 hlt2 hg1
  clear hb3 hs0 hs1 hg0 hg1
  have hrd := ho3.rd
  have hnd : ∀ z, a3 = some z → z.block ≠ w.heap.size := fun z hz h => by
    have := (ho3.lt z hz).1; omega
  obtain ⟨b, off, rfl, hbk, hcs⟩ := hrd.at (by simp)
  have hnd := hnd _ rfl
  simp only at hnd
  have hcx : w3.cell? ⟨b, off, none⟩ = some (.int .u64 x) := hcs 0 x rfl
  have hcap := hrd.2.1
  have hmax := hrd.2.2.1
  have hln : (x :: y :: t).length = t.length + 2 := rfl
  rw [hln] at hcap hrd hnl ⊢
  have hlI : ((t.length + 2 : Nat) : Int) = (t.length : Int) + 2 := by omega
  clear ho3 hcs
  clear hlI
  obtain ⟨N, hN⟩ : ∃ N : Nat, t.length + 2 = N := ⟨_, rfl⟩
  rw [hN] at hcap hrd hnl ⊢
  have HN := Lib.hid hN
  have hz0 : (0 : Int) < (N : Int) := by omega
  have hz1 : (1 : Int) ≤ (N : Int) := by omega
  have hz2 : 1 ≤ N := by omega
  have hz3 : 1 < c3 := by omega
  have hz4 : (N : Int) ≤ (c3 : Int) := by omega
  have hz5 : ¬ c3 = 1 := by omega
  have hz6 : 0 < N := by omega
  clear hN
  have htl := hrd.sliced 1 N (by omega) (by omega)
  rw [if_neg hz5] at htl
  have htl : Rd (Value.int .u64) w3 (some ⟨b, off + 1, none⟩) (N - 1) (c3 - 1) (y :: t) := by
    have e1 : ((x :: y :: t).drop 1).take (N - 1) = y :: t := by
      rw [List.drop_succ_cons, List.drop_zero, List.take_of_length_le (by have := HN.out; simp; omega)]
    rw [e1] at htl
    exact htl
  have HTL := Lib.hid htl
  have HRR := Lib.hid hr0
  have HW3 := Lib.hid hlt3
  have HR1 := Lib.hid hr1
  have HND := Lib.hid hnd
  clear htl hrd
  go_upto_region 5 with fail
  go_region_law fail
  go_wp2_with fail
  have hs3 := HB3.out.size
  have hs4 := Nat.lt_of_lt_of_le (Nat.lt_succ_self w.heap.size) (show w.heap.size + 1 ≤ w3.heap.size from HW3.out)
  have e0 : ((w3.setCell ⟨w.heap.size, 0, none⟩ (.int .u64 x)).setCell ⟨w.heap.size, 1, none⟩ (.slice (some ⟨b, off + 1, none⟩) (N - 1) (c3 - 1))).drew.cell? ⟨w.heap.size, 0, none⟩ = some (.int .u64 x) := (Below.cell (below_drew ((w3.setCell ⟨w.heap.size, 0, none⟩ (.int .u64 x)).setCell ⟨w.heap.size, 1, none⟩ (.slice (some ⟨b, off + 1, none⟩) (N - 1) (c3 - 1)))) (p := ⟨w.heap.size, 0, none⟩) (by simp; omega)).trans (keep_set (by decide) (World.cell?_setCell_same _ _ _ HRR.out))
  have e1 : ((w3.setCell ⟨w.heap.size, 0, none⟩ (.int .u64 x)).setCell ⟨w.heap.size, 1, none⟩ (.slice (some ⟨b, off + 1, none⟩) (N - 1) (c3 - 1))).drew.cell? ⟨w.heap.size, 1, none⟩ = some (.slice (some ⟨b, off + 1, none⟩) (N - 1) (c3 - 1)) := (Below.cell (below_drew ((w3.setCell ⟨w.heap.size, 0, none⟩ (.int .u64 x)).setCell ⟨w.heap.size, 1, none⟩ (.slice (some ⟨b, off + 1, none⟩) (N - 1) (c3 - 1)))) (p := ⟨w.heap.size, 1, none⟩) (by simp; omega)).trans (World.cell?_setCell_same _ _ _ (keep_set (by decide) HR1.out))
  have HB4 := Lib.hid ((((HB3.out).setCell (p := ⟨w.heap.size, 0, none⟩) (Nat.le_refl _) (.int .u64 x)).setCell (p := ⟨w.heap.size, 1, none⟩) (Nat.le_refl _) (.slice (some ⟨b, off + 1, none⟩) (N - 1) (c3 - 1))).drew)
  have HU4 := Lib.hid ((((Upd.setCell (F := (· = w.heap.size)) w3 ⟨w.heap.size, 0, none⟩ (.int .u64 x) rfl)).trans (Upd.setCell (F := (· = w.heap.size)) _ ⟨w.heap.size, 1, none⟩ (.slice (some ⟨b, off + 1, none⟩) (N - 1) (c3 - 1)) rfl) (fun _ _ h => h)).drew)
  generalize ((w3.setCell ⟨w.heap.size, 0, none⟩ (.int .u64 x)).setCell ⟨w.heap.size, 1, none⟩ (.slice (some ⟨b, off + 1, none⟩) (N - 1) (c3 - 1))).drew = w4 at e0 e1 HB4 HU4 ⊢
  refine bodyPost_ret (v := .tuple #[.agg #[.int .u64 x, .slice (some ⟨b, off + 1, none⟩) (N - 1) (c3 - 1)], .int .i64 0]) (by simp [results, Try.results19, go_sem, e0, e1]) rfl ?_
  refine ⟨x, _, _, _, rfl, fun _ => ⟨y :: t, ?_, HTL.out.upd HU4.out (fun z hz h => by cases hz; exact HND.out h)⟩, fun h => absurd rfl h, HB4.out⟩
  unfold numsOf
  rw [HXX.out]
  exact HVV.out
end Go.Proofs.Ytojjgagcpkjkaaa
