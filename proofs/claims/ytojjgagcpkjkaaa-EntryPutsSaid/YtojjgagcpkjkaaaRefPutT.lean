/- What the document's own PutTable, PutArray compute. Conditions stand as premises. -/
import Derived.Test.YtojjgagcpkjkaaaEntPutA
import Derived.Test.YtojjgagcpkjkaaaRefNums
import Derived.Deep.CutBlock
namespace Go.Proofs.Ytojjgagcpkjkaaa
open Go.ChangeShapes Go.WideShapes Go.ChangeAt Go.RowKit
set_option linter.unusedVariables false
set_option linter.unusedSimpArgs false

theorem nums2_any (a2 : Option Addr) (c2 : Nat) (u v : Int) (w : World) (hr : Rd (Value.int .u64) w a2 2 c2 [u, v]) (h1 : U64 u) (h2 : U64 v) :
    Calls Try.prog 32 #[.slice a2 2 c2] w fun e w' => ∃ a1 c1, e = .returned (.slice a1 16 c1) ∧ RdB w' a1 16 c1 (numsL [u, v]) ∧ Below w.heap.size w w' := by
  refine (nums_any a2 2 c2 [u, v] w hr (by intro z hz; simp at hz; rcases hz with rfl | rfl; exact h1; exact h2) (by omega)).mono ?_
  rintro e w' ⟨a1, c1, rfl, ho, hb⟩
  exact ⟨a1, c1, rfl, ho.rd, hb⟩
theorem nums1_any (a2 : Option Addr) (c2 : Nat) (u : Int) (w : World) (hr : Rd (Value.int .u64) w a2 1 c2 [u]) (h1 : U64 u) :
    Calls Try.prog 32 #[.slice a2 1 c2] w fun e w' => ∃ a1 c1, e = .returned (.slice a1 8 c1) ∧ OwnB 5 w' w.heap.size a1 8 c1 (numsL [u]) ∧ Below w.heap.size w w' := by
  refine (nums_any a2 1 c2 [u] w hr (by intro z hz; simp at hz; subst hz; exact h1) (by omega)).mono ?_
  rintro e w' ⟨a1, c1, rfl, ho, hb⟩
  exact ⟨a1, c1, rfl, ho, hb⟩

set_option maxRecDepth 100000 in
set_option maxHeartbeats 2000000 in
theorem refputtab_any (kind : Int) (a : Option Addr) (n c : Nat) (ps : List PR) (w : World) (hr : RdP w a n c ps) (hu : ∀ p ∈ ps, U64 p.1 ∧ U64 p.2) (hn : n ≤ 1000) :
    Calls Try.prog 16 #[.int .i64 kind, .slice a n c] w (NewB w.heap.size w (putTabL kind ps)) := by
  obtain rfl : ps.length = n := hr.1
  cases ht : tableF kind with
  | false =>
    rw [show putTabL kind ps = [] by unfold putTabL; rw [if_neg (by rw [ht]; decide)]]
    have k4 : (kind != 4) = true := by unfold tableF at ht; simp at ht; simp [ht.1]
    have k5 : (kind != 5) = true := by unfold tableF at ht; simp at ht; simp [ht.2]
    clear ht
    go_enter Try.func16, Try.ntmps16
    go_wp2_with fail
    go_ret
    exact ⟨none, 0, rfl, ⟨IsB.nil, Own.nil _ _ _ _⟩, Below.refl _ _⟩
  | true =>
  rw [show putTabL kind ps = putO kind (numsL (flatN ps)) by unfold putTabL; rw [if_pos ht]]
  have hk : kind = 4 ∨ kind = 5 := by unfold tableF at ht; simpa using ht
  have HR := Lib.hid hr
  have HU := Lib.hid hu
  clear ht hr hu
  rcases hk with rfl | rfl
  all_goals
    go_enter Try.func16, Try.ntmps16
    go_wp2_with fail
    go_loopw [5, 6] (fun s i wr => ∃ (k : Nat) (a' : Option Addr) (c' : Nat), k ≤ ps.length ∧ i = .int .i64 (k : Int) ∧ s = .slice a' (16 * k) c' ∧ OwnB 5 wr w.heap.size a' (16 * k) c' (numsL (flatN (ps.take k))) ∧ Below w.heap.size w wr) (fun _ i _ => ps.length - (intOf i).toNat)
    case atStart => exact ⟨0, none, 0, Nat.zero_le _, rfl, rfl, ⟨IsB.nil, Own.nil _ _ _ _⟩, Below.refl _ _⟩
    case round =>
      obtain ⟨k, a', c', hk, rfl, rfl, hrk, hB⟩ := hrel
      have HRK := Lib.hid hrk
      have HB := Lib.hid hB
      clear hrk hB
      by_cases hlt : k < ps.length
      · have hlt' : (k : Int) < (ps.length : Int) := by omega
        obtain ⟨h1, h2, h3, h4, h5⟩ := HR.out.below HB.out
        obtain ⟨b, off, rfl, hbk, hcs⟩ := h5.resolve_left (by omega)
        obtain ⟨⟨x, y⟩, hp⟩ : ∃ p, ps[k]? = some p := ⟨_, List.getElem?_eq_getElem hlt⟩
        obtain ⟨hc0, hc1⟩ := hcs k _ hp
        have HXY := Lib.hid (HU.out _ (List.mem_of_getElem? hp))
        obtain ⟨⟨x0, x1⟩, y0, y1⟩ := HU.out _ (List.mem_of_getElem? hp)
        simp only at hc0 hc1 x0 x1 y0 y1
        rw [show off + 2 * k = off + k * 2 by omega] at hc0
        rw [show off + (2 * k + 1) = off + k * 2 + 1 by omega] at hc1
        have HS := Lib.hid (flatN_snoc ps k _ hp)
        have hk0 : (0 : Int) ≤ (k : Int) := by omega
        have HRD := Lib.hid (show Rd (Value.int .u64) (wr.alloc (.cells #[.int .u64 x, .int .u64 y] 25)).drew (some ⟨wr.heap.size, 0, none⟩) 2 2 [x, y] from (Rd.two (Value.int .u64) 25 wr x y).mono (below_drew _))
        have HBA := Lib.hid ((below_alloc wr (.cells #[.int .u64 x, .int .u64 y] 25)).drew)
        have HOA := Lib.hid (HRK.out.2.mono HBA.out)
        have hf1 : (16 * k + 16) * 1 ≤ 140737488355328 := by omega
        have hf2 : 16 * k + 16 ≤ 140737488355328 := by omega
        have hz0 := Nat.le_trans HB.out.size HBA.out.size
        clear h1 h2 h3 h4 h5 hcs hp hlt
        go_upto_region 7 with fail
        go_region_law (first
          | (refine step_appAt rfl rfl Try.oneB rfl rfl HOB.out HRB.out.2 (fun _ => rfl) hf1 hf2 hz1 ?_; intro a5 c5 w5 ho5 hu5 _)
          | (go_simp; go_at_call 32; go_must (with_reducible refine (nums2_any _ _ x y _ HRD.out HXY.out.1 HXY.out.2).mono ?_); rintro e w2 ⟨a2, c2, rfl, hr2, hb2⟩; have HRB := Lib.hid hr2; have HOB := Lib.hid (HOA.out.mono hb2); have hz1 := Nat.le_trans hz0 hb2.size; have HB2 := Lib.hid (HB.out.trans ((HBA.out.trans (hb2.mono HBA.out.size)).mono HB.out.size)); clear hr2 hb2))
        all_goals
          have hB5 := HB2.out.trans (hu5.below hz1 (fun j hj => by obtain ⟨z, hz, rfl⟩ := mem_blk.1 hj; exact (HOB.out.lt z hz).1))
          have he3 : numsL (flatN (ps.take k)) ++ numsL [x, y] = numsL (flatN (ps.take (k + 1))) := by rw [HS.out, numsL_append]
          rw [he3] at ho5
          have HO5 := Lib.hid (show OwnB 5 w5 w.heap.size a5 (16 * k + 16) c5 (numsL (flatN (ps.take (k + 1)))) from ⟨numsL_isB _, ho5⟩)
          clear ho5 hu5 he3
          go_wp2_with fail
          go_roundw
          case rel => exact ⟨k + 1, a5, c5, by omega, by congr 1, rfl, HO5.out, hB5⟩
          case measure => simp [intOf]; omega
      · obtain rfl : k = ps.length := by omega
        have hge : ¬ ((ps.length : Int) < (ps.length : Int)) := by omega
        have h1 := HRK.out
        rw [List.take_length] at h1
        have H1 := Lib.hid h1.rd
        clear h1 hlt
        go_wp2_with fail
        refine (refput_obj a' (16 * ps.length) c' _ _ wr H1.out (by omega)).mono ?_
        rintro e w' ⟨a1, c1, rfl, ho1, hb1⟩
        go_wp2_with fail
        go_ret
        exact ⟨a1, c1, rfl, ⟨ho1.1, ho1.2.base HB.out.size⟩, HB.out.trans (hb1.mono HB.out.size)⟩
end Go.Proofs.Ytojjgagcpkjkaaa
