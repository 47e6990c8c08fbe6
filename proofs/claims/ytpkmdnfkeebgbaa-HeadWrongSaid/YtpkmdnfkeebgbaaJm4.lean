/- Contracts and plain laws that this claim uses, each with its conditions as premises. -/
import Derived.Test.YtpkmdnfkeebgbaaJm3
import Derived.Test.YtpkmdnfkeebgbaaJm1
import Derived.Deep.RegionHeld3
import Derived.Test.YtpkmdnfkeebgbaaJm2
import Derived.Deep.CutBlock
/- What the document's own PutTable, PutArray compute. Conditions stand as premises. -/
namespace Go.Proofs.Ytpkmdnfkeebgbaa
open Go.ChangeShapes Go.WideShapes Go.ChangeAt Go.RowKit
set_option linter.unusedVariables false
set_option linter.unusedSimpArgs false

theorem nums2_any (a2 : Option Addr) (c2 : Nat) (u v : Int) (w : World) (hr : Rd (Value.int .u64) w a2 2 c2 [u, v]) (h1 : U64 u) (h2 : U64 v) :
    Calls Try.prog 28 #[.slice a2 2 c2] w fun e w' => ∃ a1 c1, e = .returned (.slice a1 16 c1) ∧ RdB w' a1 16 c1 (numsL [u, v]) ∧ Below w.heap.size w w' := by
  refine (nums_any a2 2 c2 [u, v] w hr (by intro z hz; simp at hz; rcases hz with rfl | rfl; exact h1; exact h2) (by omega)).mono ?_
  rintro e w' ⟨a1, c1, rfl, ho, hb⟩
  exact ⟨a1, c1, rfl, ho.rd, hb⟩
theorem nums1_any (a2 : Option Addr) (c2 : Nat) (u : Int) (w : World) (hr : Rd (Value.int .u64) w a2 1 c2 [u]) (h1 : U64 u) :
    Calls Try.prog 28 #[.slice a2 1 c2] w fun e w' => ∃ a1 c1, e = .returned (.slice a1 8 c1) ∧ OwnB 5 w' w.heap.size a1 8 c1 (numsL [u]) ∧ Below w.heap.size w w' := by
  refine (nums_any a2 1 c2 [u] w hr (by intro z hz; simp at hz; subst hz; exact h1) (by omega)).mono ?_
  rintro e w' ⟨a1, c1, rfl, ho, hb⟩
  exact ⟨a1, c1, rfl, ho, hb⟩

set_option maxRecDepth 100000 in
set_option maxHeartbeats 2000000 in
theorem refputtab_any (kind : Int) (a : Option Addr) (n c : Nat) (ps : List PR) (w : World) (hr : RdP w a n c ps) (hu : ∀ p ∈ ps, U64 p.1 ∧ U64 p.2) (hn : n ≤ 1000) :
    Calls Try.prog 47 #[.int .i64 kind, .slice a n c] w (NewB w.heap.size w (putTabL kind ps)) := by
  obtain rfl : ps.length = n := hr.1
  cases ht : tableF kind with
  | false =>
    rw [show putTabL kind ps = [] by unfold putTabL; rw [if_neg (by rw [ht]; decide)]]
    have k4 : (kind != 4) = true := by unfold tableF at ht; simp at ht; simp [ht.1]
    have k5 : (kind != 5) = true := by unfold tableF at ht; simp at ht; simp [ht.2]
    clear ht
    go_enter Try.func47, Try.ntmps47
    go_wp2_with fail
    go_ret
    exact ⟨none, 0, rfl, ⟨IsB.nil, Own.nil _ _ _ _⟩, Below.refl _ _⟩
  | true =>
  rw [show putTabL kind ps = putO kind (numsL (flatN ps)) by unfold putTabL; rw [if_pos ht]]
  have hk : kind = 4 ∨ kind = 5 := by unfold tableF at ht; simpa using ht
  have HR := Lib.hid hr
  have HU := Lib.hid hu
  clear ht hr hu
  rcases hk with rfl | rfl
  all_goals
    go_enter Try.func47, Try.ntmps47
    go_wp2_with fail
    go_loopw [5, 6] (fun s i wr => ∃ (k : Nat) (a' : Option Addr) (c' : Nat), k ≤ ps.length ∧ i = .int .i64 (k : Int) ∧ s = .slice a' (16 * k) c' ∧ OwnB 5 wr w.heap.size a' (16 * k) c' (numsL (flatN (ps.take k))) ∧ Below w.heap.size w wr) (fun _ i _ => ps.length - (intOf i).toNat)
    case atStart => exact ⟨0, none, 0, Nat.zero_le _, rfl, rfl, ⟨IsB.nil, Own.nil _ _ _ _⟩, Below.refl _ _⟩
    case round =>
      obtain ⟨k, a', c', hk, rfl, rfl, hrk, hB⟩ := hrel
      have HRK := Lib.hid hrk
      have HB := Lib.hid hB
      clear hrk hB
      by_cases hlt : k < ps.length
      · have hlt' : (k : Int) < (ps.length : Int) := by omega
        obtain ⟨h1, h2, h3, h4, h5⟩ := HR.out.below HB.out
        obtain ⟨b, off, rfl, hbk, hcs⟩ := h5.resolve_left (by omega)
        obtain ⟨⟨x, y⟩, hp⟩ : ∃ p, ps[k]? = some p := ⟨_, List.getElem?_eq_getElem hlt⟩
        obtain ⟨hc0, hc1⟩ := hcs k _ hp
        have HXY := Lib.hid (HU.out _ (List.mem_of_getElem? hp))
        obtain ⟨⟨x0, x1⟩, y0, y1⟩ := HU.out _ (List.mem_of_getElem? hp)
        simp only at hc0 hc1 x0 x1 y0 y1
        rw [show off + 2 * k = off + k * 2 by omega] at hc0
        rw [show off + (2 * k + 1) = off + k * 2 + 1 by omega] at hc1
        have HS := Lib.hid (flatN_snoc ps k _ hp)
        have hk0 : (0 : Int) ≤ (k : Int) := by omega
        have HRD := Lib.hid (show Rd (Value.int .u64) (wr.alloc (.cells #[.int .u64 x, .int .u64 y] 27)).drew (some ⟨wr.heap.size, 0, none⟩) 2 2 [x, y] from (Rd.two (Value.int .u64) 27 wr x y).mono (below_drew _))
        have HBA := Lib.hid ((below_alloc wr (.cells #[.int .u64 x, .int .u64 y] 27)).drew)
        have HOA := Lib.hid (HRK.out.2.mono HBA.out)
        have hf1 : (16 * k + 16) * 1 ≤ 140737488355328 := by omega
        have hf2 : 16 * k + 16 ≤ 140737488355328 := by omega
        have hz0 := Nat.le_trans HB.out.size HBA.out.size
        clear h1 h2 h3 h4 h5 hcs hp hlt
        go_upto_region 7 with fail
        go_region_law (first
          | (refine step_appAt rfl rfl Try.oneB rfl rfl HOB.out HRB.out.2 (fun _ => rfl) hf1 hf2 hz1 ?_; intro a5 c5 w5 ho5 hu5 _)
          | (go_simp; go_at_call 28; go_must (with_reducible refine (nums2_any _ _ x y _ HRD.out HXY.out.1 HXY.out.2).mono ?_); rintro e w2 ⟨a2, c2, rfl, hr2, hb2⟩; have HRB := Lib.hid hr2; have HOB := Lib.hid (HOA.out.mono hb2); have hz1 := Nat.le_trans hz0 hb2.size; have HB2 := Lib.hid (HB.out.trans ((HBA.out.trans (hb2.mono HBA.out.size)).mono HB.out.size)); clear hr2 hb2))
        all_goals
          have hB5 := HB2.out.trans (hu5.below hz1 (fun j hj => by obtain ⟨z, hz, rfl⟩ := mem_blk.1 hj; exact (HOB.out.lt z hz).1))
          have he3 : numsL (flatN (ps.take k)) ++ numsL [x, y] = numsL (flatN (ps.take (k + 1))) := by rw [HS.out, numsL_append]
          rw [he3] at ho5
          have HO5 := Lib.hid (show OwnB 5 w5 w.heap.size a5 (16 * k + 16) c5 (numsL (flatN (ps.take (k + 1)))) from ⟨numsL_isB _, ho5⟩)
          clear ho5 hu5 he3
          go_wp2_with fail
          go_roundw
          case rel => exact ⟨k + 1, a5, c5, by omega, by congr 1, rfl, HO5.out, hB5⟩
          case measure => simp [intOf]; omega
      · obtain rfl : k = ps.length := by omega
        have hge : ¬ ((ps.length : Int) < (ps.length : Int)) := by omega
        have h1 := HRK.out
        rw [List.take_length] at h1
        have H1 := Lib.hid h1.rd
        clear h1 hlt
        go_wp2_with fail
        refine (refput_obj a' (16 * ps.length) c' _ _ wr H1.out (by omega)).mono ?_
        rintro e w' ⟨a1, c1, rfl, ho1, hb1⟩
        go_wp2_with fail
        go_ret
        exact ⟨a1, c1, rfl, ⟨ho1.1, ho1.2.base HB.out.size⟩, HB.out.trans (hb1.mono HB.out.size)⟩
end Go.Proofs.Ytpkmdnfkeebgbaa

/- What the document's own PutArray, PutEntry compute. Conditions stand as premises. -/
namespace Go.Proofs.Ytpkmdnfkeebgbaa
open Go.ChangeShapes Go.WideShapes Go.ChangeAt Go.RowKit
set_option linter.unusedVariables false
set_option linter.unusedSimpArgs false

theorem numsN_any (a : Option Addr) (n c : Nat) (vs : List Int) (w : World) (hr : Rd (Value.int .u64) w a n c vs) (hv : ∀ v ∈ vs, U64 v) (hn : n ≤ 1000) :
    Calls Try.prog 28 #[.slice a n c] w fun e w' => ∃ a1 c1, e = .returned (.slice a1 (8 * n) c1) ∧ OwnB 5 w' w.heap.size a1 (8 * n) c1 (numsL vs) ∧ Below w.heap.size w w' := by
  obtain rfl : vs.length = n := hr.1
  refine (nums_any a vs.length c vs w hr hv hn).mono ?_
  rintro e w' ⟨a1, c1, rfl, ho, hb⟩
  rw [numsL_length] at ho ⊢
  exact ⟨a1, c1, rfl, ho, hb⟩

set_option maxRecDepth 100000 in
set_option maxHeartbeats 2000000 in
theorem refputarray_any (next : Int) (a : Option Addr) (n c : Nat) (vs : List Int) (w : World) (hr : Rd (Value.int .u64) w a n c vs) (hx : U64 next) (hv : ∀ v ∈ vs, U64 v) (hn : n ≤ 1000) :
    Calls Try.prog 68 #[.agg #[.int .u64 next, .slice a n c]] w (NewB w.heap.size w (putArrL next vs)) := by
  obtain rfl : vs.length = n := hr.1
  have HX := Lib.hid hx
  obtain ⟨x0, x1⟩ := hx
  have HR := Lib.hid hr
  have HV := Lib.hid hv
  have HPL := Lib.hid (show putArrL next vs = putO 6 (numsL [next] ++ numsL vs) by unfold putArrL; rw [show numsL (next :: vs) = numsL [next] ++ numsL vs from by rw [← numsL_append]; rfl])
  generalize putArrL next vs = PL at *
  clear hr hv
  go_enter Try.func68, Try.ntmps68
  go_upto_region 1 with fail
  have hB1 := below_alloc w (.cells #[.int .u64 next, .slice a vs.length c] 137)
  have hq0 : (w.alloc (.cells #[.int .u64 next, .slice a vs.length c] 137)).cell? ⟨w.heap.size, 0, none⟩ = some (.int .u64 next) := cell_of_heap (heap_alloc_new w _) 0 _ rfl
  have hq1 : (w.alloc (.cells #[.int .u64 next, .slice a vs.length c] 137)).cell? ⟨w.heap.size, 1, none⟩ = some (.slice a vs.length c) := cell_of_heap (heap_alloc_new w _) 1 _ rfl
  have hlt := lt_of_heap (heap_alloc_new w (.cells #[.int .u64 next, .slice a vs.length c] 137))
  generalize w.alloc (.cells #[.int .u64 next, .slice a vs.length c] 137) = w1 at hB1 hq0 hq1 hlt ⊢
  have hB2 := (below_alloc w1 (.cells #[.int .u64 next] 27)).drew
  have HB2 := Lib.hid (hB1.trans (hB2.mono hB1.size))
  have hq1b := bcell hB2 hlt hq1
  have HRN := Lib.hid ((Rd.one (Value.int .u64) 27 w1 next).mono (below_drew _))
  have HB2' := Lib.hid hB2
  have hfit : 8 + 8 * vs.length ≤ 140737488350000 := by omega
  have hf1 : (8 + 8 * vs.length) * 1 ≤ 140737488355328 := by omega
  have hf2 : 8 + 8 * vs.length ≤ 140737488355328 := by omega
  have HPT := Lib.hid (fun (a5 : Option Addr) (c5 : Nat) (w5 : World) (h : RdB w5 a5 (8 + 8 * vs.length) c5 (numsL [next] ++ numsL vs)) => show Calls Try.prog 58 #[.int .i64 6, .slice a5 (8 + 8 * vs.length) c5] w5 (NewB w5.heap.size w5 PL) from HPL.out ▸ refput_obj a5 (8 + 8 * vs.length) c5 6 _ w5 h hfit)
  have hw1 := hB1.size
  clear hB1 hB2
  go_region_law (first
    | (refine step_appAt rfl rfl Try.oneB rfl rfl HO3.out.2 HR3.out.2 (fun _ => rfl) hf1 hf2 hz3 ?_; intro a5 c5 w5 ho5 hu5 _; have HB5 := Lib.hid (HB3.out.trans (hu5.below HB3.out.size (fun j hj => by obtain ⟨z, hz, rfl⟩ := mem_blk.1 hj; have := (HO3.out.2.lt z hz).1; omega))); have HR5 := Lib.hid (RdB.mk2 ((numsL_isB [next]).append (numsL_isB vs)) ho5.rd); clear ho5 hu5)
    | (go_simp; go_at_call 28; (with_reducible refine (nums1_any _ 1 next _ HRN.out HX.out).mono ?_); rintro e w2 ⟨a2, c2, rfl, ho2, hb2⟩; have HB2b := Lib.hid (HB2.out.trans (hb2.mono HB2.out.size)); have hq1c := bcell hb2 (Nat.lt_of_lt_of_le hlt HB2'.out.size) hq1b; have HRV := Lib.hid (HR.out.mono HB2b.out); have HO2 := Lib.hid (show OwnB 5 w2 w1.heap.size a2 8 c2 (numsL [next]) from ⟨ho2.1, ho2.2.base HB2'.out.size⟩); have hz2 := Nat.le_trans HB2'.out.size hb2.size; clear ho2 hb2)
    | (go_simp; go_at_call 28; (with_reducible refine (numsN_any a vs.length c vs w2 HRV.out HV.out hn).mono ?_); rintro e w3 ⟨a3, c3, rfl, ho3, hb3⟩; have HB3 := Lib.hid (HB2b.out.trans (hb3.mono HB2b.out.size)); have HO3 := Lib.hid (show OwnB 5 w3 w1.heap.size a2 8 c2 (numsL [next]) from ⟨HO2.out.1, HO2.out.2.mono hb3⟩); have HR3 := Lib.hid ho3.rd; have hz3 := Nat.le_trans hz2 hb3.size; clear ho3 hb3)
    | (go_simp; go_at_call 58; go_must (with_reducible refine (HPT.out a5 c5 w5 HR5.out).mono ?_); rintro e w6 ⟨a6, c6, rfl, ho6, hb6⟩; have HO6 := Lib.hid ho6; have HB6 := Lib.hid (HB5.out.trans (hb6.mono HB5.out.size)); clear ho6 hb6))
  all_goals
    go_wp2_with fail
    go_ret
    exact ⟨a6, c6, rfl, ⟨HO6.out.1, HO6.out.2.base HB5.out.size⟩, HB6.out⟩
end Go.Proofs.Ytpkmdnfkeebgbaa

/- What the document's own PutData, PutField compute. Conditions stand as premises. -/
namespace Go.Proofs.Ytpkmdnfkeebgbaa
open Go.ChangeShapes Go.WideShapes Go.ChangeAt Go.RowKit
set_option linter.unusedVariables false

/-- A box of 6 numbers and bytes. -/
structure Box6 (w : World) (B : Nat) (v0 v1 v2 v3 v4 v5 : Int) (a : Option Addr) (n c : Nat) : Prop where
  lt : B < w.heap.size
  d0 : w.cell? ⟨B, 0, none⟩ = some (.int .u64 v0)
  d1 : w.cell? ⟨B, 1, none⟩ = some (.int .u64 v1)
  d2 : w.cell? ⟨B, 2, none⟩ = some (.int .u64 v2)
  d3 : w.cell? ⟨B, 3, none⟩ = some (.int .u64 v3)
  d4 : w.cell? ⟨B, 4, none⟩ = some (.int .u64 v4)
  d5 : w.cell? ⟨B, 5, none⟩ = some (.int .u64 v5)
  d6 : w.cell? ⟨B, 6, none⟩ = some (.slice a n c)
theorem Box6.mono {w w' : World} {B : Nat} {v0 v1 v2 v3 v4 v5 : Int} {a : Option Addr} {n c : Nat} (h : Box6 w B v0 v1 v2 v3 v4 v5 a n c) {M : Nat} (hb : Below M w w') (hM : B < M) : Box6 w' B v0 v1 v2 v3 v4 v5 a n c :=
  ⟨Nat.lt_of_lt_of_le h.lt hb.size, bcell hb hM h.d0, bcell hb hM h.d1, bcell hb hM h.d2, bcell hb hM h.d3, bcell hb hM h.d4, bcell hb hM h.d5, bcell hb hM h.d6⟩
theorem Box6.new (w : World) (T : TypeId) (v0 v1 v2 v3 v4 v5 : Int) (a : Option Addr) (n c : Nat) : Box6 (w.alloc (.cells #[.int .u64 v0, .int .u64 v1, .int .u64 v2, .int .u64 v3, .int .u64 v4, .int .u64 v5, .slice a n c] T)) w.heap.size v0 v1 v2 v3 v4 v5 a n c := by
  have h := heap_alloc_new w (.cells #[.int .u64 v0, .int .u64 v1, .int .u64 v2, .int .u64 v3, .int .u64 v4, .int .u64 v5, .slice a n c] T)
  exact ⟨by simp, cell_of_heap h 0 _ rfl, cell_of_heap h 1 _ rfl, cell_of_heap h 2 _ rfl, cell_of_heap h 3 _ rfl, cell_of_heap h 4 _ rfl, cell_of_heap h 5 _ rfl, cell_of_heap h 6 _ rfl⟩

set_option maxHeartbeats 1000000 in
theorem refputdata_any (v0 v1 v2 v3 v4 v5 : Int) (a : Option Addr) (n c : Nat) (l : List Int) (w : World) (hr : RdB w a n c l) (hlen : n ≤ 140737488330000) (h0 : U8 v0) (h1 : U8 v1) (h2 : U8 v2) (h3 : U8 v3) (h4 : U8 v4) (h5 : U8 v5) :
    Calls Try.prog 62 #[.agg #[.int .u64 v0, .int .u64 v1, .int .u64 v2, .int .u64 v3, .int .u64 v4, .int .u64 v5, .slice a n c]] w (NewB w.heap.size w (putO 1 (numsL [v0, v1, v2, v3, v4, v5] ++ l))) := by
  obtain rfl : l.length = n := hr.len
  have hX := Box6.new w 131 v0 v1 v2 v3 v4 v5 a l.length c
  have hB1 := below_alloc w (.cells #[.int .u64 v0, .int .u64 v1, .int .u64 v2, .int .u64 v3, .int .u64 v4, .int .u64 v5, .slice a l.length c] 131)
  have hN1 : (numsL [v0, v1, v2, v3, v4, v5]).length = 48 := by rw [numsL_length]; rfl
  have hU : ∀ v ∈ [v0, v1, v2, v3, v4, v5], U8 v := (U8.cons h0 (U8.cons h1 (U8.cons h2 (U8.cons h3 (U8.cons h4 (U8.cons h5 U8.nil))))))
  obtain ⟨V, hV⟩ : ∃ V, [v0, v1, v2, v3, v4, v5] = V := ⟨_, rfl⟩
  have hV2 : V.length = 6 := by rw [← hV]; rfl
  have hV3 : #[.int .u64 v0, .int .u64 v1, .int .u64 v2, .int .u64 v3, .int .u64 v4, .int .u64 v5] = (V.map (Value.int .u64)).toArray := by rw [← hV]; rfl
  rw [hV] at hN1 hU ⊢
  clear hV
  obtain ⟨X, hXe⟩ : ∃ X, numsL V ++ l = X := ⟨_, rfl⟩
  have hXB : IsB X := by rw [← hXe]; exact (numsL_isB V).append hr.1
  have hXl : X.length = 48 + l.length := by rw [← hXe, List.length_append, hN1]
  have HXe := Lib.hid hXe
  rw [hXe]
  obtain ⟨R, hR⟩ : ∃ R, putO 1 X = R := ⟨_, rfl⟩
  have HR := Lib.hid hR
  rw [hR]
  clear hR hXe
  go_enter Try.func62, Try.ntmps62
  go_wp2_with fail
  obtain ⟨B, hB⟩ : ∃ B, w.heap.size = B := ⟨_, rfl⟩
  generalize w.alloc (.cells #[.int .u64 v0, .int .u64 v1, .int .u64 v2, .int .u64 v3, .int .u64 v4, .int .u64 v5, .slice a l.length c] 131) = w1 at hX hB1 ⊢
  rw [hB] at hX hB1
  simp only [hB]
  have hz1 := hX.lt
  have hBd : Below B w w1.drew := hB1.trans ((below_drew w1).mono (Nat.le_of_lt hz1))
  have hXd := hX.mono (below_drew w1) hz1
  have hBA : Below B w (w1.drew.alloc (.cells #[.int .u64 v0, .int .u64 v1, .int .u64 v2, .int .u64 v3, .int .u64 v4, .int .u64 v5] 27)) := hBd.alloc (Nat.le_of_lt hz1) _
  have hXa := hXd.mono (below_alloc w1.drew (.cells #[.int .u64 v0, .int .u64 v1, .int .u64 v2, .int .u64 v3, .int .u64 v4, .int .u64 v5] 27)) hz1
  have hrV := Lib.hid (Rd.lit (Value.int .u64) 27 w1.drew V _ 6 hV3 hV2 (by decide))
  have hsA : B ≤ (w1.drew.alloc (.cells #[.int .u64 v0, .int .u64 v1, .int .u64 v2, .int .u64 v3, .int .u64 v4, .int .u64 v5] 27)).heap.size := by have := hBA.size; omega
  have hXlt : X.length ≤ 140737488350000 := by omega
  have hr0 := Lib.hid hr
  have HBw := Lib.hid hB
  have hf1 : (48 + l.length) * 1 ≤ 140737488355328 := by omega
  have hf2 : 48 + l.length ≤ 140737488355328 := by omega
  have hN1h := Lib.hid hN1
  have hUh := Lib.hid hU
  have hV2h := Lib.hid hV2
  have hXlh := Lib.hid hXl
  clear hX hB1 hV2 hV3 hN1 hU hr hB hXl
  go_region_held3 (fun w' : World => w'.cell? ⟨B, 0, none⟩ = some (.int .u64 v0) ∧ w'.cell? ⟨B, 1, none⟩ = some (.int .u64 v1) ∧ w'.cell? ⟨B, 2, none⟩ = some (.int .u64 v2) ∧ w'.cell? ⟨B, 3, none⟩ = some (.int .u64 v3) ∧ w'.cell? ⟨B, 4, none⟩ = some (.int .u64 v4) ∧ w'.cell? ⟨B, 5, none⟩ = some (.int .u64 v5) ∧ w'.cell? ⟨B, 6, none⟩ = some (.slice a l.length c)) (first | exact ⟨hXd.d0, hXd.d1, hXd.d2, hXd.d3, hXd.d4, hXd.d5, hXd.d6⟩ | exact ⟨hXa.d0, hXa.d1, hXa.d2, hXa.d3, hXa.d4, hXa.d5, hXa.d6⟩ | exact ⟨hX3.d0, hX3.d1, hX3.d2, hX3.d3, hX3.d4, hX3.d5, hX3.d6⟩ | exact ⟨hX4.d0, hX4.d1, hX4.d2, hX4.d3, hX4.d4, hX4.d5, hX4.d6⟩ | exact ⟨hX5.d0, hX5.d1, hX5.d2, hX5.d3, hX5.d4, hX5.d5, hX5.d6⟩) ((first | (go_at_call 28; refine (nums_any _ _ _ V _ hrV.out hUh.out (by decide)).mono ?_; rintro e w3 ⟨a3, c3, rfl, ho3, hb3⟩; rw [hN1h.out] at ho3 ⊢; have hz3 := hb3.size; have hB3 := hBA.trans (hb3.mono hsA); have hX3 := hXa.mono hb3 hXa.lt; have hr3 := hr0.out.mono (HBw.out ▸ hB3)) | (refine step_appAt (s := .tmp 16) (x := .tmp 18) rfl rfl Try.oneB rfl rfl ho3.2 hr3.2 (fun _ => rfl) hf1 hf2 hz3 ?_; intro a4 c4 w4 ho4 hu4 hat4; rw [HXe.out, ← hXlh.out] at ho4; rw [← hXlh.out]; have hb4 := hu4.below hz3 (fun q hq => by obtain ⟨x, hx, rfl⟩ := mem_blk.1 hq; exact (ho3.2.lt x hx).1); have hB4 := hB3.trans (hb4.mono hsA); have hX4 := hX3.mono hb4 hXa.lt; have hz4 := hX4.lt) | (go_at_call 58; refine (refput_obj _ _ _ 1 X _ ⟨hXB, ho4.rd⟩ hXlt).mono ?_; rintro e w5 ⟨a5, c5, rfl, ho5, hb5⟩; rw [HR.out] at ho5 ⊢; have hX5 := hX4.mono hb5 hX4.lt)))
  go_wp2
  go_ret
  have hsz4 : B ≤ w4.heap.size := by have := hB4.size; rw [HBw.out] at this; exact this
  rw [HBw.out]
  exact ⟨a5, c5, rfl, ho5.base hsz4, hB4.trans (hb5.mono hsz4)⟩

/-- A box of 3 numbers and bytes. -/
structure Box3 (w : World) (B : Nat) (v0 v1 v2 : Int) (a : Option Addr) (n c : Nat) : Prop where
  lt : B < w.heap.size
  d0 : w.cell? ⟨B, 0, none⟩ = some (.int .u64 v0)
  d1 : w.cell? ⟨B, 1, none⟩ = some (.int .u64 v1)
  d2 : w.cell? ⟨B, 2, none⟩ = some (.int .u64 v2)
  d3 : w.cell? ⟨B, 3, none⟩ = some (.slice a n c)
theorem Box3.mono {w w' : World} {B : Nat} {v0 v1 v2 : Int} {a : Option Addr} {n c : Nat} (h : Box3 w B v0 v1 v2 a n c) {M : Nat} (hb : Below M w w') (hM : B < M) : Box3 w' B v0 v1 v2 a n c :=
  ⟨Nat.lt_of_lt_of_le h.lt hb.size, bcell hb hM h.d0, bcell hb hM h.d1, bcell hb hM h.d2, bcell hb hM h.d3⟩
theorem Box3.new (w : World) (T : TypeId) (v0 v1 v2 : Int) (a : Option Addr) (n c : Nat) : Box3 (w.alloc (.cells #[.int .u64 v0, .int .u64 v1, .int .u64 v2, .slice a n c] T)) w.heap.size v0 v1 v2 a n c := by
  have h := heap_alloc_new w (.cells #[.int .u64 v0, .int .u64 v1, .int .u64 v2, .slice a n c] T)
  exact ⟨by simp, cell_of_heap h 0 _ rfl, cell_of_heap h 1 _ rfl, cell_of_heap h 2 _ rfl, cell_of_heap h 3 _ rfl⟩

set_option maxHeartbeats 1000000 in
theorem refputfield_any (v0 v1 v2 : Int) (a : Option Addr) (n c : Nat) (l : List Int) (w : World) (hr : RdB w a n c l) (hlen : n ≤ 140737488330000) (h0 : U8 v0) (h1 : U8 v1) (h2 : U8 v2) :
    Calls Try.prog 72 #[.agg #[.int .u64 v0, .int .u64 v1, .int .u64 v2, .slice a n c]] w (NewB w.heap.size w (putO 2 (numsL [v0, v1, v2] ++ l))) := by
  obtain rfl : l.length = n := hr.len
  have hX := Box3.new w 143 v0 v1 v2 a l.length c
  have hB1 := below_alloc w (.cells #[.int .u64 v0, .int .u64 v1, .int .u64 v2, .slice a l.length c] 143)
  have hN1 : (numsL [v0, v1, v2]).length = 24 := by rw [numsL_length]; rfl
  have hU : ∀ v ∈ [v0, v1, v2], U8 v := (U8.cons h0 (U8.cons h1 (U8.cons h2 U8.nil)))
  obtain ⟨V, hV⟩ : ∃ V, [v0, v1, v2] = V := ⟨_, rfl⟩
  have hV2 : V.length = 3 := by rw [← hV]; rfl
  have hV3 : #[.int .u64 v0, .int .u64 v1, .int .u64 v2] = (V.map (Value.int .u64)).toArray := by rw [← hV]; rfl
  rw [hV] at hN1 hU ⊢
  clear hV
  obtain ⟨X, hXe⟩ : ∃ X, numsL V ++ l = X := ⟨_, rfl⟩
  have hXB : IsB X := by rw [← hXe]; exact (numsL_isB V).append hr.1
  have hXl : X.length = 24 + l.length := by rw [← hXe, List.length_append, hN1]
  have HXe := Lib.hid hXe
  rw [hXe]
  obtain ⟨R, hR⟩ : ∃ R, putO 2 X = R := ⟨_, rfl⟩
  have HR := Lib.hid hR
  rw [hR]
  clear hR hXe
  go_enter Try.func72, Try.ntmps72
  go_wp2_with fail
  obtain ⟨B, hB⟩ : ∃ B, w.heap.size = B := ⟨_, rfl⟩
  generalize w.alloc (.cells #[.int .u64 v0, .int .u64 v1, .int .u64 v2, .slice a l.length c] 143) = w1 at hX hB1 ⊢
  rw [hB] at hX hB1
  simp only [hB]
  have hz1 := hX.lt
  have hBd : Below B w w1.drew := hB1.trans ((below_drew w1).mono (Nat.le_of_lt hz1))
  have hXd := hX.mono (below_drew w1) hz1
  have hBA : Below B w (w1.drew.alloc (.cells #[.int .u64 v0, .int .u64 v1, .int .u64 v2] 27)) := hBd.alloc (Nat.le_of_lt hz1) _
  have hXa := hXd.mono (below_alloc w1.drew (.cells #[.int .u64 v0, .int .u64 v1, .int .u64 v2] 27)) hz1
  have hrV := Lib.hid (Rd.lit (Value.int .u64) 27 w1.drew V _ 3 hV3 hV2 (by decide))
  have hsA : B ≤ (w1.drew.alloc (.cells #[.int .u64 v0, .int .u64 v1, .int .u64 v2] 27)).heap.size := by have := hBA.size; omega
  have hXlt : X.length ≤ 140737488350000 := by omega
  have hr0 := Lib.hid hr
  have HBw := Lib.hid hB
  have hf1 : (24 + l.length) * 1 ≤ 140737488355328 := by omega
  have hf2 : 24 + l.length ≤ 140737488355328 := by omega
  have hN1h := Lib.hid hN1
  have hUh := Lib.hid hU
  have hV2h := Lib.hid hV2
  have hXlh := Lib.hid hXl
  clear hX hB1 hV2 hV3 hN1 hU hr hB hXl
  go_region_held3 (fun w' : World => w'.cell? ⟨B, 0, none⟩ = some (.int .u64 v0) ∧ w'.cell? ⟨B, 1, none⟩ = some (.int .u64 v1) ∧ w'.cell? ⟨B, 2, none⟩ = some (.int .u64 v2) ∧ w'.cell? ⟨B, 3, none⟩ = some (.slice a l.length c)) (first | exact ⟨hXd.d0, hXd.d1, hXd.d2, hXd.d3⟩ | exact ⟨hXa.d0, hXa.d1, hXa.d2, hXa.d3⟩ | exact ⟨hX3.d0, hX3.d1, hX3.d2, hX3.d3⟩ | exact ⟨hX4.d0, hX4.d1, hX4.d2, hX4.d3⟩ | exact ⟨hX5.d0, hX5.d1, hX5.d2, hX5.d3⟩) ((first | (go_at_call 28; refine (nums_any _ _ _ V _ hrV.out hUh.out (by decide)).mono ?_; rintro e w3 ⟨a3, c3, rfl, ho3, hb3⟩; rw [hN1h.out] at ho3 ⊢; have hz3 := hb3.size; have hB3 := hBA.trans (hb3.mono hsA); have hX3 := hXa.mono hb3 hXa.lt; have hr3 := hr0.out.mono (HBw.out ▸ hB3)) | (refine step_appAt (s := .tmp 10) (x := .tmp 12) rfl rfl Try.oneB rfl rfl ho3.2 hr3.2 (fun _ => rfl) hf1 hf2 hz3 ?_; intro a4 c4 w4 ho4 hu4 hat4; rw [HXe.out, ← hXlh.out] at ho4; rw [← hXlh.out]; have hb4 := hu4.below hz3 (fun q hq => by obtain ⟨x, hx, rfl⟩ := mem_blk.1 hq; exact (ho3.2.lt x hx).1); have hB4 := hB3.trans (hb4.mono hsA); have hX4 := hX3.mono hb4 hXa.lt; have hz4 := hX4.lt) | (go_at_call 58; refine (refput_obj _ _ _ 2 X _ ⟨hXB, ho4.rd⟩ hXlt).mono ?_; rintro e w5 ⟨a5, c5, rfl, ho5, hb5⟩; rw [HR.out] at ho5 ⊢; have hX5 := hX4.mono hb5 hX4.lt)))
  go_wp2
  go_ret
  have hsz4 : B ≤ w4.heap.size := by have := hB4.size; rw [HBw.out] at this; exact this
  rw [HBw.out]
  exact ⟨a5, c5, rfl, ho5.base hsz4, hB4.trans (hb5.mono hsz4)⟩

end Go.Proofs.Ytpkmdnfkeebgbaa

/- The document's hashes, loosely: some number, nothing written. Conditions stand as premises. Printed by gen_hashlo.py. -/
namespace Go.Proofs.Ytpkmdnfkeebgbaa
open Go.ChangeShapes Go.WideShapes Go.ChangeAt Go.RowKit
set_option linter.unusedVariables false
set_option linter.unusedSimpArgs false

def V32 (v : Int) : Prop := 0 ≤ v ∧ v ≤ 4294967295
theorem v32_mod (x : Int) : V32 (x % 4294967296) := ⟨by omega, by omega⟩
theorem v32_bits (op : BinOp) (x y : Int) : V32 (bits op .u32 x y) := bounds_u32 (wf_bits op .u32 x y)
theorem u64_bits (op : BinOp) (x y : Int) : U64 (bits op .u64 x y) := bounds_u64 (wf_bits op .u64 x y)
theorem u64_mod (x : Int) : U64 (x % 18446744073709551616) := ⟨by omega, by omega⟩
/-- Some number of 32 bits; nothing written. -/
def LoE32 (w : World) (e : Ending) (w' : World) : Prop := ∃ v, e = .returned (.int .u32 v) ∧ V32 v ∧ w = w'
def LoE64 (w : World) (e : Ending) (w' : World) : Prop := ∃ v, e = .returned (.int .u64 v) ∧ U64 v ∧ w = w'

theorem turn_lo (x : Int) (K : Int) (h : V32 x) (hk : 0 < K) (hk2 : K < 32) (w : World) :
    Calls Try.prog 76 #[.int .u32 x, .int .u64 K] w (LoE32 w) := by
  obtain ⟨h0, h1⟩ := h
  obtain ⟨k, rfl⟩ := Int.eq_ofNat_of_zero_le (show 0 ≤ K by omega)
  go_enter Try.func76, Try.ntmps76
  go_wp2
  go_ret
  exact ⟨_, rfl, v32_bits _ _ _, rfl⟩
theorem up_lo (x : Int) (K : Int) (h : U64 x) (hk : 0 < K) (hk2 : K < 64) (w : World) :
    Calls Try.prog 77 #[.int .u64 x, .int .u64 K] w (LoE64 w) := by
  obtain ⟨h0, h1⟩ := h
  obtain ⟨k, rfl⟩ := Int.eq_ofNat_of_zero_le (show 0 ≤ K by omega)
  go_enter Try.func77, Try.ntmps77
  go_wp2
  go_ret
  exact ⟨_, rfl, u64_bits _ _ _, rfl⟩

set_option maxHeartbeats 600000 in
theorem word_lo (a : Option Addr) (n c : Nat) (l : List Int) (P : Int) (hp : 0 ≤ P ∧ P ≤ 100000) (w : World) (hr : RdB w a n c l) (hn : n ≤ 100000) :
    Calls Try.prog 75 #[.slice a n c, .int .i64 P] w (LoE32 w) := by
  obtain ⟨hp0, hp1⟩ := hp
  obtain ⟨p, rfl⟩ := Int.eq_ofNat_of_zero_le hp0
  obtain rfl : l.length = n := hr.len
  have HR := Lib.hid hr
  clear hr
  go_enter Try.func75, Try.ntmps75
  go_wp2_with fail
  go_loopw [5, 6] (fun b d wr => ∃ (j : Nat) (v : Int), j ≤ 4 ∧ V32 v ∧ b = .int .u32 v ∧ d = .int .i64 (3 - (j : Int)) ∧ wr = w) (fun _ d _ => (match d with | .int _ x => (x + 1).toNat | _ => 0))
  case atStart => exact ⟨0, 0, by omega, ⟨by omega, by omega⟩, rfl, rfl, rfl⟩
  case round =>
    obtain ⟨j, v, hj, ⟨v0, v1⟩, rfl, rfl, rfl⟩ := hrel
    by_cases hlt : j < 4
    · obtain ⟨i, hi⟩ : ∃ i : Nat, 3 - j = i := ⟨_, rfl⟩
      have hi2 : (3 : Int) - (j : Int) = (i : Int) := by omega
      rw [hi2]
      have hi0 : (0 : Int) ≤ (i : Int) := by omega
      have hpi : (p : Int) + (i : Int) ≤ 200000 := by omega
      by_cases hin : p + i < l.length
      · have hin' : (p : Int) + (i : Int) < (l.length : Int) := by omega
        obtain ⟨b, off, rfl, hbk, hcs⟩ := HR.out.2.at (by omega)
        have hel : l[p + i]? = some (l[p + i]'hin) := List.getElem?_eq_getElem hin
        generalize l[p + i]'hin = u at hel
        have hcell := hcs (p + i) u hel
        have hub := HR.out.1 u (List.mem_of_getElem? hel)
        have hq0 : (0 : Int) ≤ (p : Int) + (i : Int) := by omega
        have hcell' : wr.cell? ⟨b, off + ((p : Int) + (i : Int)).toNat, none⟩ = some (.int .u8 u) := by rw [show ((p : Int) + (i : Int)).toNat = p + i by omega]; exact hcell
        have HI := Lib.hid hi
        clear hcs hel hi hin
        obtain ⟨hu0, hu1⟩ := hub
        go_wp2_with fail
        go_roundw
        case rel => exact ⟨j + 1, _, by omega, v32_bits _ _ _, rfl, by have := HI.out; congr 1; omega, trivial⟩
        case measure => show ((i : Int) - 1 + 1).toNat < ((i : Int) + 1).toNat; omega
      · have hin' : ¬ (p : Int) + (i : Int) < (l.length : Int) := by omega
        have HI := Lib.hid hi
        clear hi hin
        go_wp2_with fail
        go_roundw
        case rel => exact ⟨j + 1, _, by omega, v32_mod _, rfl, by have := HI.out; congr 1; omega, trivial⟩
        case measure => show ((i : Int) - 1 + 1).toNat < ((i : Int) + 1).toNat; omega
    · obtain rfl : j = 4 := by omega
      go_wp2_with fail
      go_ret
      exact ⟨v, rfl, ⟨v0, v1⟩, rfl⟩

set_option maxHeartbeats 600000 in
theorem eight_lo (a : Option Addr) (n c : Nat) (l : List Int) (P : Int) (hp : 0 ≤ P ∧ P ≤ 99990) (w : World) (hr : RdB w a n c l) (hn : n ≤ 100000) :
    Calls Try.prog 73 #[.slice a n c, .int .i64 P] w (LoE64 w) := by
  obtain ⟨hp0, hp1⟩ := hp
  have H1 := Lib.hid (word_lo a n c l P ⟨hp0, by omega⟩ w hr hn)
  have H2 := Lib.hid (word_lo a n c l (P + 4) ⟨by omega, by omega⟩ w hr hn)
  clear hr
  go_enter Try.func73, Try.ntmps73
  go_wp2_with fail
  with_reducible refine H1.out.mono ?_
  rintro e w1 ⟨v1, rfl, ⟨x0, x1⟩, rfl⟩
  go_wp2_with fail
  with_reducible refine H2.out.mono ?_
  rintro e w1 ⟨v2, rfl, ⟨y0, y1⟩, rfl⟩
  go_wp2_with fail
  go_ret
  exact ⟨_, rfl, u64_bits _ _ _, rfl⟩

def aggN (l : List Int) : Value := .agg (l.map (Value.int .u64)).toArray
theorem Try.fourI : RowInfo Try.prog 145 4 := ⟨by kernel_rfl, by kernel_rfl⟩
theorem Try.builtF (p q r s : Int) : Try.prog.built 145 [(0, .int .u64 p), (1, .int .u64 q), (2, .int .u64 r), (3, .int .u64 s)] = some #[.int .u64 p, .int .u64 q, .int .u64 r, .int .u64 s] := by kernel_rfl
/-- Four numbers. -/
def RoE (w : World) (e : Ending) (w' : World) : Prop := ∃ p q r s, e = .returned (.agg #[.int .u64 p, .int .u64 q, .int .u64 r, .int .u64 s]) ∧ U64 p ∧ U64 q ∧ U64 r ∧ U64 s ∧ Below w.heap.size w w'
set_option maxRecDepth 100000 in
set_option maxHeartbeats 4000000 in
theorem rounds_lo (p q r s : Int) (n : Nat) (hp : U64 p) (hq : U64 q) (hr : U64 r) (hs : U64 s) (hn : n ≤ 100) (w : World) :
    Calls Try.prog 74 #[.agg #[.int .u64 p, .int .u64 q, .int .u64 r, .int .u64 s], .int .i64 n] w (RoE w) := by
  go_enter Try.func74, Try.ntmps74
  go_upto_region 1 with fail
  have hR1 : ((w.alloc (.cells #[.int .u64 p, .int .u64 q, .int .u64 r, .int .u64 s] 145)).alloc (.cells #[.int .u64 0, .int .u64 0, .int .u64 0, .int .u64 0] 145)).heap[w.heap.size]? = some (.cells #[.int .u64 p, .int .u64 q, .int .u64 r, .int .u64 s] 145 (0, 0)) := row_below (below_alloc (w.alloc (.cells #[.int .u64 p, .int .u64 q, .int .u64 r, .int .u64 s] 145)) _) (by simp) (heap_alloc_new w _)
  have hZ1 : ((w.alloc (.cells #[.int .u64 p, .int .u64 q, .int .u64 r, .int .u64 s] 145)).alloc (.cells #[.int .u64 0, .int .u64 0, .int .u64 0, .int .u64 0] 145)).heap[w.heap.size + 1]? = some (.cells #[.int .u64 0, .int .u64 0, .int .u64 0, .int .u64 0] 145 (0, 0)) := by
    have := heap_alloc_new (w.alloc (.cells #[.int .u64 p, .int .u64 q, .int .u64 r, .int .u64 s] 145)) (.cells #[.int .u64 0, .int .u64 0, .int .u64 0, .int .u64 0] 145)
    simpa using this
  have HB1 := Lib.hid ((below_alloc w (.cells #[.int .u64 p, .int .u64 q, .int .u64 r, .int .u64 s] 145)).alloc (by simp) (.cells #[.int .u64 0, .int .u64 0, .int .u64 0, .int .u64 0] 145))
  generalize (w.alloc (.cells #[.int .u64 p, .int .u64 q, .int .u64 r, .int .u64 s] 145)).alloc (.cells #[.int .u64 0, .int .u64 0, .int .u64 0, .int .u64 0] 145) = w1 at hR1 hZ1 HB1 ⊢
  have HZ1 := Lib.hid hZ1
  have hC : w1.drew.heap[w.heap.size]? = some (.cells #[.int .u64 p, .int .u64 q, .int .u64 r, .int .u64 s] 145 (0, 0)) := hR1
  obtain ⟨S, hS⟩ : ∃ S, w.heap.size = S := ⟨_, rfl⟩
  have HS := Lib.hid hS
  rw [hS] at hC HZ1 ⊢
  clear hR1 hZ1 hS
  refine wp_region_held (S := fun w' => w'.heap[S]? = some (.cells #[.int .u64 p, .int .u64 q, .int .u64 r, .int .u64 s] 145 (0, 0))) (by kernel_rfl) ?_
  change wpAnyH _ _ _ _ _ _ _ _ w1.drew
  refine held_take 0 (d := some 10) (v := (.pointer (some ⟨S, 0, none⟩))) rfl rfl (by kernel_rfl) (by kernel_rfl) (by kernel_rfl) (fun _ _ _ h => h) hC (by kernel_rfl) (fun w hSw => by have x0 := cell_of_heap hSw 0 _ rfl; have x1 := cell_of_heap hSw 1 _ rfl; have x2 := cell_of_heap hSw 2 _ rfl; have x3 := cell_of_heap hSw 3 _ rfl; clear hSw; go_simp) ?_
  try simp only [Act.put, List.setIfInBounds_toArray, List.set_cons_zero, List.set_cons_succ]
  refine held_take 1 (d := some 11) (v := (.int .u64 p)) rfl rfl (by kernel_rfl) (by kernel_rfl) (by kernel_rfl) (fun _ _ _ h => h) hC (by kernel_rfl) (fun w hSw => by have x0 := cell_of_heap hSw 0 _ rfl; have x1 := cell_of_heap hSw 1 _ rfl; have x2 := cell_of_heap hSw 2 _ rfl; have x3 := cell_of_heap hSw 3 _ rfl; clear hSw; go_simp) ?_
  try simp only [Act.put, List.setIfInBounds_toArray, List.set_cons_zero, List.set_cons_succ]
  refine held_take 2 (d := some 12) (v := (.pointer (some ⟨S, 1, none⟩))) rfl rfl (by kernel_rfl) (by kernel_rfl) (by kernel_rfl) (fun _ _ _ h => h) hC (by kernel_rfl) (fun w hSw => by have x0 := cell_of_heap hSw 0 _ rfl; have x1 := cell_of_heap hSw 1 _ rfl; have x2 := cell_of_heap hSw 2 _ rfl; have x3 := cell_of_heap hSw 3 _ rfl; clear hSw; go_simp) ?_
  try simp only [Act.put, List.setIfInBounds_toArray, List.set_cons_zero, List.set_cons_succ]
  refine held_take 3 (d := some 13) (v := (.int .u64 q)) rfl rfl (by kernel_rfl) (by kernel_rfl) (by kernel_rfl) (fun _ _ _ h => h) hC (by kernel_rfl) (fun w hSw => by have x0 := cell_of_heap hSw 0 _ rfl; have x1 := cell_of_heap hSw 1 _ rfl; have x2 := cell_of_heap hSw 2 _ rfl; have x3 := cell_of_heap hSw 3 _ rfl; clear hSw; go_simp) ?_
  try simp only [Act.put, List.setIfInBounds_toArray, List.set_cons_zero, List.set_cons_succ]
  refine held_take 4 (d := some 14) (v := (.pointer (some ⟨S, 2, none⟩))) rfl rfl (by kernel_rfl) (by kernel_rfl) (by kernel_rfl) (fun _ _ _ h => h) hC (by kernel_rfl) (fun w hSw => by have x0 := cell_of_heap hSw 0 _ rfl; have x1 := cell_of_heap hSw 1 _ rfl; have x2 := cell_of_heap hSw 2 _ rfl; have x3 := cell_of_heap hSw 3 _ rfl; clear hSw; go_simp) ?_
  try simp only [Act.put, List.setIfInBounds_toArray, List.set_cons_zero, List.set_cons_succ]
  refine held_take 5 (d := some 15) (v := (.int .u64 r)) rfl rfl (by kernel_rfl) (by kernel_rfl) (by kernel_rfl) (fun _ _ _ h => h) hC (by kernel_rfl) (fun w hSw => by have x0 := cell_of_heap hSw 0 _ rfl; have x1 := cell_of_heap hSw 1 _ rfl; have x2 := cell_of_heap hSw 2 _ rfl; have x3 := cell_of_heap hSw 3 _ rfl; clear hSw; go_simp) ?_
  try simp only [Act.put, List.setIfInBounds_toArray, List.set_cons_zero, List.set_cons_succ]
  refine held_take 6 (d := some 16) (v := (.pointer (some ⟨S, 3, none⟩))) rfl rfl (by kernel_rfl) (by kernel_rfl) (by kernel_rfl) (fun _ _ _ h => h) hC (by kernel_rfl) (fun w hSw => by have x0 := cell_of_heap hSw 0 _ rfl; have x1 := cell_of_heap hSw 1 _ rfl; have x2 := cell_of_heap hSw 2 _ rfl; have x3 := cell_of_heap hSw 3 _ rfl; clear hSw; go_simp) ?_
  try simp only [Act.put, List.setIfInBounds_toArray, List.set_cons_zero, List.set_cons_succ]
  refine held_take 7 (d := some 17) (v := (.int .u64 s)) rfl rfl (by kernel_rfl) (by kernel_rfl) (by kernel_rfl) (fun _ _ _ h => h) hC (by kernel_rfl) (fun w hSw => by have x0 := cell_of_heap hSw 0 _ rfl; have x1 := cell_of_heap hSw 1 _ rfl; have x2 := cell_of_heap hSw 2 _ rfl; have x3 := cell_of_heap hSw 3 _ rfl; clear hSw; go_simp) ?_
  try simp only [Act.put, List.setIfInBounds_toArray, List.set_cons_zero, List.set_cons_succ]
  refine held_take 8 (d := some 5) (v := (.int .u64 p)) rfl rfl (by kernel_rfl) (by kernel_rfl) (by kernel_rfl) (fun _ _ _ h => h) hC (by kernel_rfl) (fun w hSw => by have x0 := cell_of_heap hSw 0 _ rfl; have x1 := cell_of_heap hSw 1 _ rfl; have x2 := cell_of_heap hSw 2 _ rfl; have x3 := cell_of_heap hSw 3 _ rfl; clear hSw; go_simp) ?_
  try simp only [Act.put, List.setIfInBounds_toArray, List.set_cons_zero, List.set_cons_succ]
  refine held_take 9 (d := some 6) (v := (.int .u64 q)) rfl rfl (by kernel_rfl) (by kernel_rfl) (by kernel_rfl) (fun _ _ _ h => h) hC (by kernel_rfl) (fun w hSw => by have x0 := cell_of_heap hSw 0 _ rfl; have x1 := cell_of_heap hSw 1 _ rfl; have x2 := cell_of_heap hSw 2 _ rfl; have x3 := cell_of_heap hSw 3 _ rfl; clear hSw; go_simp) ?_
  try simp only [Act.put, List.setIfInBounds_toArray, List.set_cons_zero, List.set_cons_succ]
  refine held_take 10 (d := some 7) (v := (.int .u64 r)) rfl rfl (by kernel_rfl) (by kernel_rfl) (by kernel_rfl) (fun _ _ _ h => h) hC (by kernel_rfl) (fun w hSw => by have x0 := cell_of_heap hSw 0 _ rfl; have x1 := cell_of_heap hSw 1 _ rfl; have x2 := cell_of_heap hSw 2 _ rfl; have x3 := cell_of_heap hSw 3 _ rfl; clear hSw; go_simp) ?_
  try simp only [Act.put, List.setIfInBounds_toArray, List.set_cons_zero, List.set_cons_succ]
  refine held_take 11 (d := some 8) (v := (.int .u64 s)) rfl rfl (by kernel_rfl) (by kernel_rfl) (by kernel_rfl) (fun _ _ _ h => h) hC (by kernel_rfl) (fun w hSw => by have x0 := cell_of_heap hSw 0 _ rfl; have x1 := cell_of_heap hSw 1 _ rfl; have x2 := cell_of_heap hSw 2 _ rfl; have x3 := cell_of_heap hSw 3 _ rfl; clear hSw; go_simp) ?_
  try simp only [Act.put, List.setIfInBounds_toArray, List.set_cons_zero, List.set_cons_succ]
  refine wpAnyH_done (by kernel_rfl) ?_ _
  clear hC
  have HZ2 := Lib.hid (show w1.drew.heap[S + 1]? = _ from HZ1.out)
  have HB2 := Lib.hid HB1.out.drew
  generalize w1.drew = w2 at HZ2 HB2 ⊢
  go_wp2_with fail
  go_loopw [5, 6, 7, 8, 9] (fun b c d e i wr => ∃ (k : Nat) (p q r s : Int), k ≤ n ∧ U64 p ∧ U64 q ∧ U64 r ∧ U64 s ∧ b = .int .u64 p ∧ c = .int .u64 q ∧ d = .int .u64 r ∧ e = .int .u64 s ∧ i = .int .i64 (k : Int) ∧ wr = w2) (fun _ _ _ _ i _ => n - (intOf i).toNat)
  case atStart => exact ⟨0, p, q, r, s, Nat.zero_le _, hp, hq, hr, hs, rfl, rfl, rfl, rfl, rfl, rfl⟩
  case round =>
    clear hp hq hr hs
    obtain ⟨k, p, q, r, s, hk, ⟨p0, p1⟩, ⟨q0, q1⟩, ⟨r0, r1⟩, ⟨s0, s1⟩, rfl, rfl, rfl, rfl, rfl, rfl⟩ := hrel
    by_cases hlt : k < n
    · have hlt' : (k : Int) < (n : Int) := by omega
      go_upto_region 5 with fail
      go_cut [5] from 23 to 25 (fun s_ wx => ∃ v, s_ = .int .u64 v ∧ U64 v ∧ wr = wx)
      case first =>
        go_wp2_with fail
        go_meet
        exact ⟨_, rfl, by first | exact u64_bits _ _ _ | exact u64_mod _ | exact ⟨by omega, by omega⟩, rfl⟩
      case' rest =>
        obtain ⟨n5, rfl, ⟨n50, n51⟩, rfl⟩ := hcut
      go_upto_region 6 with fail
      go_cut [6] from 26 to 27 (fun s_ wx => ∃ v, s_ = .int .u64 v ∧ U64 v ∧ wr = wx)
      case first =>
        go_wp2_with (go_at_call 77; refine (up_lo _ _ ⟨by assumption, by assumption⟩ (by decide) (by decide) _).mono ?_; rintro e w1 ⟨q, rfl, ⟨q0, q1⟩, rfl⟩)
        go_meet
        exact ⟨_, rfl, by first | exact u64_bits _ _ _ | exact u64_mod _ | exact ⟨by omega, by omega⟩, rfl⟩
      case' rest =>
        obtain ⟨n6, rfl, ⟨n60, n61⟩, rfl⟩ := hcut
      go_upto_region 7 with fail
      go_cut [6] from 28 to 30 (fun s_ wx => ∃ v, s_ = .int .u64 v ∧ U64 v ∧ wr = wx)
      case first =>
        go_wp2_with fail
        go_meet
        exact ⟨_, rfl, by first | exact u64_bits _ _ _ | exact u64_mod _ | exact ⟨by omega, by omega⟩, rfl⟩
      case' rest =>
        obtain ⟨n7, rfl, ⟨n70, n71⟩, rfl⟩ := hcut
      go_upto_region 8 with fail
      go_cut [5] from 31 to 32 (fun s_ wx => ∃ v, s_ = .int .u64 v ∧ U64 v ∧ wr = wx)
      case first =>
        go_wp2_with (go_at_call 77; refine (up_lo _ _ ⟨by assumption, by assumption⟩ (by decide) (by decide) _).mono ?_; rintro e w1 ⟨q, rfl, ⟨q0, q1⟩, rfl⟩)
        go_meet
        exact ⟨_, rfl, by first | exact u64_bits _ _ _ | exact u64_mod _ | exact ⟨by omega, by omega⟩, rfl⟩
      case' rest =>
        obtain ⟨n8, rfl, ⟨n80, n81⟩, rfl⟩ := hcut
      go_upto_region 9 with fail
      go_cut [7] from 33 to 35 (fun s_ wx => ∃ v, s_ = .int .u64 v ∧ U64 v ∧ wr = wx)
      case first =>
        go_wp2_with fail
        go_meet
        exact ⟨_, rfl, by first | exact u64_bits _ _ _ | exact u64_mod _ | exact ⟨by omega, by omega⟩, rfl⟩
      case' rest =>
        obtain ⟨n9, rfl, ⟨n90, n91⟩, rfl⟩ := hcut
      go_upto_region 10 with fail
      go_cut [8] from 36 to 37 (fun s_ wx => ∃ v, s_ = .int .u64 v ∧ U64 v ∧ wr = wx)
      case first =>
        go_wp2_with (go_at_call 77; refine (up_lo _ _ ⟨by assumption, by assumption⟩ (by decide) (by decide) _).mono ?_; rintro e w1 ⟨q, rfl, ⟨q0, q1⟩, rfl⟩)
        go_meet
        exact ⟨_, rfl, by first | exact u64_bits _ _ _ | exact u64_mod _ | exact ⟨by omega, by omega⟩, rfl⟩
      case' rest =>
        obtain ⟨n10, rfl, ⟨n100, n101⟩, rfl⟩ := hcut
      go_upto_region 11 with fail
      go_cut [8] from 38 to 40 (fun s_ wx => ∃ v, s_ = .int .u64 v ∧ U64 v ∧ wr = wx)
      case first =>
        go_wp2_with fail
        go_meet
        exact ⟨_, rfl, by first | exact u64_bits _ _ _ | exact u64_mod _ | exact ⟨by omega, by omega⟩, rfl⟩
      case' rest =>
        obtain ⟨n11, rfl, ⟨n110, n111⟩, rfl⟩ := hcut
      go_upto_region 12 with fail
      go_cut [5] from 41 to 43 (fun s_ wx => ∃ v, s_ = .int .u64 v ∧ U64 v ∧ wr = wx)
      case first =>
        go_wp2_with fail
        go_meet
        exact ⟨_, rfl, by first | exact u64_bits _ _ _ | exact u64_mod _ | exact ⟨by omega, by omega⟩, rfl⟩
      case' rest =>
        obtain ⟨n12, rfl, ⟨n120, n121⟩, rfl⟩ := hcut
      go_upto_region 13 with fail
      go_cut [8] from 44 to 45 (fun s_ wx => ∃ v, s_ = .int .u64 v ∧ U64 v ∧ wr = wx)
      case first =>
        go_wp2_with (go_at_call 77; refine (up_lo _ _ ⟨by assumption, by assumption⟩ (by decide) (by decide) _).mono ?_; rintro e w1 ⟨q, rfl, ⟨q0, q1⟩, rfl⟩)
        go_meet
        exact ⟨_, rfl, by first | exact u64_bits _ _ _ | exact u64_mod _ | exact ⟨by omega, by omega⟩, rfl⟩
      case' rest =>
        obtain ⟨n13, rfl, ⟨n130, n131⟩, rfl⟩ := hcut
      go_upto_region 14 with fail
      go_cut [8] from 46 to 48 (fun s_ wx => ∃ v, s_ = .int .u64 v ∧ U64 v ∧ wr = wx)
      case first =>
        go_wp2_with fail
        go_meet
        exact ⟨_, rfl, by first | exact u64_bits _ _ _ | exact u64_mod _ | exact ⟨by omega, by omega⟩, rfl⟩
      case' rest =>
        obtain ⟨n14, rfl, ⟨n140, n141⟩, rfl⟩ := hcut
      go_upto_region 15 with fail
      go_cut [7] from 49 to 51 (fun s_ wx => ∃ v, s_ = .int .u64 v ∧ U64 v ∧ wr = wx)
      case first =>
        go_wp2_with fail
        go_meet
        exact ⟨_, rfl, by first | exact u64_bits _ _ _ | exact u64_mod _ | exact ⟨by omega, by omega⟩, rfl⟩
      case' rest =>
        obtain ⟨n15, rfl, ⟨n150, n151⟩, rfl⟩ := hcut
      go_upto_region 16 with fail
      go_cut [6] from 52 to 53 (fun s_ wx => ∃ v, s_ = .int .u64 v ∧ U64 v ∧ wr = wx)
      case first =>
        go_wp2_with (go_at_call 77; refine (up_lo _ _ ⟨by assumption, by assumption⟩ (by decide) (by decide) _).mono ?_; rintro e w1 ⟨q, rfl, ⟨q0, q1⟩, rfl⟩)
        go_meet
        exact ⟨_, rfl, by first | exact u64_bits _ _ _ | exact u64_mod _ | exact ⟨by omega, by omega⟩, rfl⟩
      case' rest =>
        obtain ⟨n16, rfl, ⟨n160, n161⟩, rfl⟩ := hcut
      go_upto_region 17 with fail
      go_cut [6] from 54 to 56 (fun s_ wx => ∃ v, s_ = .int .u64 v ∧ U64 v ∧ wr = wx)
      case first =>
        go_wp2_with fail
        go_meet
        exact ⟨_, rfl, by first | exact u64_bits _ _ _ | exact u64_mod _ | exact ⟨by omega, by omega⟩, rfl⟩
      case' rest =>
        obtain ⟨n17, rfl, ⟨n170, n171⟩, rfl⟩ := hcut
      go_wp2_with (go_at_call 77; refine (up_lo _ _ ⟨by assumption, by assumption⟩ (by decide) (by decide) _).mono ?_; rintro e w1 ⟨q, rfl, ⟨q0, q1⟩, rfl⟩)
      go_roundw
      case rel => exact ⟨k + 1, _, _, _, _, by omega, ⟨by assumption, by assumption⟩, ⟨by assumption, by assumption⟩, ⟨q0, q1⟩, ⟨by assumption, by assumption⟩, rfl, rfl, rfl, rfl, by congr 1, trivial⟩
      case measure => simp [intOf]; omega
    · obtain rfl : k = n := by omega
      have hge : ¬ ((k : Int) < (k : Int)) := by omega
      have HBf := Lib.hid (Try.builtF p q r s)
      go_wp2_with (first
        | (refine wpList_buildS rfl rfl (cells := #[.int .u64 p, .int .u64 q, .int .u64 r, .int .u64 s]) (Eq.trans (by kernel_rfl) HBf.out) ?_)
        | (with_reducible refine wpList_storeS rfl rfl Try.fourI rfl rfl HZ2.out (by with_unfolding_all rfl) (by with_unfolding_all rfl) (by with_unfolding_all rfl) ?_; intro w4 hX4 hu4))
      have HB4 := Lib.hid (HB2.out.trans (hu4.below (B := w.heap.size) HB2.out.size (fun j hj => by have := HS.out; omega)))
      refine bodyPost_ret (results_S rfl Try.fourI rfl hX4.out rfl) rfl ?_
      exact ⟨p, q, r, s, rfl, ⟨p0, p1⟩, ⟨q0, q1⟩, ⟨r0, r1⟩, ⟨s0, s1⟩, HB4.out⟩

set_option maxRecDepth 100000 in
set_option maxHeartbeats 8000000 in
theorem lookup_lo (a : Option Addr) (n c : Nat) (l : List Int) (w : World) (hr : RdB w a n c l) (hn : n ≤ 50000) :
    Calls Try.prog 66 #[.slice a n c] w (LoE64 w) := by
  have HR := Lib.hid hr
  clear hr
  have hu0 : IntKind.u32.wrap (n : Int) = (n : Int) := by rw [IntKind.wrap_u32]; omega
  by_cases h0 : n = 0
  · have h0' : ((n : Int) == 0) = true := by subst h0; rfl
    have h0'' : (n == 0) = true := by subst h0; rfl
    go_enter Try.func66, Try.ntmps66
    go_wp2_with fail
    go_ret
    exact ⟨_, rfl, u64_bits _ _ _, rfl⟩
  have h0' : ((n : Int) == 0) = false := by simp; omega
  have h0'' : (n == 0) = false := by simp; omega
  go_enter Try.func66, Try.ntmps66
  obtain ⟨wr, hwr⟩ : ∃ wr, w = wr := ⟨w, rfl⟩
  subst hwr
  go_upto_region 1 with fail
  go_cut [3] from 7 to 10 (fun s_ wx => ∃ v, s_ = .int .u32 v ∧ V32 v ∧ w = wx)
  case first =>
    go_wp2_with fail
    go_meet
    exact ⟨_, rfl, by first | exact v32_bits _ _ _ | exact v32_mod _ | exact ⟨by omega, by omega⟩, rfl⟩
  case' rest =>
    obtain ⟨n1, rfl, ⟨n10, n11⟩, rfl⟩ := hcut
  go_upto_region 2 with fail
  go_cut [4, 5] from 11 to 12 (fun s0_ s1_ wx => ∃ v0 v1, s0_ = .int .u32 v0 ∧ V32 v0 ∧ s1_ = .int .u32 v1 ∧ V32 v1 ∧ w = wx)
  case first =>
    go_wp2_with fail
    go_meet
    exact ⟨_, _, rfl, by first | exact v32_bits _ _ _ | exact v32_mod _ | exact ⟨by omega, by omega⟩, rfl, by first | exact v32_bits _ _ _ | exact v32_mod _ | exact ⟨by omega, by omega⟩, rfl⟩
  case' rest =>
    obtain ⟨m2_0, m2_1, rfl, ⟨m2_00, m2_01⟩, rfl, ⟨m2_10, m2_11⟩, rfl⟩ := hcut
  go_wp2_with fail
  go_loopw [3, 4, 5, 6] (fun b c d i wr => ∃ (p : Nat) (x y z : Int), p ≤ n ∧ V32 x ∧ V32 y ∧ V32 z ∧ b = .int .u32 x ∧ c = .int .u32 y ∧ d = .int .u32 z ∧ i = .int .i64 (p : Int) ∧ wr = w) (fun _ _ _ i _ => n - (intOf i).toNat)
  case atStart => exact ⟨0, _, _, _, Nat.zero_le _, ⟨by assumption, by assumption⟩, ⟨by assumption, by assumption⟩, ⟨by assumption, by assumption⟩, rfl, rfl, rfl, rfl, rfl⟩
  case round =>
    obtain ⟨p, x, y, z, hp, ⟨x0, x1⟩, ⟨y0, y1⟩, ⟨z0, z1⟩, rfl, rfl, rfl, rfl, rfl⟩ := hrel
    by_cases hlt : 12 < n - p
    · have hlt' : decide ((12 : Int) < (n : Int) - (p : Int)) = true := by simp; omega
      go_upto_region 7 with fail
      go_cut [3, 4, 5] from 27 to 43 (fun s0_ s1_ s2_ wx => ∃ v0 v1 v2, s0_ = .int .u32 v0 ∧ V32 v0 ∧ s1_ = .int .u32 v1 ∧ V32 v1 ∧ s2_ = .int .u32 v2 ∧ V32 v2 ∧ wr = wx)
      case first =>
        go_wp2_with (go_at_call 75; refine (word_lo _ _ _ l _ ⟨by omega, by omega⟩ _ HR.out (by omega)).mono ?_; rintro e w1 ⟨q, rfl, ⟨q0, q1⟩, rfl⟩)
        go_meet
        exact ⟨_, _, _, rfl, by first | exact v32_bits _ _ _ | exact v32_mod _ | exact ⟨by omega, by omega⟩, rfl, by first | exact v32_bits _ _ _ | exact v32_mod _ | exact ⟨by omega, by omega⟩, rfl, by first | exact v32_bits _ _ _ | exact v32_mod _ | exact ⟨by omega, by omega⟩, rfl⟩
      case' rest =>
        obtain ⟨m7_0, m7_1, m7_2, rfl, ⟨m7_00, m7_01⟩, rfl, ⟨m7_10, m7_11⟩, rfl, ⟨m7_20, m7_21⟩, rfl⟩ := hcut
      go_upto_region 8 with fail
      go_cut [3] from 44 to 46 (fun s_ wx => ∃ v, s_ = .int .u32 v ∧ V32 v ∧ wr = wx)
      case first =>
        go_wp2_with fail
        go_meet
        exact ⟨_, rfl, by first | exact v32_bits _ _ _ | exact v32_mod _ | exact ⟨by omega, by omega⟩, rfl⟩
      case' rest =>
        obtain ⟨n8, rfl, ⟨n80, n81⟩, rfl⟩ := hcut
      go_upto_region 9 with fail
      go_cut [3] from 47 to 50 (fun s_ wx => ∃ v, s_ = .int .u32 v ∧ V32 v ∧ wr = wx)
      case first =>
        go_wp2_with (go_at_call 76; refine (turn_lo _ _ ⟨by assumption, by assumption⟩ (by decide) (by decide) _).mono ?_; rintro e w1 ⟨q, rfl, ⟨q0, q1⟩, rfl⟩)
        go_meet
        exact ⟨_, rfl, by first | exact v32_bits _ _ _ | exact v32_mod _ | exact ⟨by omega, by omega⟩, rfl⟩
      case' rest =>
        obtain ⟨n9, rfl, ⟨n90, n91⟩, rfl⟩ := hcut
      go_upto_region 10 with fail
      go_cut [5] from 51 to 53 (fun s_ wx => ∃ v, s_ = .int .u32 v ∧ V32 v ∧ wr = wx)
      case first =>
        go_wp2_with fail
        go_meet
        exact ⟨_, rfl, by first | exact v32_bits _ _ _ | exact v32_mod _ | exact ⟨by omega, by omega⟩, rfl⟩
      case' rest =>
        obtain ⟨n10, rfl, ⟨n100, n101⟩, rfl⟩ := hcut
      go_upto_region 11 with fail
      go_cut [4] from 54 to 56 (fun s_ wx => ∃ v, s_ = .int .u32 v ∧ V32 v ∧ wr = wx)
      case first =>
        go_wp2_with fail
        go_meet
        exact ⟨_, rfl, by first | exact v32_bits _ _ _ | exact v32_mod _ | exact ⟨by omega, by omega⟩, rfl⟩
      case' rest =>
        obtain ⟨n11, rfl, ⟨n110, n111⟩, rfl⟩ := hcut
      go_upto_region 12 with fail
      go_cut [4] from 57 to 60 (fun s_ wx => ∃ v, s_ = .int .u32 v ∧ V32 v ∧ wr = wx)
      case first =>
        go_wp2_with (go_at_call 76; refine (turn_lo _ _ ⟨by assumption, by assumption⟩ (by decide) (by decide) _).mono ?_; rintro e w1 ⟨q, rfl, ⟨q0, q1⟩, rfl⟩)
        go_meet
        exact ⟨_, rfl, by first | exact v32_bits _ _ _ | exact v32_mod _ | exact ⟨by omega, by omega⟩, rfl⟩
      case' rest =>
        obtain ⟨n12, rfl, ⟨n120, n121⟩, rfl⟩ := hcut
      go_upto_region 13 with fail
      go_cut [3] from 61 to 63 (fun s_ wx => ∃ v, s_ = .int .u32 v ∧ V32 v ∧ wr = wx)
      case first =>
        go_wp2_with fail
        go_meet
        exact ⟨_, rfl, by first | exact v32_bits _ _ _ | exact v32_mod _ | exact ⟨by omega, by omega⟩, rfl⟩
      case' rest =>
        obtain ⟨n13, rfl, ⟨n130, n131⟩, rfl⟩ := hcut
      go_upto_region 14 with fail
      go_cut [5] from 64 to 66 (fun s_ wx => ∃ v, s_ = .int .u32 v ∧ V32 v ∧ wr = wx)
      case first =>
        go_wp2_with fail
        go_meet
        exact ⟨_, rfl, by first | exact v32_bits _ _ _ | exact v32_mod _ | exact ⟨by omega, by omega⟩, rfl⟩
      case' rest =>
        obtain ⟨n14, rfl, ⟨n140, n141⟩, rfl⟩ := hcut
      go_upto_region 15 with fail
      go_cut [5] from 67 to 70 (fun s_ wx => ∃ v, s_ = .int .u32 v ∧ V32 v ∧ wr = wx)
      case first =>
        go_wp2_with (go_at_call 76; refine (turn_lo _ _ ⟨by assumption, by assumption⟩ (by decide) (by decide) _).mono ?_; rintro e w1 ⟨q, rfl, ⟨q0, q1⟩, rfl⟩)
        go_meet
        exact ⟨_, rfl, by first | exact v32_bits _ _ _ | exact v32_mod _ | exact ⟨by omega, by omega⟩, rfl⟩
      case' rest =>
        obtain ⟨n15, rfl, ⟨n150, n151⟩, rfl⟩ := hcut
      go_upto_region 16 with fail
      go_cut [4] from 71 to 73 (fun s_ wx => ∃ v, s_ = .int .u32 v ∧ V32 v ∧ wr = wx)
      case first =>
        go_wp2_with fail
        go_meet
        exact ⟨_, rfl, by first | exact v32_bits _ _ _ | exact v32_mod _ | exact ⟨by omega, by omega⟩, rfl⟩
      case' rest =>
        obtain ⟨n16, rfl, ⟨n160, n161⟩, rfl⟩ := hcut
      go_upto_region 17 with fail
      go_cut [3] from 74 to 76 (fun s_ wx => ∃ v, s_ = .int .u32 v ∧ V32 v ∧ wr = wx)
      case first =>
        go_wp2_with fail
        go_meet
        exact ⟨_, rfl, by first | exact v32_bits _ _ _ | exact v32_mod _ | exact ⟨by omega, by omega⟩, rfl⟩
      case' rest =>
        obtain ⟨n17, rfl, ⟨n170, n171⟩, rfl⟩ := hcut
      go_upto_region 18 with fail
      go_cut [3] from 77 to 80 (fun s_ wx => ∃ v, s_ = .int .u32 v ∧ V32 v ∧ wr = wx)
      case first =>
        go_wp2_with (go_at_call 76; refine (turn_lo _ _ ⟨by assumption, by assumption⟩ (by decide) (by decide) _).mono ?_; rintro e w1 ⟨q, rfl, ⟨q0, q1⟩, rfl⟩)
        go_meet
        exact ⟨_, rfl, by first | exact v32_bits _ _ _ | exact v32_mod _ | exact ⟨by omega, by omega⟩, rfl⟩
      case' rest =>
        obtain ⟨n18, rfl, ⟨n180, n181⟩, rfl⟩ := hcut
      go_upto_region 19 with fail
      go_cut [5] from 81 to 83 (fun s_ wx => ∃ v, s_ = .int .u32 v ∧ V32 v ∧ wr = wx)
      case first =>
        go_wp2_with fail
        go_meet
        exact ⟨_, rfl, by first | exact v32_bits _ _ _ | exact v32_mod _ | exact ⟨by omega, by omega⟩, rfl⟩
      case' rest =>
        obtain ⟨n19, rfl, ⟨n190, n191⟩, rfl⟩ := hcut
      go_upto_region 20 with fail
      go_cut [4] from 84 to 86 (fun s_ wx => ∃ v, s_ = .int .u32 v ∧ V32 v ∧ wr = wx)
      case first =>
        go_wp2_with fail
        go_meet
        exact ⟨_, rfl, by first | exact v32_bits _ _ _ | exact v32_mod _ | exact ⟨by omega, by omega⟩, rfl⟩
      case' rest =>
        obtain ⟨n20, rfl, ⟨n200, n201⟩, rfl⟩ := hcut
      go_upto_region 21 with fail
      go_cut [4] from 87 to 90 (fun s_ wx => ∃ v, s_ = .int .u32 v ∧ V32 v ∧ wr = wx)
      case first =>
        go_wp2_with (go_at_call 76; refine (turn_lo _ _ ⟨by assumption, by assumption⟩ (by decide) (by decide) _).mono ?_; rintro e w1 ⟨q, rfl, ⟨q0, q1⟩, rfl⟩)
        go_meet
        exact ⟨_, rfl, by first | exact v32_bits _ _ _ | exact v32_mod _ | exact ⟨by omega, by omega⟩, rfl⟩
      case' rest =>
        obtain ⟨n21, rfl, ⟨n210, n211⟩, rfl⟩ := hcut
      go_upto_region 22 with fail
      go_cut [3] from 91 to 93 (fun s_ wx => ∃ v, s_ = .int .u32 v ∧ V32 v ∧ wr = wx)
      case first =>
        go_wp2_with fail
        go_meet
        exact ⟨_, rfl, by first | exact v32_bits _ _ _ | exact v32_mod _ | exact ⟨by omega, by omega⟩, rfl⟩
      case' rest =>
        obtain ⟨n22, rfl, ⟨n220, n221⟩, rfl⟩ := hcut
      go_upto_region 23 with fail
      go_cut [5] from 94 to 96 (fun s_ wx => ∃ v, s_ = .int .u32 v ∧ V32 v ∧ wr = wx)
      case first =>
        go_wp2_with fail
        go_meet
        exact ⟨_, rfl, by first | exact v32_bits _ _ _ | exact v32_mod _ | exact ⟨by omega, by omega⟩, rfl⟩
      case' rest =>
        obtain ⟨n23, rfl, ⟨n230, n231⟩, rfl⟩ := hcut
      go_upto_region 24 with fail
      go_cut [5] from 97 to 100 (fun s_ wx => ∃ v, s_ = .int .u32 v ∧ V32 v ∧ wr = wx)
      case first =>
        go_wp2_with (go_at_call 76; refine (turn_lo _ _ ⟨by assumption, by assumption⟩ (by decide) (by decide) _).mono ?_; rintro e w1 ⟨q, rfl, ⟨q0, q1⟩, rfl⟩)
        go_meet
        exact ⟨_, rfl, by first | exact v32_bits _ _ _ | exact v32_mod _ | exact ⟨by omega, by omega⟩, rfl⟩
      case' rest =>
        obtain ⟨n24, rfl, ⟨n240, n241⟩, rfl⟩ := hcut
      go_upto_region 25 with fail
      go_cut [4] from 101 to 103 (fun s_ wx => ∃ v, s_ = .int .u32 v ∧ V32 v ∧ wr = wx)
      case first =>
        go_wp2_with fail
        go_meet
        exact ⟨_, rfl, by first | exact v32_bits _ _ _ | exact v32_mod _ | exact ⟨by omega, by omega⟩, rfl⟩
      case' rest =>
        obtain ⟨n25, rfl, ⟨n250, n251⟩, rfl⟩ := hcut
      go_wp2_with fail
      go_roundw
      case rel => exact ⟨p + 12, _, _, _, by omega, ⟨by assumption, by assumption⟩, ⟨by assumption, by assumption⟩, ⟨by assumption, by assumption⟩, rfl, rfl, rfl, by congr 1, trivial⟩
      case measure => simp [intOf]; omega
    · have hlt' : decide ((12 : Int) < (n : Int) - (p : Int)) = false := by simp; omega
      go_upto_region 27 with fail
      go_cut [3, 4, 5] from 106 to 122 (fun s0_ s1_ s2_ wx => ∃ v0 v1 v2, s0_ = .int .u32 v0 ∧ V32 v0 ∧ s1_ = .int .u32 v1 ∧ V32 v1 ∧ s2_ = .int .u32 v2 ∧ V32 v2 ∧ wr = wx)
      case first =>
        go_wp2_with (go_at_call 75; refine (word_lo _ _ _ l _ ⟨by omega, by omega⟩ _ HR.out (by omega)).mono ?_; rintro e w1 ⟨q, rfl, ⟨q0, q1⟩, rfl⟩)
        go_meet
        exact ⟨_, _, _, rfl, by first | exact v32_bits _ _ _ | exact v32_mod _ | exact ⟨by omega, by omega⟩, rfl, by first | exact v32_bits _ _ _ | exact v32_mod _ | exact ⟨by omega, by omega⟩, rfl, by first | exact v32_bits _ _ _ | exact v32_mod _ | exact ⟨by omega, by omega⟩, rfl⟩
      case' rest =>
        obtain ⟨m27_0, m27_1, m27_2, rfl, ⟨m27_00, m27_01⟩, rfl, ⟨m27_10, m27_11⟩, rfl, ⟨m27_20, m27_21⟩, rfl⟩ := hcut
      go_upto_region 28 with fail
      go_cut [5] from 123 to 125 (fun s_ wx => ∃ v, s_ = .int .u32 v ∧ V32 v ∧ wr = wx)
      case first =>
        go_wp2_with fail
        go_meet
        exact ⟨_, rfl, by first | exact v32_bits _ _ _ | exact v32_mod _ | exact ⟨by omega, by omega⟩, rfl⟩
      case' rest =>
        obtain ⟨n28, rfl, ⟨n280, n281⟩, rfl⟩ := hcut
      go_upto_region 29 with fail
      go_cut [5] from 126 to 129 (fun s_ wx => ∃ v, s_ = .int .u32 v ∧ V32 v ∧ wr = wx)
      case first =>
        go_wp2_with (go_at_call 76; refine (turn_lo _ _ ⟨by assumption, by assumption⟩ (by decide) (by decide) _).mono ?_; rintro e w1 ⟨q, rfl, ⟨q0, q1⟩, rfl⟩)
        go_meet
        exact ⟨_, rfl, by first | exact v32_bits _ _ _ | exact v32_mod _ | exact ⟨by omega, by omega⟩, rfl⟩
      case' rest =>
        obtain ⟨n29, rfl, ⟨n290, n291⟩, rfl⟩ := hcut
      go_upto_region 30 with fail
      go_cut [3] from 130 to 132 (fun s_ wx => ∃ v, s_ = .int .u32 v ∧ V32 v ∧ wr = wx)
      case first =>
        go_wp2_with fail
        go_meet
        exact ⟨_, rfl, by first | exact v32_bits _ _ _ | exact v32_mod _ | exact ⟨by omega, by omega⟩, rfl⟩
      case' rest =>
        obtain ⟨n30, rfl, ⟨n300, n301⟩, rfl⟩ := hcut
      go_upto_region 31 with fail
      go_cut [3] from 133 to 136 (fun s_ wx => ∃ v, s_ = .int .u32 v ∧ V32 v ∧ wr = wx)
      case first =>
        go_wp2_with (go_at_call 76; refine (turn_lo _ _ ⟨by assumption, by assumption⟩ (by decide) (by decide) _).mono ?_; rintro e w1 ⟨q, rfl, ⟨q0, q1⟩, rfl⟩)
        go_meet
        exact ⟨_, rfl, by first | exact v32_bits _ _ _ | exact v32_mod _ | exact ⟨by omega, by omega⟩, rfl⟩
      case' rest =>
        obtain ⟨n31, rfl, ⟨n310, n311⟩, rfl⟩ := hcut
      go_upto_region 32 with fail
      go_cut [4] from 137 to 139 (fun s_ wx => ∃ v, s_ = .int .u32 v ∧ V32 v ∧ wr = wx)
      case first =>
        go_wp2_with fail
        go_meet
        exact ⟨_, rfl, by first | exact v32_bits _ _ _ | exact v32_mod _ | exact ⟨by omega, by omega⟩, rfl⟩
      case' rest =>
        obtain ⟨n32, rfl, ⟨n320, n321⟩, rfl⟩ := hcut
      go_upto_region 33 with fail
      go_cut [4] from 140 to 143 (fun s_ wx => ∃ v, s_ = .int .u32 v ∧ V32 v ∧ wr = wx)
      case first =>
        go_wp2_with (go_at_call 76; refine (turn_lo _ _ ⟨by assumption, by assumption⟩ (by decide) (by decide) _).mono ?_; rintro e w1 ⟨q, rfl, ⟨q0, q1⟩, rfl⟩)
        go_meet
        exact ⟨_, rfl, by first | exact v32_bits _ _ _ | exact v32_mod _ | exact ⟨by omega, by omega⟩, rfl⟩
      case' rest =>
        obtain ⟨n33, rfl, ⟨n330, n331⟩, rfl⟩ := hcut
      go_upto_region 34 with fail
      go_cut [5] from 144 to 146 (fun s_ wx => ∃ v, s_ = .int .u32 v ∧ V32 v ∧ wr = wx)
      case first =>
        go_wp2_with fail
        go_meet
        exact ⟨_, rfl, by first | exact v32_bits _ _ _ | exact v32_mod _ | exact ⟨by omega, by omega⟩, rfl⟩
      case' rest =>
        obtain ⟨n34, rfl, ⟨n340, n341⟩, rfl⟩ := hcut
      go_upto_region 35 with fail
      go_cut [5] from 147 to 150 (fun s_ wx => ∃ v, s_ = .int .u32 v ∧ V32 v ∧ wr = wx)
      case first =>
        go_wp2_with (go_at_call 76; refine (turn_lo _ _ ⟨by assumption, by assumption⟩ (by decide) (by decide) _).mono ?_; rintro e w1 ⟨q, rfl, ⟨q0, q1⟩, rfl⟩)
        go_meet
        exact ⟨_, rfl, by first | exact v32_bits _ _ _ | exact v32_mod _ | exact ⟨by omega, by omega⟩, rfl⟩
      case' rest =>
        obtain ⟨n35, rfl, ⟨n350, n351⟩, rfl⟩ := hcut
      go_upto_region 36 with fail
      go_cut [3] from 151 to 153 (fun s_ wx => ∃ v, s_ = .int .u32 v ∧ V32 v ∧ wr = wx)
      case first =>
        go_wp2_with fail
        go_meet
        exact ⟨_, rfl, by first | exact v32_bits _ _ _ | exact v32_mod _ | exact ⟨by omega, by omega⟩, rfl⟩
      case' rest =>
        obtain ⟨n36, rfl, ⟨n360, n361⟩, rfl⟩ := hcut
      go_upto_region 37 with fail
      go_cut [3] from 154 to 157 (fun s_ wx => ∃ v, s_ = .int .u32 v ∧ V32 v ∧ wr = wx)
      case first =>
        go_wp2_with (go_at_call 76; refine (turn_lo _ _ ⟨by assumption, by assumption⟩ (by decide) (by decide) _).mono ?_; rintro e w1 ⟨q, rfl, ⟨q0, q1⟩, rfl⟩)
        go_meet
        exact ⟨_, rfl, by first | exact v32_bits _ _ _ | exact v32_mod _ | exact ⟨by omega, by omega⟩, rfl⟩
      case' rest =>
        obtain ⟨n37, rfl, ⟨n370, n371⟩, rfl⟩ := hcut
      go_upto_region 38 with fail
      go_cut [4] from 158 to 160 (fun s_ wx => ∃ v, s_ = .int .u32 v ∧ V32 v ∧ wr = wx)
      case first =>
        go_wp2_with fail
        go_meet
        exact ⟨_, rfl, by first | exact v32_bits _ _ _ | exact v32_mod _ | exact ⟨by omega, by omega⟩, rfl⟩
      case' rest =>
        obtain ⟨n38, rfl, ⟨n380, n381⟩, rfl⟩ := hcut
      go_upto_region 39 with fail
      go_cut [4] from 161 to 164 (fun s_ wx => ∃ v, s_ = .int .u32 v ∧ V32 v ∧ wr = wx)
      case first =>
        go_wp2_with (go_at_call 76; refine (turn_lo _ _ ⟨by assumption, by assumption⟩ (by decide) (by decide) _).mono ?_; rintro e w1 ⟨q, rfl, ⟨q0, q1⟩, rfl⟩)
        go_meet
        exact ⟨_, rfl, by first | exact v32_bits _ _ _ | exact v32_mod _ | exact ⟨by omega, by omega⟩, rfl⟩
      case' rest =>
        obtain ⟨n39, rfl, ⟨n390, n391⟩, rfl⟩ := hcut
      go_upto_region 40 with fail
      go_cut [5] from 165 to 167 (fun s_ wx => ∃ v, s_ = .int .u32 v ∧ V32 v ∧ wr = wx)
      case first =>
        go_wp2_with fail
        go_meet
        exact ⟨_, rfl, by first | exact v32_bits _ _ _ | exact v32_mod _ | exact ⟨by omega, by omega⟩, rfl⟩
      case' rest =>
        obtain ⟨n40, rfl, ⟨n400, n401⟩, rfl⟩ := hcut
      go_upto_region 41 with fail
      go_cut [5] from 168 to 171 (fun s_ wx => ∃ v, s_ = .int .u32 v ∧ V32 v ∧ wr = wx)
      case first =>
        go_wp2_with (go_at_call 76; refine (turn_lo _ _ ⟨by assumption, by assumption⟩ (by decide) (by decide) _).mono ?_; rintro e w1 ⟨q, rfl, ⟨q0, q1⟩, rfl⟩)
        go_meet
        exact ⟨_, rfl, by first | exact v32_bits _ _ _ | exact v32_mod _ | exact ⟨by omega, by omega⟩, rfl⟩
      case' rest =>
        obtain ⟨n41, rfl, ⟨n410, n411⟩, rfl⟩ := hcut
      go_wp2_with fail
      go_ret
      exact ⟨_, rfl, u64_bits _ _ _, rfl⟩
end Go.Proofs.Ytpkmdnfkeebgbaa

/- The document's Sip and Of, loosely: some number, only new memory written. Conditions stand as premises. Printed by gen_sip.py. -/
namespace Go.Proofs.Ytpkmdnfkeebgbaa
open Go.ChangeShapes Go.WideShapes Go.ChangeAt Go.RowKit
set_option linter.unusedVariables false
set_option linter.unusedSimpArgs false

/-- Some number; only new memory written. -/
def LoN64 (w : World) (e : Ending) (w' : World) : Prop := ∃ v, e = .returned (.int .u64 v) ∧ U64 v ∧ Below w.heap.size w w'
def four (p q r s : Int) : Array Value := #[.int .u64 p, .int .u64 q, .int .u64 r, .int .u64 s]
theorem four_one (p q r s : Int) : (four p q r s).all (·.oneCell') = true := by with_unfolding_all rfl
/-- Four numbers lie there. -/
def R4 (V : Nat) (w : World) : Prop := ∃ p q r s, U64 p ∧ U64 q ∧ U64 r ∧ U64 s ∧ w.heap[V]? = some (.cells (four p q r s) 145 (0, 0))

set_option maxRecDepth 100000 in
set_option maxHeartbeats 8000000 in
theorem sip_lo (B : List Int) (a : Option Addr) (n c : Nat) (l : List Int) (w : World) (hB : IsB B) (hBl : B.length = 16) (hr : RdB w a n c l) (hn : n ≤ 50000) :
    Calls Try.prog 65 #[.agg (B.map (Value.int .u8)).toArray, .slice a n c] w (LoN64 w) := by
  have HR := Lib.hid hr
  have HBl := Lib.hid hBl
  have HBB := Lib.hid hB
  clear hr hBl hB
  go_enter Try.func65, Try.ntmps65
  go_upto_region 1 with fail
  have hX1 := heap_alloc_new w (.cells (B.map (Value.int .u8)).toArray 26)
  have HB1 := Lib.hid (below_alloc w (.cells (B.map (Value.int .u8)).toArray 26)).drew
  obtain ⟨Kb, hK⟩ : ∃ Kb, w.heap.size = Kb := ⟨_, rfl⟩
  have HK := Lib.hid hK
  rw [hK] at hX1 ⊢
  clear hK
  have hC : (w.alloc (.cells (B.map (Value.int .u8)).toArray 26)).drew.heap[Kb]? = some (.cells (B.map (Value.int .u8)).toArray 26 (0, 0)) := hX1
  refine wp_region_held (S := fun w' => w'.heap[Kb]? = some (.cells (B.map (Value.int .u8)).toArray 26 (0, 0))) (by kernel_rfl) ?_
  change wpAnyH _ _ _ _ _ _ _ _ (w.alloc (.cells (B.map (Value.int .u8)).toArray 26)).drew
  clear hX1
  generalize (w.alloc (.cells (B.map (Value.int .u8)).toArray 26)).drew = w1 at hC HB1 ⊢
  have HRk := Lib.hid (RdB.mk2 HBB.out ((row_range (o := 0) hC B (fun j v h => by rw [Nat.zero_add]; simpa using h)).rd HBl.out (lt_of_heap hC) (by omega)))
  refine held_take 0 (d := some 11) (v := (.slice (some ⟨Kb, 0, none⟩) 16 16)) rfl rfl (by kernel_rfl) (by kernel_rfl) (by kernel_rfl) (fun _ _ _ h => h) hC (by kernel_rfl) (fun w hSw => by have x0 := hSw; go_simp) ?_
  try simp only [Act.put, List.setIfInBounds_toArray, List.set_cons_zero, List.set_cons_succ]
  refine held_take 2 (d := some 13) (v := (.slice (some ⟨Kb, 0, none⟩) 16 16)) rfl rfl (by kernel_rfl) (by kernel_rfl) (by kernel_rfl) (fun _ _ _ h => h) hC (by kernel_rfl) (fun w hSw => by have x0 := hSw; go_simp) ?_
  try simp only [Act.put, List.setIfInBounds_toArray, List.set_cons_zero, List.set_cons_succ]
  refine held_one 1 rfl (by kernel_rfl) (fun K hK => ?_)
  go_simp
  go_at_call 73
  refine (eight_lo _ _ _ B 0 ⟨by omega, by omega⟩ _ HRk.out (by omega)).mono ?_
  rintro e wz ⟨k0, rfl, hk0, hw⟩
  subst hw
  go_simp
  refine hK _ _ hC ?_
  clear hK K
  try simp only [Act.put, List.setIfInBounds_toArray, List.set_cons_zero, List.set_cons_succ]
  refine held_one 3 rfl (by kernel_rfl) (fun K hK => ?_)
  go_simp
  go_at_call 73
  refine (eight_lo _ _ _ B 8 ⟨by omega, by omega⟩ _ HRk.out (by omega)).mono ?_
  rintro e wz ⟨k1, rfl, hk1, hw⟩
  subst hw
  go_simp
  refine hK _ _ hC ?_
  clear hK K
  try simp only [Act.put, List.setIfInBounds_toArray, List.set_cons_zero, List.set_cons_succ]
  refine held_take 4 (d := some 5) (v := (.int .u64 k0)) rfl rfl (by kernel_rfl) (by kernel_rfl) (by kernel_rfl) (fun _ _ _ h => h) hC (by kernel_rfl) (fun w hSw => by have x0 := hSw; go_simp) ?_
  try simp only [Act.put, List.setIfInBounds_toArray, List.set_cons_zero, List.set_cons_succ]
  refine held_take 5 (d := some 6) (v := (.int .u64 k1)) rfl rfl (by kernel_rfl) (by kernel_rfl) (by kernel_rfl) (fun _ _ _ h => h) hC (by kernel_rfl) (fun w hSw => by have x0 := hSw; go_simp) ?_
  try simp only [Act.put, List.setIfInBounds_toArray, List.set_cons_zero, List.set_cons_succ]
  refine wpAnyH_done (by kernel_rfl) ?_ _
  clear hC HRk
  have HBf := Lib.hid (Try.builtF (bits .xor .u64 k0 8317987319222330741) (bits .xor .u64 k1 7237128888997146477) (bits .xor .u64 k0 7816392313619706465) (bits .xor .u64 k1 8387220255154660723))
  go_upto_region 2 with fail
  go_cut [7] from 15 to 23 (fun s_ wx => ∃ V, s_ = .pointer (some ⟨V, 0, none⟩) ∧ w1.heap.size ≤ V ∧ R4 V wx ∧ Below w1.heap.size w1 wx)
  case first =>
    go_wp2_with (first
      | (refine wpList_buildS rfl rfl (cells := four (bits .xor .u64 k0 8317987319222330741) (bits .xor .u64 k1 7237128888997146477) (bits .xor .u64 k0 7816392313619706465) (bits .xor .u64 k1 8387220255154660723)) (Eq.trans (by kernel_rfl) HBf.out) ?_)
      | (with_reducible refine wpList_storeS rfl rfl Try.fourI rfl rfl (heap_alloc_new w1 _) (by with_unfolding_all rfl) (by with_unfolding_all rfl) (four_one _ _ _ _) ?_; intro w2 hX2 hu2))
    go_meet
    exact ⟨_, rfl, Nat.le_refl _, ⟨_, _, _, _, u64_bits _ _ _, u64_bits _ _ _, u64_bits _ _ _, u64_bits _ _ _, hX2.out⟩, (below_alloc w1 _).trans (hu2.below (by simp) (fun j hj => by omega))⟩
  case' rest =>
    obtain ⟨V, rfl, hV, hR4, hBc⟩ := hcut
  have HR4 := Lib.hid hR4
  have HBc := Lib.hid hBc
  clear hR4 hBc hk0 hk1 HBf
  go_wp2_with fail
  go_loopw [8] (fun i wr => ∃ (p : Nat), p ≤ n + 8 ∧ i = .int .i64 (p : Int) ∧ R4 V wr ∧ Below w1.heap.size w1 wr) (fun i _ => n + 8 - (intOf i).toNat)
  case atStart => exact ⟨0, by omega, rfl, HR4.out, HBc.out⟩
  case round =>
    obtain ⟨p, hp, rfl, hR4, hBr⟩ := hrel
    have hp8 : IntKind.i64.wrap ((p : Int) + 8) = (p : Int) + 8 := by rw [IntKind.wrap_i64]; omega
    by_cases hlt : p + 8 ≤ n
    · have hlt' : decide ((p : Int) + 8 ≤ (n : Int)) = true := by simp; omega
      have hlt2 : (p : Int) + 8 ≤ (n : Int) := by omega
      go_upto_region 5 with fail
      go_cut [9] from 29 to 31 (fun s_ wx => ∃ m, s_ = .int .u64 m ∧ U64 m ∧ wr = wx)
      case first =>
        have hRr := HR.out.mono (HB1.out.trans (hBr.mono HB1.out.size))
        go_wp2_with (go_at_call 73; refine (eight_lo _ _ _ l _ ⟨by omega, by omega⟩ _ hRr (by omega)).mono ?_; rintro e wz ⟨m, rfl, hm, rfl⟩)
        go_meet
        exact ⟨m, rfl, hm, rfl⟩
      case' rest =>
        obtain ⟨m, rfl, ⟨m0, m1⟩, rfl⟩ := hcut
      obtain ⟨p1, q1, r1, s1, ⟨p10, p11⟩, ⟨q10, q11⟩, ⟨r10, r11⟩, ⟨s10, s11⟩, hX⟩ := hR4
      go_upto_region 6 with fail
      go_cut [] from 32 to 36 (fun wx => R4 V wx ∧ Below w1.heap.size w1 wx)
      case first =>
        have i0 := cell_of_heap hX 3 (.int .u64 s1) rfl
        have f0 := free_of_heap hX 3
        go_wp2_with fail
        go_meet
        refine ⟨⟨_, _, _, _, ⟨p10, p11⟩, ⟨q10, q11⟩, ⟨r10, r11⟩, u64_bits .xor _ _, row_set hX 3 _⟩, hBr.setCell (p := ⟨V, 3, none⟩) hV _⟩
      case' rest =>
        obtain ⟨hR4, hBr⟩ := hcut
      clear hX
      obtain ⟨p2, q2, r2, s2, hp2, hq2, hr2, hs2, hX⟩ := hR4
      go_upto_region 7 with fail
      go_cut [] from 37 to 38 (fun wx => R4 V wx ∧ Below w1.heap.size w1 wx)
      case first =>
        have HX := Lib.hid hX
        have HBr := Lib.hid hBr
        clear hX hBr
        go_wp2_with (first
          | (with_reducible refine wpList_loadS rfl rfl Try.fourI rfl HX.out (by with_unfolding_all rfl) ?_)
          | (go_at_call 74; refine (rounds_lo p2 q2 r2 s2 2 hp2 hq2 hr2 hs2 (by omega) _).mono ?_; rintro e wy ⟨p', q', r', s', rfl, hp', hq', hr', hs', hby⟩; have HY := Lib.hid (row_below hby (lt_of_heap HX.out) HX.out); have HBy := Lib.hid (HBr.out.trans (hby.mono HBr.out.size)); clear hby)
          | (with_reducible refine wpList_storeS (cells := four p' q' r' s') rfl rfl Try.fourI rfl rfl HY.out (by with_unfolding_all rfl) (by with_unfolding_all rfl) (four_one _ _ _ _) ?_; intro wv hXv huv))
        go_meet
        exact ⟨⟨_, _, _, _, hp', hq', hr', hs', hXv.out⟩, HBy.out.trans (huv.below HBy.out.size (fun j hj => by omega))⟩
      case' rest =>
        obtain ⟨hR4, hBr⟩ := hcut
      clear hX hp2 hq2 hr2 hs2
      obtain ⟨p3, q3, r3, s3, ⟨p30, p31⟩, ⟨q30, q31⟩, ⟨r30, r31⟩, ⟨s30, s31⟩, hX⟩ := hR4
      go_upto_region 8 with fail
      go_cut [] from 39 to 43 (fun wx => R4 V wx ∧ Below w1.heap.size w1 wx)
      case first =>
        have i0 := cell_of_heap hX 0 (.int .u64 p3) rfl
        have f0 := free_of_heap hX 0
        go_wp2_with fail
        go_meet
        refine ⟨⟨_, _, _, _, u64_bits .xor _ _, ⟨q30, q31⟩, ⟨r30, r31⟩, ⟨s30, s31⟩, row_set hX 0 _⟩, hBr.setCell (p := ⟨V, 0, none⟩) hV _⟩
      case' rest =>
        obtain ⟨hR4, hBr⟩ := hcut
      clear hX
      go_wp2_with fail
      go_roundw
      case rel => exact ⟨p + 8, by omega, by congr 1, hR4, hBr⟩
      case measure => simp [intOf]; omega
    · have hlt' : decide ((p : Int) + 8 ≤ (n : Int)) = false := by simp; omega
      have hlt2 : ¬ ((p : Int) + 8 ≤ (n : Int)) := by omega
      have hRr := HR.out.mono (HB1.out.trans (hBr.mono HB1.out.size))
      go_upto_region 10 with fail
      go_cut [10] from 46 to 54 (fun s_ wx => ∃ m, s_ = .int .u64 m ∧ U64 m ∧ wr = wx)
      case first =>
        have hw0 : IntKind.u64.wrap ((n : Int) % 256) = (n : Int) % 256 := by rw [IntKind.wrap_u64]; omega
        have ht : (n : Int).tmod 256 = (n : Int) % 256 := Int.tmod_eq_emod_of_nonneg (by omega)
        go_wp2_with (go_at_call 73; refine (eight_lo _ _ _ l _ ⟨by omega, by omega⟩ _ hRr (by omega)).mono ?_; rintro e wz ⟨m, rfl, ⟨m0, m1⟩, rfl⟩)
        go_meet
        exact ⟨_, rfl, u64_bits _ _ _, rfl⟩
      case' rest =>
        obtain ⟨m, rfl, ⟨m0, m1⟩, rfl⟩ := hcut
      clear hRr
      obtain ⟨p4, q4, r4, s4, ⟨p40, p41⟩, ⟨q40, q41⟩, ⟨r40, r41⟩, ⟨s40, s41⟩, hX⟩ := hR4
      go_upto_region 11 with fail
      go_cut [] from 55 to 59 (fun wx => R4 V wx ∧ Below w1.heap.size w1 wx)
      case first =>
        have i0 := cell_of_heap hX 3 (.int .u64 s4) rfl
        have f0 := free_of_heap hX 3
        go_wp2_with fail
        go_meet
        refine ⟨⟨_, _, _, _, ⟨p40, p41⟩, ⟨q40, q41⟩, ⟨r40, r41⟩, u64_bits .xor _ _, row_set hX 3 _⟩, hBr.setCell (p := ⟨V, 3, none⟩) hV _⟩
      case' rest =>
        obtain ⟨hR4, hBr⟩ := hcut
      clear hX
      obtain ⟨p5, q5, r5, s5, hp5, hq5, hr5, hs5, hX⟩ := hR4
      go_upto_region 12 with fail
      go_cut [] from 60 to 61 (fun wx => R4 V wx ∧ Below w1.heap.size w1 wx)
      case first =>
        have HX := Lib.hid hX
        have HBr := Lib.hid hBr
        clear hX hBr
        go_wp2_with (first
          | (with_reducible refine wpList_loadS rfl rfl Try.fourI rfl HX.out (by with_unfolding_all rfl) ?_)
          | (go_at_call 74; refine (rounds_lo p5 q5 r5 s5 2 hp5 hq5 hr5 hs5 (by omega) _).mono ?_; rintro e wy ⟨p', q', r', s', rfl, hp', hq', hr', hs', hby⟩; have HY := Lib.hid (row_below hby (lt_of_heap HX.out) HX.out); have HBy := Lib.hid (HBr.out.trans (hby.mono HBr.out.size)); clear hby)
          | (with_reducible refine wpList_storeS (cells := four p' q' r' s') rfl rfl Try.fourI rfl rfl HY.out (by with_unfolding_all rfl) (by with_unfolding_all rfl) (four_one _ _ _ _) ?_; intro wv hXv huv))
        go_meet
        exact ⟨⟨_, _, _, _, hp', hq', hr', hs', hXv.out⟩, HBy.out.trans (huv.below HBy.out.size (fun j hj => by omega))⟩
      case' rest =>
        obtain ⟨hR4, hBr⟩ := hcut
      clear hX hp5 hq5 hr5 hs5
      obtain ⟨p6, q6, r6, s6, ⟨p60, p61⟩, ⟨q60, q61⟩, ⟨r60, r61⟩, ⟨s60, s61⟩, hX⟩ := hR4
      go_upto_region 13 with fail
      go_cut [] from 62 to 66 (fun wx => R4 V wx ∧ Below w1.heap.size w1 wx)
      case first =>
        have i0 := cell_of_heap hX 0 (.int .u64 p6) rfl
        have f0 := free_of_heap hX 0
        go_wp2_with fail
        go_meet
        refine ⟨⟨_, _, _, _, u64_bits .xor _ _, ⟨q60, q61⟩, ⟨r60, r61⟩, ⟨s60, s61⟩, row_set hX 0 _⟩, hBr.setCell (p := ⟨V, 0, none⟩) hV _⟩
      case' rest =>
        obtain ⟨hR4, hBr⟩ := hcut
      clear hX
      obtain ⟨p7, q7, r7, s7, ⟨p70, p71⟩, ⟨q70, q71⟩, ⟨r70, r71⟩, ⟨s70, s71⟩, hX⟩ := hR4
      go_upto_region 14 with fail
      go_cut [] from 67 to 70 (fun wx => R4 V wx ∧ Below w1.heap.size w1 wx)
      case first =>
        have i0 := cell_of_heap hX 2 (.int .u64 r7) rfl
        have f0 := free_of_heap hX 2
        go_wp2_with fail
        go_meet
        refine ⟨⟨_, _, _, _, ⟨p70, p71⟩, ⟨q70, q71⟩, u64_bits .xor _ _, ⟨s70, s71⟩, row_set hX 2 _⟩, hBr.setCell (p := ⟨V, 2, none⟩) hV _⟩
      case' rest =>
        obtain ⟨hR4, hBr⟩ := hcut
      clear hX
      obtain ⟨p8, q8, r8, s8, hp8, hq8, hr8, hs8, hX⟩ := hR4
      go_upto_region 15 with fail
      go_cut [] from 71 to 72 (fun wx => R4 V wx ∧ Below w1.heap.size w1 wx)
      case first =>
        have HX := Lib.hid hX
        have HBr := Lib.hid hBr
        clear hX hBr
        go_wp2_with (first
          | (with_reducible refine wpList_loadS rfl rfl Try.fourI rfl HX.out (by with_unfolding_all rfl) ?_)
          | (go_at_call 74; refine (rounds_lo p8 q8 r8 s8 4 hp8 hq8 hr8 hs8 (by omega) _).mono ?_; rintro e wy ⟨p', q', r', s', rfl, hp', hq', hr', hs', hby⟩; have HY := Lib.hid (row_below hby (lt_of_heap HX.out) HX.out); have HBy := Lib.hid (HBr.out.trans (hby.mono HBr.out.size)); clear hby)
          | (with_reducible refine wpList_storeS (cells := four p' q' r' s') rfl rfl Try.fourI rfl rfl HY.out (by with_unfolding_all rfl) (by with_unfolding_all rfl) (four_one _ _ _ _) ?_; intro wv hXv huv))
        go_meet
        exact ⟨⟨_, _, _, _, hp', hq', hr', hs', hXv.out⟩, HBy.out.trans (huv.below HBy.out.size (fun j hj => by omega))⟩
      case' rest =>
        obtain ⟨hR4, hBr⟩ := hcut
      clear hX hp8 hq8 hr8 hs8
      obtain ⟨pz, qz, rz, sz, ⟨pz0, pz1⟩, ⟨qz0, qz1⟩, ⟨rz0, rz1⟩, ⟨sz0, sz1⟩, hX⟩ := hR4
      have i0 := cell_of_heap hX 0 (.int .u64 pz) rfl
      have i1 := cell_of_heap hX 1 (.int .u64 qz) rfl
      have i2 := cell_of_heap hX 2 (.int .u64 rz) rfl
      have i3 := cell_of_heap hX 3 (.int .u64 sz) rfl
      have HBr := Lib.hid hBr
      clear hX hBr
      go_wp2_with fail
      go_ret
      exact ⟨_, rfl, u64_bits _ _ _, HB1.out.trans (HBr.out.mono HB1.out.size)⟩
end Go.Proofs.Ytpkmdnfkeebgbaa

/- The document's Of, loosely: some number, only new memory written. Conditions stand as premises. -/
namespace Go.Proofs.Ytpkmdnfkeebgbaa
open Go.ChangeShapes Go.WideShapes Go.ChangeAt Go.RowKit
set_option linter.unusedVariables false
set_option linter.unusedSimpArgs false

set_option maxRecDepth 100000 in
set_option maxHeartbeats 1000000 in
theorem hashof_lo (kd : Bool) (B : List Int) (a : Option Addr) (n c : Nat) (l : List Int) (w : World) (hB : IsB B) (hBl : B.length = 16) (hr : RdB w a n c l) (hn : n ≤ 50000) :
    Calls Try.prog 52 #[.bool kd, .agg (B.map (Value.int .u8)).toArray, .slice a n c] w (LoN64 w) := by
  have HR := Lib.hid hr
  have HBl := Lib.hid hBl
  have HBB := Lib.hid hB
  clear hr hBl hB
  go_enter Try.func52, Try.ntmps52
  go_upto_region 1 with fail
  have hX1 := heap_alloc_new w (.cells (B.map (Value.int .u8)).toArray 26)
  have HB1 := Lib.hid (below_alloc w (.cells (B.map (Value.int .u8)).toArray 26))
  have HR1 := Lib.hid (HR.out.mono HB1.out)
  generalize w.alloc (.cells (B.map (Value.int .u8)).toArray 26) = w1 at hX1 HB1 HR1 ⊢
  have HAt := Lib.hid (row_range (o := 0) hX1 B (fun j v h => by rw [Nat.zero_add]; simpa using h))
  clear hX1
  cases kd with
  | true =>
    go_wp2_with (first
      | (with_reducible refine wpList_loadB rfl rfl Try.idT rfl HAt.out HBl.out ?_)
      | (go_at_call 65; refine (sip_lo B _ _ _ l _ HBB.out HBl.out HR1.out hn).mono ?_; rintro e w2 ⟨v, rfl, hv, hb2⟩))
    go_ret
    exact ⟨v, rfl, hv, HB1.out.trans (hb2.mono HB1.out.size)⟩
  | false =>
    go_wp2_with (go_at_call 66; refine (lookup_lo _ _ _ l _ HR1.out hn).mono ?_; rintro e w2 ⟨v, rfl, hv, rfl⟩)
    go_ret
    exact ⟨v, rfl, hv, HB1.out⟩
end Go.Proofs.Ytpkmdnfkeebgbaa

/- What the Maker's Room and link do. Conditions stand as premises. -/
namespace Go.Proofs.Ytpkmdnfkeebgbaa
open Go.ChangeShapes Go.WideShapes Go.ChangeAt Go.RowKit
set_option linter.unusedVariables false
set_option linter.unusedSimpArgs false

def roomF (k : Nat) : Nat := if 6 < k then 256 else min (4 * 2 ^ k) 256
theorem roomF_lo (k : Nat) : 4 ≤ roomF k := by
  unfold roomF
  split
  · omega
  · have : 1 ≤ 2 ^ k := Nat.one_le_two_pow
    omega
theorem roomF_hi (k : Nat) : roomF k ≤ 256 := by unfold roomF; split <;> omega
theorem room_any (k : Nat) (hk : k ≤ 1000) (w : World) : Calls Try.prog 67 #[.int .i64 (k : Int)] w fun e w' => e = .returned (.int .i64 (roomF k : Int)) ∧ w = w' := by
  have h0 : ¬ (k : Int) < 0 := by omega
  by_cases h6 : 6 < k
  · have h6' : (6 : Int) < (k : Int) := by omega
    have hr : roomF k = 256 := if_pos h6
    rw [hr]
    go_enter Try.func67, Try.ntmps67
    go_wp2_with fail
    go_ret
    exact ⟨rfl, rfl⟩
  · match k, h6 with
    | 0, _ | 1, _ | 2, _ | 3, _ | 4, _ | 5, _ | 6, _ =>
      go_enter Try.func67, Try.ntmps67
      go_wp2_with fail
      go_ret
      exact ⟨rfl, rfl⟩
    | k + 7, h => omega
def totF : Nat → Nat
  | 0 => 0
  | r + 1 => totF r + roomF r
/-- A chain of arrays that holds so many. -/
structure ChainOK (B : Nat) (al : List Int) (n : Nat) : Prop where
  at_ : ∀ (i : Nat) (v : Int), al[i]? = some v → 0 ≤ v ∧ v + 24 + 8 * (roomF i : Int) ≤ (B : Int)
  hi : n ≤ totF al.length
  lo : totF (al.length - 1) ≤ n
theorem ChainOK.grow {B B' : Nat} {al : List Int} {n : Nat} (h : ChainOK B al n) (hB : B ≤ B') : ChainOK B' al n := ⟨fun i v hv => by have := h.at_ i v hv; omega, h.hi, h.lo⟩
theorem Try.u64Info : (Try.prog.info? 27).map (fun i => (i.zero, i.size, i.bytes)) = some (some (.int .u64 0), 1, 8) := by kernel_rfl
theorem Try.oneU : OneInfo Try.prog 67 27 8 := by
  obtain ⟨i, hi, h0, h1, h2⟩ := info_parts Try.u64Info
  exact ⟨Try.underlying67, i, _, hi, h0, h1, h2, rfl⟩
theorem Try.zeroU : (Try.prog.info? 27).map (fun i => i.zero) = some (some (.int .u64 0)) := by kernel_rfl
theorem putArr_len (n : Nat) : (putArrL 0 (List.replicate n 0)).length = 24 + 8 * n := by
  unfold putArrL putO
  rw [if_pos (by omega), objL_length, numsL_length]
  simp
  omega
theorem putArr_isB (n : Nat) : IsB (putArrL 0 (List.replicate n 0)) := by
  unfold putArrL putO
  rw [if_pos (by omega)]
  exact objL_isB (by omega) (numsL_isB _)
/-- The chain, with one more; how many are in its last one. -/
def LinkE (base M D F : Nat) (kd : Bool) (E : Nat) (x : Mk) (aa : Option Addr) (an ac : Nat) (al : List Int) (n : Nat) (w : World) (e : Ending) (w' : World) : Prop :=
  ∃ (a' : Option Addr) (c' : Nat) (al' : List Int) (used : Int) (b' : SL) (hd' : List Value) (l' : List Int),
    e = .returned (.tuple #[.slice a' al'.length c', .int .i64 used]) ∧ 0 ≤ used ∧ used ≤ 300 ∧ MI base M D F kd E { x with b := b', bl := l', hd := hd' } w' ∧
    ((a' = aa ∧ c' = ac ∧ al' = al) ∨ (Own (Value.int .u64) 27 w' w.heap.size a' al'.length c' al' ∧ ∀ k ∈ blk a', k ∉ blk b'.1)) ∧ Rd (Value.int .u64) w' a' al'.length c' al' ∧ (∀ v ∈ al', U64 v) ∧ al' ≠ [] ∧ ChainOK l'.length al' (n + 1) ∧
    x.bl.length ≤ l'.length ∧ l'.length ≤ x.bl.length + (if n = totF al.length then 24 + 8 * roomF al.length else 0) ∧ l'.length % 8 = x.bl.length % 8 ∧
    Upd (fun k => k = M ∨ k ∈ blk x.b.1) w w' ∧ (∀ k ∈ blk b'.1, k ∈ blk x.b.1 ∨ w.heap.size ≤ k)

set_option maxRecDepth 100000 in
set_option maxHeartbeats 8000000 in
theorem link_lo {base M D F : Nat} {kd : Bool} {E : Nat} {x : Mk} {w : World} (h : MI base M D F kd E x w) (aa : Option Addr) (an ac : Nat) (al : List Int) (hA : Rd (Value.int .u64) w aa an ac al) (hAu : ∀ v ∈ al, U64 v) (hAd : ∀ z, aa = some z → z.block ≠ M ∧ z.block ∉ blk x.b.1 ∧ z.block < w.heap.size)
    (n : Nat) (hCh : ChainOK x.bl.length al n) (hn : n ≤ 1000) (fr : Nat) (hfr : fr + 8 ≤ x.bl.length) (item : Int) (hit : U64 item) (hl : x.bl.length ≤ 90000) (han : an ≤ 100) (hb : base ≤ w.heap.size) :
    Calls Try.prog 56 #[.pointer (some ⟨M, 0, none⟩), .slice aa an ac, .int .i64 (n : Int), .int .u64 (fr : Int), .int .u64 item] w (LinkE base M D F kd E x aa an ac al n w) := by
  obtain rfl : al.length = an := hA.1
  have H := Lib.hid h
  have HA := Lib.hid hA
  have HAu := Lib.hid hAu
  have HAd := Lib.hid hAd
  have HCh := Lib.hid hCh
  have htot : ∀ r, r ≤ 1000 → totF r ≤ 256 * r := by
    intro r
    induction r with
    | zero => intro _; exact Nat.le_refl _
    | succ r ih => intro hr; have := ih (by omega); have := roomF_hi r; simp only [totF]; omega
  have HTot := Lib.hid htot
  clear h hA hAu hAd hCh htot
  go_enter Try.func56, Try.ntmps56
  go_wp2_with fail
  go_loopw [12, 13, 14] (fun ah_ ro_ k_ wr => ∃ k : Nat, ah_ = .int .i64 (totF (k - 1) : Int) ∧ ro_ = .int .i64 (totF k : Int) ∧ k_ = .int .i64 (k : Int) ∧ k ≤ al.length ∧ wr = w) (fun _ _ k_ _ => al.length - (intOf k_).toNat)
  case atStart => exact ⟨0, rfl, rfl, rfl, Nat.zero_le _, rfl⟩
  case round =>
    obtain ⟨k, rfl, rfl, rfl, hk, rfl⟩ := hrel
    by_cases hlt : k < al.length
    · have hlt' : (k : Int) < (al.length : Int) := by omega
      have ht1 := HTot.out k (by omega)
      have ht2 := roomF_hi k
      have hw : IntKind.i64.wrap ((totF k : Int) + (roomF k : Int)) = (totF k : Int) + (roomF k : Int) := by rw [IntKind.wrap_i64]; omega
      go_wp2_with (go_at_call 67; refine (room_any k (by omega) _).mono ?_; rintro e w1 ⟨rfl, rfl⟩)
      go_roundw
      case rel => exact ⟨k + 1, by rw [Nat.add_sub_cancel], by congr 1, by congr 1, by omega, trivial⟩
      case measure => simp [intOf]; omega
    · obtain rfl : k = al.length := by omega
      have hge : ¬ ((al.length : Int) < (al.length : Int)) := by omega
      by_cases heq : n = totF al.length
      · have hne1 : ((n : Int) == (totF al.length : Int)) = true := by simp; omega
        have hne2 : (n == totF al.length) = true := by simpa using heq
        have hrm := roomF_hi al.length
        have hrl := roomF_lo al.length
        obtain ⟨r, hr⟩ : ∃ r, al.length = r := ⟨_, rfl⟩
        have HR := Lib.hid hr
        obtain ⟨R, hR⟩ : ∃ R, roomF al.length = R := ⟨_, rfl⟩
        have HRR := Lib.hid hR
        rw [hR] at hrm hrl
        have HRoom := Lib.hid (fun w => room_any al.length (by omega) w)
        rw [hR] at HRoom
        have hpl := putArr_len R
        have hpB := putArr_isB R
        have HpB := Lib.hid hpB
        have HPA := Lib.hid (fun (aq : Option Addr) (w' : World) (hq : Rd (Value.int .u64) w' aq R R (List.replicate R 0)) => refputarray_any 0 aq R R (List.replicate R 0) w' hq ⟨by omega, by omega⟩ (fun v hv => by obtain ⟨_, rfl⟩ := List.mem_replicate.1 hv; exact ⟨by omega, by omega⟩) (by omega))
        unfold NewB at HPA
        rw [hpl] at HPA
        generalize putArrL 0 (List.replicate R 0) = PA at HPA hpl HpB
        have Hpl := Lib.hid hpl
        clear hR hr hpB hpl
        go_upto_region 9 with (first
          | (go_at_call 67; refine (HRoom.out _).mono ?_; rintro e w1 ⟨rfl, rfl⟩)
          | (refine wpList_makeOwn (enc := Value.int .u64) (0 : Int) rfl rfl Try.oneU Try.zeroU rfl (n := R) rfl rfl rfl rfl (by omega) (by omega) (Nat.le_refl _) ?_; intro w1 ho1 hb1 _ _; have HB1 := Lib.hid hb1; have HO1 := Lib.hid ho1.rd; have HM1 := Lib.hid (H.out.below hb1); clear ho1 hb1)
          | (go_at_call 68; refine (HPA.out _ _ HO1.out).mono ?_; rintro e w2 ⟨a2, c2, rfl, ho2, hb2⟩; have HB2 := Lib.hid (HB1.out.trans (hb2.mono HB1.out.size)); have HM2 := Lib.hid (HM1.out.below hb2); have HR2 := Lib.hid ho2.rd; clear ho2 hb2)
          | (go_at_call 53; refine (object_lo HM2.out _ _ _ PA HR2.out (by omega) (by omega) (Nat.le_trans hb HB2.out.size)).mono ?_; rintro e w3 ⟨rfl, b3, hd3, hm3, hu3, hn3⟩))
        have HU3 := Lib.hid (show Upd (fun k => k = M ∨ k ∈ blk x.b.1) wr w3 from (Upd.ofBelow (F := fun k => k = M ∨ k ∈ blk x.b.1) HB2.out).trans hu3 (fun _ _ h => h))
        have HN3 := Lib.hid (show ∀ k ∈ blk b3.1, k ∈ blk x.b.1 ∨ wr.heap.size ≤ k from fun k hk => by rcases hn3 k hk with g | g; exact .inl g; exact .inr (Nat.le_trans HB2.out.size g))
        have HA3 := Lib.hid (HA.out.upd HU3.out (fun z hz e => by rcases e with e | e; exact (HAd.out z hz).1 e; exact (HAd.out z hz).2.1 e))
        clear hu3 hn3 HO1 HM1 HM2 HR2 HB1
        obtain ⟨v18, hv18, hu18⟩ := hm3.cN 18 (by omega)
        have f18 := hm3.free 137
        have hM4 := hm3.setN 18 (IntKind.u64.wrap (v18 + 1)) (by omega) (by omega) (by omega) (by omega) (by omega) (by omega) (by omega) ⟨by rw [IntKind.wrap_u64]; omega, by rw [IntKind.wrap_u64]; omega⟩
        have HU4 := Lib.hid (HU3.out.trans (Upd.setCell (F := (· = M)) w3 ⟨M, 137, none⟩ (.int .u64 (IntKind.u64.wrap (v18 + 1))) rfl) (fun k _ hk => .inl hk))
        have HA4 := Lib.hid (HA3.out.upd (Upd.setCell (F := (· = M)) w3 ⟨M, 137, none⟩ (.int .u64 (IntKind.u64.wrap (v18 + 1))) rfl) (fun z hz e => (HAd.out z hz).1 e))
        simp only [Nat.reduceAdd] at hv18 hM4
        obtain ⟨v180, v181⟩ := hu18
        have HM4 := Lib.hid hM4
        clear hm3 hM4 HU3 HA3
        go_region
        have HM5 := Lib.hid (HM4.out.below (below_drew _))
        have HU5 := Lib.hid HU4.out.drew
        have HA5 := Lib.hid (HA4.out.mono (below_drew _))
        generalize (w3.setCell ⟨M, 137, none⟩ (.int .u64 (IntKind.u64.wrap (v18 + 1)))).drew = w5 at HM5 HU5 HA5 ⊢
        clear hv18 f18 HM4 HU4 HA4
        generalize x.hd.set 0 (.int .u64 0) = dummy
        have hlen5 : (x.bl ++ PA).length = x.bl.length + (24 + 8 * R) := by rw [List.length_append, Hpl.out]
        have HLen5 := Lib.hid hlen5
        have hfrB : ∃ (q : Nat), q + 8 ≤ x.bl.length + (24 + 8 * R) ∧ ((al.length = 0 ∧ q = fr) ∨ ∃ u : Int, al[al.length - 1]? = some u ∧ (q : Int) = u + 16 ∧ 0 < al.length) := by
          by_cases h0 : al.length = 0
          · exact ⟨fr, by omega, .inl ⟨h0, rfl⟩⟩
          · obtain ⟨u, hu⟩ : ∃ u, al[al.length - 1]? = some u := ⟨_, List.getElem?_eq_getElem (by omega)⟩
            obtain ⟨hu0, hu1⟩ := HCh.out.at_ _ u hu
            exact ⟨(u + 16).toNat, by omega, .inr ⟨u, hu, by omega, by omega⟩⟩
        obtain ⟨q, hq, hqq⟩ := hfrB
        have HPq := Lib.hid (put_lo HM5.out q (x.bl.length : Int) (by simp only [hlen5]; exact hq) (by simp only [hlen5]; omega) ⟨by omega, by omega⟩)
        clear hlen5 dummy
        have hpost : True := trivial
        rcases hqq with ⟨h0, hqf⟩ | ⟨u, hu, hqu, hpos⟩
        · have h0' : ((al.length : Int) == 0) = true := by rw [h0]; rfl
          have h0'' : (al.length == 0) = true := by rw [h0]; rfl
          subst hqf
          have HZ := Lib.hid h0
          clear h0
          go_upto_region 14 with (go_at_call 57; go_loud (refine HPq.out.mono ?_; rintro e w6 ⟨rfl, l6, hl6, hm6, hu6⟩))
          have HU6 := Lib.hid (HU5.out.trans (hu6.mono (G := fun k => k ∈ blk b3.1) (fun k _ h => h)) (fun k hk hkb => by rcases HN3.out k hkb with g | g; exact .inr g; omega))
          have HA6 := Lib.hid (HA5.out.upd hu6 (fun z hz e => by rcases HN3.out _ e with g | g; exact (HAd.out z hz).2.1 g; have := (HAd.out z hz).2.2; omega))
          have HM6 := Lib.hid hm6
          have hL6 : l6.length = x.bl.length + (24 + 8 * R) := by rw [hl6]; exact HLen5.out
          have HS6 := Lib.hid (show wr.heap.size ≤ w6.heap.size from HU6.out.size)
          have HB6 := Lib.hid (show ∀ k ∈ blk b3.1, k < w6.heap.size from fun k hk => by obtain ⟨z, hz, rfl⟩ := mem_blk.1 hk; exact (HM6.out.bO.lt z hz).2)
          clear hm6 hu6 HM5 HA5 HU5 HPq
          have HBa := Lib.hid (below_alloc w6 (.cells #[] 27))
          have HOa := Lib.hid (Own.lit (enc := Value.int .u64) (e := 27) (base := w6.heap.size) (w := w6) [] #[] 0 rfl rfl (Nat.le_refl _) (by unfold maxLen; omega))
          have HAa := Lib.hid (HA6.out.mono HBa.out)
          go_upto_region 15 with (first
            | (at_builtin; have hx8 := HO8; clear hx8; go_must (refine wpList_appOwn rfl rfl Try.oneU rfl rfl HO8.out HR8.out (fun _ => rfl) (by omega) (by omega) HB8.out.size ?_); intro a9 c9 w9 ho9 hb9 _ _)
            | (at_builtin; go_must (refine wpList_appOwn rfl rfl Try.oneU rfl rfl HOa.out HAa.out (fun _ => rfl) (by omega) (by omega) HBa.out.size ?_); intro a7 c7 w7 ho7 hb7 _ _; have HB7 := Lib.hid (HBa.out.trans hb7); have HO7 := Lib.hid (show Own (Value.int .u64) 27 w7 w6.heap.size a7 al.length c7 al from by rw [Nat.zero_add, List.nil_append] at ho7; exact ho7); clear ho7 hb7; have HB8 := Lib.hid (HB7.out.alloc HB7.out.size (.cells #[.int .u64 (x.bl.length : Int)] 27)); have HO8 := Lib.hid (HO7.out.alloc (.cells #[.int .u64 (x.bl.length : Int)] 27)); have HR8 := Lib.hid (Rd.one (Value.int .u64) 27 w7 (x.bl.length : Int))))
          have HB9 := Lib.hid (HB8.out.trans hb9)
          have HO9 := Lib.hid (show Own (Value.int .u64) 27 w9 w6.heap.size a9 (al.length + 1) c9 (al ++ [(x.bl.length : Int)]) from ho9)
          have HM9 := Lib.hid (HM6.out.below HB9.out)
          have HU9 := Lib.hid (HU6.out.trans (Upd.ofBelow (F := fun k => k = M ∨ k ∈ blk x.b.1) HB9.out) (fun _ _ h => h))
          clear ho9 hb9 HB7 HO7 HB8 HO8 HR8 HAa HOa HBa HM6 HU6
          have HPi := Lib.hid (put_lo HM9.out (x.bl.length + 24) item (by simp only [hL6]; omega) (by simp only [hL6]; omega) hit)
          have e9 : ((x.bl.length + 24 : Nat) : Int) = (x.bl.length : Int) + 24 := by omega
          rw [e9] at HPi
          obtain ⟨g9, rfl, hg91, hg92⟩ := HO9.out.at (by omega)
          have hc9 := HO9.out.cell al.length (x.bl.length : Int) (by rw [List.getElem?_append_right (Nat.le_refl _), Nat.sub_self]; rfl)
          have hz0 : (n : Int) - (totF al.length : Int) = 0 := by omega
          have hw1 : IntKind.i64.wrap (((al.length + 1 : Nat) : Int) - 1) = (al.length : Int) := by rw [IntKind.wrap_i64]; omega
          have hw1' : ((al.length : Int) + 1 - 1) = (al.length : Int) := by omega
          have hw5 : IntKind.u64.wrap ((x.bl.length : Int) + 24) = (x.bl.length : Int) + 24 := by rw [IntKind.wrap_u64]; omega
          have hb9' : (al.length : Int) < ((al.length + 1 : Nat) : Int) := by omega
          have hb9'' : (al.length : Int) < (al.length : Int) + 1 := by omega
          clear e9
          go_wp2_with (go_at_call 57; refine HPi.out.mono ?_; rintro e w10 ⟨rfl, l10, hl10, hm10, hu10⟩)
          refine bodyPost_ret (v := .tuple #[.slice (some ⟨g9, 0, none⟩) (al.length + 1) c9, .int .i64 1]) (by simp [results, Try.results56, go_sem]) rfl ?_
          have hlen : (al ++ [(x.bl.length : Int)]).length = al.length + 1 := by simp
          have hg : g9 ∉ blk b3.1 := fun hk => by have := HB6.out _ hk; omega
          have hO : Own (Value.int .u64) 27 w10 wr.heap.size (some ⟨g9, 0, none⟩) (al.length + 1) c9 (al ++ [(x.bl.length : Int)]) := ((HO9.out.upd hu10 (fun z hz => by cases hz; exact hg))).base HS6.out
          refine ⟨_, c9, al ++ [(x.bl.length : Int)], 1, b3, _, l10, by rw [hlen], by omega, by omega, hm10, .inr ⟨by rw [hlen]; exact hO, fun k hk => by obtain ⟨z, hz, rfl⟩ := mem_blk.1 hk; cases hz; exact hg⟩, by rw [hlen]; exact hO.rd, ?_, (fun h => by simp at h), ⟨?_, ?_, ?_⟩, by omega, ?_, by omega, HU9.out.trans (hu10.mono (G := fun k => k ∈ blk b3.1) (fun k _ h => h)) (fun k hk hkb => by rcases HN3.out k hkb with g | g; exact .inr g; omega), HN3.out⟩
          · intro v hv
            rcases List.mem_append.1 hv with hv | hv
            · exact HAu.out v hv
            · rw [List.mem_singleton.1 hv]; exact ⟨by omega, by omega⟩
          · intro i v hv
            rcases Nat.lt_or_ge i al.length with hi | hi
            · rw [List.getElem?_append_left hi] at hv
              have := HCh.out.at_ i v hv
              omega
            · rw [List.getElem?_append_right hi] at hv
              obtain ⟨rfl, rfl⟩ : i = al.length ∧ v = (x.bl.length : Int) := by
                rcases Nat.eq_or_lt_of_le hi with h' | h'
                · subst h'; rw [Nat.sub_self] at hv; cases hv; exact ⟨rfl, rfl⟩
                · obtain ⟨j, hj⟩ : ∃ j, i - al.length = j + 1 := ⟨i - al.length - 1, by omega⟩
                  rw [hj] at hv; simp at hv
              rw [HRR.out]
              omega
          · rw [hlen]; simp only [totF]; rw [HRR.out]; omega
          · rw [hlen, Nat.add_sub_cancel]; omega
          · rw [if_pos heq, HRR.out]; omega
        · have h0' : ((al.length : Int) == 0) = false := beq_eq_false_iff_ne.2 (by omega)
          have h0'' : (al.length == 0) = false := beq_eq_false_iff_ne.2 (by omega)
          obtain ⟨ab, ao, hab, habl, hcs⟩ := HA5.out.at hpos
          obtain ⟨r1, hr1⟩ : ∃ r1, al.length = r1 + 1 := ⟨al.length - 1, by omega⟩
          rw [hr1, Nat.add_sub_cancel] at hu
          have hcu := hcs r1 u hu
          subst hab
          have hi1 : ((al.length : Int) - 1) = (r1 : Int) := by omega
          have hwi : IntKind.i64.wrap ((al.length : Int) - 1) = (r1 : Int) := by rw [IntKind.wrap_i64]; omega
          have hrl2 : (r1 : Int) < (al.length : Int) := by omega
          have hu0 := (HCh.out.at_ _ u hu).1
          have hu1 := (HCh.out.at_ _ u hu).2
          have hwu : IntKind.u64.wrap (u + 16) = u + 16 := by rw [IntKind.wrap_u64]; omega
          rw [hqu] at HPq
          have HR1 := Lib.hid hr1
          clear hcs hu hr1
          go_upto_region 14 with (go_at_call 57; go_loud (refine HPq.out.mono ?_; rintro e w6 ⟨rfl, l6, hl6, hm6, hu6⟩))
          have HU6 := Lib.hid (HU5.out.trans (hu6.mono (G := fun k => k ∈ blk b3.1) (fun k _ h => h)) (fun k hk hkb => by rcases HN3.out k hkb with g | g; exact .inr g; omega))
          have HA6 := Lib.hid (HA5.out.upd hu6 (fun z hz e => by rcases HN3.out _ e with g | g; exact (HAd.out z hz).2.1 g; have := (HAd.out z hz).2.2; omega))
          have HM6 := Lib.hid hm6
          have hL6 : l6.length = x.bl.length + (24 + 8 * R) := by rw [hl6]; exact HLen5.out
          have HS6 := Lib.hid (show wr.heap.size ≤ w6.heap.size from HU6.out.size)
          have HB6 := Lib.hid (show ∀ k ∈ blk b3.1, k < w6.heap.size from fun k hk => by obtain ⟨z, hz, rfl⟩ := mem_blk.1 hk; exact (HM6.out.bO.lt z hz).2)
          clear hm6 hu6 HM5 HA5 HU5 HPq
          have HBa := Lib.hid (below_alloc w6 (.cells #[] 27))
          have HOa := Lib.hid (Own.lit (enc := Value.int .u64) (e := 27) (base := w6.heap.size) (w := w6) [] #[] 0 rfl rfl (Nat.le_refl _) (by unfold maxLen; omega))
          have HAa := Lib.hid (HA6.out.mono HBa.out)
          go_upto_region 15 with (first
            | (at_builtin; have hx8 := HO8; clear hx8; go_must (refine wpList_appOwn rfl rfl Try.oneU rfl rfl HO8.out HR8.out (fun _ => rfl) (by omega) (by omega) HB8.out.size ?_); intro a9 c9 w9 ho9 hb9 _ _)
            | (at_builtin; go_must (refine wpList_appOwn rfl rfl Try.oneU rfl rfl HOa.out HAa.out (fun _ => rfl) (by omega) (by omega) HBa.out.size ?_); intro a7 c7 w7 ho7 hb7 _ _; have HB7 := Lib.hid (HBa.out.trans hb7); have HO7 := Lib.hid (show Own (Value.int .u64) 27 w7 w6.heap.size a7 al.length c7 al from by rw [Nat.zero_add, List.nil_append] at ho7; exact ho7); clear ho7 hb7; have HB8 := Lib.hid (HB7.out.alloc HB7.out.size (.cells #[.int .u64 (x.bl.length : Int)] 27)); have HO8 := Lib.hid (HO7.out.alloc (.cells #[.int .u64 (x.bl.length : Int)] 27)); have HR8 := Lib.hid (Rd.one (Value.int .u64) 27 w7 (x.bl.length : Int))))
          have HB9 := Lib.hid (HB8.out.trans hb9)
          have HO9 := Lib.hid (show Own (Value.int .u64) 27 w9 w6.heap.size a9 (al.length + 1) c9 (al ++ [(x.bl.length : Int)]) from ho9)
          have HM9 := Lib.hid (HM6.out.below HB9.out)
          have HU9 := Lib.hid (HU6.out.trans (Upd.ofBelow (F := fun k => k = M ∨ k ∈ blk x.b.1) HB9.out) (fun _ _ h => h))
          clear ho9 hb9 HB7 HO7 HB8 HO8 HR8 HAa HOa HBa HM6 HU6
          have HPi := Lib.hid (put_lo HM9.out (x.bl.length + 24) item (by simp only [hL6]; omega) (by simp only [hL6]; omega) hit)
          have e9 : ((x.bl.length + 24 : Nat) : Int) = (x.bl.length : Int) + 24 := by omega
          rw [e9] at HPi
          obtain ⟨g9, rfl, hg91, hg92⟩ := HO9.out.at (by omega)
          have hc9 := HO9.out.cell al.length (x.bl.length : Int) (by rw [List.getElem?_append_right (Nat.le_refl _), Nat.sub_self]; rfl)
          have hz0 : (n : Int) - (totF al.length : Int) = 0 := by omega
          have hw1 : IntKind.i64.wrap (((al.length + 1 : Nat) : Int) - 1) = (al.length : Int) := by rw [IntKind.wrap_i64]; omega
          have hw1' : ((al.length : Int) + 1 - 1) = (al.length : Int) := by omega
          have hw5 : IntKind.u64.wrap ((x.bl.length : Int) + 24) = (x.bl.length : Int) + 24 := by rw [IntKind.wrap_u64]; omega
          have hb9' : (al.length : Int) < ((al.length + 1 : Nat) : Int) := by omega
          have hb9'' : (al.length : Int) < (al.length : Int) + 1 := by omega
          clear e9
          go_wp2_with (go_at_call 57; refine HPi.out.mono ?_; rintro e w10 ⟨rfl, l10, hl10, hm10, hu10⟩)
          refine bodyPost_ret (v := .tuple #[.slice (some ⟨g9, 0, none⟩) (al.length + 1) c9, .int .i64 1]) (by simp [results, Try.results56, go_sem]) rfl ?_
          have hlen : (al ++ [(x.bl.length : Int)]).length = al.length + 1 := by simp
          have hg : g9 ∉ blk b3.1 := fun hk => by have := HB6.out _ hk; omega
          have hO : Own (Value.int .u64) 27 w10 wr.heap.size (some ⟨g9, 0, none⟩) (al.length + 1) c9 (al ++ [(x.bl.length : Int)]) := ((HO9.out.upd hu10 (fun z hz => by cases hz; exact hg))).base HS6.out
          refine ⟨_, c9, al ++ [(x.bl.length : Int)], 1, b3, _, l10, by rw [hlen], by omega, by omega, hm10, .inr ⟨by rw [hlen]; exact hO, fun k hk => by obtain ⟨z, hz, rfl⟩ := mem_blk.1 hk; cases hz; exact hg⟩, by rw [hlen]; exact hO.rd, ?_, (fun h => by simp at h), ⟨?_, ?_, ?_⟩, by omega, ?_, by omega, HU9.out.trans (hu10.mono (G := fun k => k ∈ blk b3.1) (fun k _ h => h)) (fun k hk hkb => by rcases HN3.out k hkb with g | g; exact .inr g; omega), HN3.out⟩
          · intro v hv
            rcases List.mem_append.1 hv with hv | hv
            · exact HAu.out v hv
            · rw [List.mem_singleton.1 hv]; exact ⟨by omega, by omega⟩
          · intro i v hv
            rcases Nat.lt_or_ge i al.length with hi | hi
            · rw [List.getElem?_append_left hi] at hv
              have := HCh.out.at_ i v hv
              omega
            · rw [List.getElem?_append_right hi] at hv
              obtain ⟨rfl, rfl⟩ : i = al.length ∧ v = (x.bl.length : Int) := by
                rcases Nat.eq_or_lt_of_le hi with h' | h'
                · subst h'; rw [Nat.sub_self] at hv; cases hv; exact ⟨rfl, rfl⟩
                · obtain ⟨j, hj⟩ : ∃ j, i - al.length = j + 1 := ⟨i - al.length - 1, by omega⟩
                  rw [hj] at hv; simp at hv
              rw [HRR.out]
              omega
          · rw [hlen]; simp only [totF]; rw [HRR.out]; omega
          · rw [hlen, Nat.add_sub_cancel]; omega
          · rw [if_pos heq, HRR.out]; omega
      · have hne1 : ((n : Int) == (totF al.length : Int)) = false := by simp; omega
        have hne2 : (n == totF al.length) = false := by simpa using heq
        have hpos : 0 < al.length := by
          rcases Nat.eq_zero_or_pos al.length with h0 | h0
          · exfalso; have := HCh.out.hi; rw [h0] at this heq; simp only [totF] at this heq; omega
          · exact h0
        obtain ⟨ab, ao, rfl, hab, hcs⟩ := HA.out.at hpos
        obtain ⟨v, hv⟩ : ∃ v, al[al.length - 1]? = some v := ⟨_, List.getElem?_eq_getElem (by omega)⟩
        obtain ⟨hv0, hv1⟩ := HCh.out.at_ _ v hv
        obtain ⟨r, hr⟩ : ∃ r, al.length = r + 1 := ⟨al.length - 1, by omega⟩
        have hc := hcs _ v hv
        have hlo := HCh.out.lo
        have hhi := HCh.out.hi
        rw [hr, Nat.add_sub_cancel] at hlo hc hv1
        rw [hr] at hhi heq
        simp only [totF] at hhi heq
        have hrm := roomF_hi r
        have HR := Lib.hid hr
        obtain ⟨vn, rfl⟩ := Int.eq_ofNat_of_zero_le hv0
        have HP := Lib.hid (put_lo H.out (vn + 24 + 8 * (n - totF r)) item (by omega) (by omega) hit)
        have e1 : ((vn + 24 + 8 * (n - totF r) : Nat) : Int) = (vn : Int) + 24 + 8 * ((n : Int) - (totF r : Int)) := by omega
        rw [e1] at HP
        have hi1 : ((al.length : Int) - 1) = (r : Int) := by omega
        have hw1 : IntKind.i64.wrap ((al.length : Int) - 1) = (r : Int) := by rw [IntKind.wrap_i64]; omega
        have hw2 : IntKind.i64.wrap ((n : Int) - (totF r : Int)) = (n : Int) - (totF r : Int) := by rw [IntKind.wrap_i64]; omega
        have hw3 : IntKind.i64.wrap (8 * ((n : Int) - (totF r : Int))) = 8 * ((n : Int) - (totF r : Int)) := by rw [IntKind.wrap_i64]; omega
        have hw4 : IntKind.u64.wrap (8 * ((n : Int) - (totF r : Int))) = 8 * ((n : Int) - (totF r : Int)) := by rw [IntKind.wrap_u64]; omega
        have hw5 : IntKind.u64.wrap ((vn : Int) + 24) = (vn : Int) + 24 := by rw [IntKind.wrap_u64]; omega
        have hw6 : IntKind.u64.wrap ((vn : Int) + 24 + 8 * ((n : Int) - (totF r : Int))) = (vn : Int) + 24 + 8 * ((n : Int) - (totF r : Int)) := by rw [IntKind.wrap_u64]; omega
        have hw7 : IntKind.i64.wrap ((n : Int) - (totF r : Int) + 1) = (n : Int) - (totF r : Int) + 1 := by rw [IntKind.wrap_i64]; omega
        have hrl : (r : Int) < (al.length : Int) := by omega
        have hr0 : (0 : Int) ≤ (r : Int) := by omega
        have hsub : al.length - 1 = r := by omega
        have HSub := Lib.hid hsub
        rw [hsub]
        clear hcs hv e1 hr
        go_wp2_with (go_at_call 57; refine HP.out.mono ?_; rintro e w2 ⟨rfl, l2, hl2, hm2, hu2⟩)
        refine bodyPost_ret (v := .tuple #[.slice (some ⟨ab, ao, none⟩) al.length ac, .int .i64 ((n : Int) - (totF r : Int) + 1)]) (by simp [results, Try.results56, go_sem]) rfl ?_
        refine ⟨_, ac, al, _, x.b, x.hd, l2, rfl, by omega, by omega, hm2, .inl ⟨rfl, rfl, rfl⟩, HA.out.upd hu2 (fun z hz => (HAd.out z hz).2.1), HAu.out, (fun h => by rw [h] at hpos; simp at hpos), ⟨fun i v hv => by rw [hl2]; exact HCh.out.at_ i v hv, ?_, ?_⟩, by omega, by split <;> omega, by rw [hl2], hu2.mono (fun k _ hk => .inr hk), fun k hk => .inl hk⟩
        · rw [HR.out]; simp only [totF]; omega
        · rw [HR.out, Nat.add_sub_cancel]; omega
end Go.Proofs.Ytpkmdnfkeebgbaa

/- The Maker's other slices replaced; one frame for all of its steps. -/
namespace Go.Proofs.Ytpkmdnfkeebgbaa
open Go.ChangeShapes Go.WideShapes Go.ChangeAt Go.RowKit
set_option linter.unusedVariables false
set_option linter.unusedSimpArgs false
section
variable {base M D F : Nat} {kd : Bool} {E : Nat} {x : Mk} {w : World}
/-- Its datas are others, or lie elsewhere. -/
theorem MI.newD (h : MI base M D F kd E x w) {w1 : World} {a' : Option Addr} {n' c' : Nat} {l' : List Kn} (ho : OwnK encKn 5 110 w1 base a' n' c' l') (ha : ∀ k ∈ l', Rd (Value.int .u64) w k.arr.1 k.arr.2.1 k.arr.2.2 k.al ∧ (∀ v ∈ k.al, U64 v) ∧ (∀ z, k.arr.1 = some z → base ≤ z.block ∧ z.block < w.heap.size ∧ z.block ∉ mset M x)) (hu : Upd (· ∈ blk x.d.1) w w1) (hn : ∀ k ∈ blk a', k ∈ blk x.d.1 ∨ w.heap.size ≤ k) :
    MI base M D F kd E { x with d := (a', n', c'), ds := l' } (w1.setCell ⟨M, 144, none⟩ (.slice a' n' c')) := by
  have hML := lt_of_heap h.row
  have hs := hu.size
  have hu2 := Upd.setCell (F := (· = M)) w1 ⟨M, 144, none⟩ (.slice a' n' c') rfl
  have hu3 : Upd (fun k => k ∈ blk x.d.1 ∨ k = M) w (w1.setCell ⟨M, 144, none⟩ (.slice a' n' c')) := (hu.mono (G := fun k => k ∈ blk x.d.1 ∨ k = M) (fun k _ hk => .inl hk)).trans hu2 (fun k _ hk => .inr hk)
  have hr := row_set (row_upd hu h.nd h.row) 144 (.slice a' n' c')
  rw [mkL_tail h.cfg.len h.hd.len 2] at hr
  have hlt := mset_lt h
  have nMa : M ∉ blk a' := fun e => by rcases hn M e with e | e; exact h.nd e; omega
  have nb : ∀ k ∈ blk a', k ∉ blk x.b.1 := fun k hk e => by rcases hn k hk with g | g; exact h.bd k e g; have := (hlt k (mset_b e)).2; omega
  have nf : ∀ k ∈ blk a', k ∉ blk x.f.1 := fun k hk e => by rcases hn k hk with g | g; exact h.df k g e; have := (hlt k (mset_f e)).2; omega
  have nm : ∀ k ∈ blk a', k ∉ blk x.m.1 := fun k hk e => by rcases hn k hk with g | g; exact h.dm k g e; have := (hlt k (mset_m e)).2; omega
  exact { row := hr, bM := h.bM, cfg := h.cfg, hd := h.hd, dp := h.dp, bB := h.bB
          bO := h.bO.upd hu3 (fun z hz e => by rcases e with e | e; exact h.bd _ (mem_blk.2 ⟨z, hz, rfl⟩) e; exact h.nb (mem_blk.2 ⟨z, hz, e⟩))
          dO := ho.upd hu2 (fun z hz e => nMa (mem_blk.2 ⟨z, hz, e⟩))
          fO := h.fO.upd hu3 (fun z hz e => by rcases e with e | e; exact h.df _ e (mem_blk.2 ⟨z, hz, rfl⟩); exact h.nf (mem_blk.2 ⟨z, hz, e⟩))
          mO := h.mO.upd hu3 (fun z hz e => by rcases e with e | e; exact h.dm _ e (mem_blk.2 ⟨z, hz, rfl⟩); exact h.nm (mem_blk.2 ⟨z, hz, e⟩))
          mU := h.mU
          arr := fun k hk => ⟨(ha k hk).1.upd hu3 (fun z hz e => ((ha k hk).2.2 z hz).2.2 (by rcases e with e | e; exact mset_d e; rw [e]; exact mset_M)), (ha k hk).2.1, fun z hz => by
            obtain ⟨q1, q2, q3⟩ := (ha k hk).2.2 z hz
            refine ⟨q1, Nat.lt_of_lt_of_le q2 hu3.size, fun e => ?_⟩
            rcases mset_iff.1 e with e | e | e | e | e
            · exact q3 (by rw [e]; exact mset_M)
            · exact q3 (mset_b e)
            · rcases hn _ e with g | g; exact q3 (mset_d g); omega
            · exact q3 (mset_f e)
            · exact q3 (mset_m e)⟩
          nb := h.nb, nd := nMa, nf := h.nf, nm := h.nm, bd := fun k hk e => nb k e hk, bf := h.bf, bm := h.bm, df := nf, dm := nm, fm := h.fm }
/-- Its fields are others, or lie elsewhere. -/
theorem MI.newF (h : MI base M D F kd E x w) {w1 : World} {a' : Option Addr} {n' c' : Nat} {l' : List Kn} (ho : OwnK encKn 5 110 w1 base a' n' c' l')  (hu : Upd (· ∈ blk x.f.1) w w1) (hn : ∀ k ∈ blk a', k ∈ blk x.f.1 ∨ w.heap.size ≤ k) :
    MI base M D F kd E { x with f := (a', n', c'), fs := l' } (w1.setCell ⟨M, 145, none⟩ (.slice a' n' c')) := by
  have hML := lt_of_heap h.row
  have hs := hu.size
  have hu2 := Upd.setCell (F := (· = M)) w1 ⟨M, 145, none⟩ (.slice a' n' c') rfl
  have hu3 : Upd (fun k => k ∈ blk x.f.1 ∨ k = M) w (w1.setCell ⟨M, 145, none⟩ (.slice a' n' c')) := (hu.mono (G := fun k => k ∈ blk x.f.1 ∨ k = M) (fun k _ hk => .inl hk)).trans hu2 (fun k _ hk => .inr hk)
  have hr := row_set (row_upd hu h.nf h.row) 145 (.slice a' n' c')
  rw [mkL_tail h.cfg.len h.hd.len 3] at hr
  have hlt := mset_lt h
  have nMa : M ∉ blk a' := fun e => by rcases hn M e with e | e; exact h.nf e; omega
  have nb : ∀ k ∈ blk a', k ∉ blk x.b.1 := fun k hk e => by rcases hn k hk with g | g; exact h.bf k e g; have := (hlt k (mset_b e)).2; omega
  have nd : ∀ k ∈ blk a', k ∉ blk x.d.1 := fun k hk e => by rcases hn k hk with g | g; exact h.df k e g; have := (hlt k (mset_d e)).2; omega
  have nm : ∀ k ∈ blk a', k ∉ blk x.m.1 := fun k hk e => by rcases hn k hk with g | g; exact h.fm k g e; have := (hlt k (mset_m e)).2; omega
  exact { row := hr, bM := h.bM, cfg := h.cfg, hd := h.hd, dp := h.dp, bB := h.bB
          bO := h.bO.upd hu3 (fun z hz e => by rcases e with e | e; exact h.bf _ (mem_blk.2 ⟨z, hz, rfl⟩) e; exact h.nb (mem_blk.2 ⟨z, hz, e⟩))
          dO := h.dO.upd hu3 (fun z hz e => by rcases e with e | e; exact h.df _ (mem_blk.2 ⟨z, hz, rfl⟩) e; exact h.nd (mem_blk.2 ⟨z, hz, e⟩))
          fO := ho.upd hu2 (fun z hz e => nMa (mem_blk.2 ⟨z, hz, e⟩))
          mO := h.mO.upd hu3 (fun z hz e => by rcases e with e | e; exact h.fm _ e (mem_blk.2 ⟨z, hz, rfl⟩); exact h.nm (mem_blk.2 ⟨z, hz, e⟩))
          mU := h.mU
          arr := fun k hk => ⟨(h.arr k hk).1.upd hu3 (fun z hz e => ((h.arr k hk).2.2 z hz).2.2 (by rcases e with e | e; exact mset_f e; rw [e]; exact mset_M)), (h.arr k hk).2.1, fun z hz => by
            obtain ⟨q1, q2, q3⟩ := (h.arr k hk).2.2 z hz
            refine ⟨q1, Nat.lt_of_lt_of_le q2 hu3.size, fun e => ?_⟩
            rcases mset_iff.1 e with e | e | e | e | e
            · exact q3 (by rw [e]; exact mset_M)
            · exact q3 (mset_b e)
            · exact q3 (mset_d e)
            · rcases hn _ e with g | g; exact q3 (mset_f g); omega
            · exact q3 (mset_m e)⟩
          nb := h.nb, nd := h.nd, nf := nMa, nm := h.nm, bd := h.bd, bf := fun k hk e => nb k e hk, bm := h.bm, df := fun k hk e => nd k e hk, dm := h.dm, fm := nm }
/-- Its main are others, or lie elsewhere. -/
theorem MI.newM (h : MI base M D F kd E x w) {w1 : World} {a' : Option Addr} {n' c' : Nat} {l' : List Int} (ho : Own (Value.int .u64) 27 w1 base a' n' c' l') (hU : ∀ v ∈ l', U64 v) (hu : Upd (· ∈ blk x.m.1) w w1) (hn : ∀ k ∈ blk a', k ∈ blk x.m.1 ∨ w.heap.size ≤ k) :
    MI base M D F kd E { x with m := (a', n', c'), ml := l' } (w1.setCell ⟨M, 146, none⟩ (.slice a' n' c')) := by
  have hML := lt_of_heap h.row
  have hs := hu.size
  have hu2 := Upd.setCell (F := (· = M)) w1 ⟨M, 146, none⟩ (.slice a' n' c') rfl
  have hu3 : Upd (fun k => k ∈ blk x.m.1 ∨ k = M) w (w1.setCell ⟨M, 146, none⟩ (.slice a' n' c')) := (hu.mono (G := fun k => k ∈ blk x.m.1 ∨ k = M) (fun k _ hk => .inl hk)).trans hu2 (fun k _ hk => .inr hk)
  have hr := row_set (row_upd hu h.nm h.row) 146 (.slice a' n' c')
  rw [mkL_tail h.cfg.len h.hd.len 4] at hr
  have hlt := mset_lt h
  have nMa : M ∉ blk a' := fun e => by rcases hn M e with e | e; exact h.nm e; omega
  have nb : ∀ k ∈ blk a', k ∉ blk x.b.1 := fun k hk e => by rcases hn k hk with g | g; exact h.bm k e g; have := (hlt k (mset_b e)).2; omega
  have nd : ∀ k ∈ blk a', k ∉ blk x.d.1 := fun k hk e => by rcases hn k hk with g | g; exact h.dm k e g; have := (hlt k (mset_d e)).2; omega
  have nf : ∀ k ∈ blk a', k ∉ blk x.f.1 := fun k hk e => by rcases hn k hk with g | g; exact h.fm k e g; have := (hlt k (mset_f e)).2; omega
  exact { row := hr, bM := h.bM, cfg := h.cfg, hd := h.hd, dp := h.dp, bB := h.bB
          bO := h.bO.upd hu3 (fun z hz e => by rcases e with e | e; exact h.bm _ (mem_blk.2 ⟨z, hz, rfl⟩) e; exact h.nb (mem_blk.2 ⟨z, hz, e⟩))
          dO := h.dO.upd hu3 (fun z hz e => by rcases e with e | e; exact h.dm _ (mem_blk.2 ⟨z, hz, rfl⟩) e; exact h.nd (mem_blk.2 ⟨z, hz, e⟩))
          fO := h.fO.upd hu3 (fun z hz e => by rcases e with e | e; exact h.fm _ (mem_blk.2 ⟨z, hz, rfl⟩) e; exact h.nf (mem_blk.2 ⟨z, hz, e⟩))
          mO := ho.upd hu2 (fun z hz e => nMa (mem_blk.2 ⟨z, hz, e⟩))
          mU := hU
          arr := fun k hk => ⟨(h.arr k hk).1.upd hu3 (fun z hz e => ((h.arr k hk).2.2 z hz).2.2 (by rcases e with e | e; exact mset_m e; rw [e]; exact mset_M)), (h.arr k hk).2.1, fun z hz => by
            obtain ⟨q1, q2, q3⟩ := (h.arr k hk).2.2 z hz
            refine ⟨q1, Nat.lt_of_lt_of_le q2 hu3.size, fun e => ?_⟩
            rcases mset_iff.1 e with e | e | e | e | e
            · exact q3 (by rw [e]; exact mset_M)
            · exact q3 (mset_b e)
            · exact q3 (mset_d e)
            · exact q3 (mset_f e)
            · rcases hn _ e with g | g; exact q3 (mset_m g); omega⟩
          nb := h.nb, nd := h.nd, nf := h.nf, nm := nMa, bd := h.bd, bf := h.bf, bm := fun k hk e => nb k e hk, df := h.df, dm := fun k hk e => nd k e hk, fm := fun k hk e => nf k e hk }
end
/-- What a step of the Maker turns, and where what it holds then lies. -/
structure Step (M : Nat) (x : Mk) (w : World) (x' : Mk) (w' : World) : Prop where
  upd : Upd (· ∈ mset M x) w w'
  new : ∀ k ∈ mset M x', k ∈ mset M x ∨ w.heap.size ≤ k
theorem Step.refl (M : Nat) (x : Mk) (w : World) : Step M x w x w := ⟨Upd.refl _ w, fun k hk => .inl hk⟩
theorem Step.trans {M : Nat} {x x' x'' : Mk} {w w' w'' : World} (h : Step M x w x' w') (g : Step M x' w' x'' w'') : Step M x w x'' w'' :=
  ⟨h.upd.trans (g.upd.mono (G := (· ∈ mset M x')) (fun k _ hk => hk)) (fun k hk hkm => by rcases h.new k hkm with e | e; exact e; omega), fun k hk => by
    rcases g.new k hk with e | e
    · exact h.new k e
    · exact .inr (Nat.le_trans h.upd.size e)⟩
theorem Step.below {M : Nat} {x : Mk} {w w' : World} (h : Below w.heap.size w w') : Step M x w x w' := ⟨Upd.ofBelow h, fun k hk => .inl hk⟩
/-- Only M and the bytes. -/
theorem Step.ofB {M : Nat} {x : Mk} {w w' : World} {b : SL} (bl : List Int) (hd : List Value) (dp : Int) (hu : Upd (fun k => k = M ∨ k ∈ blk x.b.1) w w') (hn : ∀ k ∈ blk b.1, k ∈ blk x.b.1 ∨ w.heap.size ≤ k) : Step M x w { x with b := b, bl := bl, hd := hd, dp := dp } w' :=
  ⟨hu.mono (fun k _ hk => by rcases hk with e | e; rw [e]; exact mset_M; exact mset_b e), fun k hk => by
    rcases mset_iff.1 hk with e | e | e | e | e
    · exact .inl (by rw [e]; exact mset_M)
    · rcases hn k e with g | g; exact .inl (mset_b g); exact .inr g
    · exact .inl (mset_d e)
    · exact .inl (mset_f e)
    · exact .inl (mset_m e)⟩
theorem Step.ofF {M : Nat} {x : Mk} {w w' : World} {f : SL} (fs : List Kn) (hu : Upd (fun k => k ∈ blk x.f.1 ∨ k = M) w w') (hn : ∀ k ∈ blk f.1, k ∈ blk x.f.1 ∨ w.heap.size ≤ k) : Step M x w { x with f := f, fs := fs } w' :=
  ⟨hu.mono (fun k _ hk => by rcases hk with e | e; exact mset_f e; rw [e]; exact mset_M), fun k hk => by
    rcases mset_iff.1 hk with e | e | e | e | e
    · exact .inl (by rw [e]; exact mset_M)
    · exact .inl (mset_b e)
    · exact .inl (mset_d e)
    · rcases hn k e with g | g; exact .inl (mset_f g); exact .inr g
    · exact .inl (mset_m e)⟩
theorem Step.ofD {M : Nat} {x : Mk} {w w' : World} {d : SL} (ds : List Kn) (hu : Upd (fun k => k ∈ blk x.d.1 ∨ k = M) w w') (hn : ∀ k ∈ blk d.1, k ∈ blk x.d.1 ∨ w.heap.size ≤ k) : Step M x w { x with d := d, ds := ds } w' :=
  ⟨hu.mono (fun k _ hk => by rcases hk with e | e; exact mset_d e; rw [e]; exact mset_M), fun k hk => by
    rcases mset_iff.1 hk with e | e | e | e | e
    · exact .inl (by rw [e]; exact mset_M)
    · exact .inl (mset_b e)
    · rcases hn k e with g | g; exact .inl (mset_d g); exact .inr g
    · exact .inl (mset_f e)
    · exact .inl (mset_m e)⟩
theorem Step.ofM {M : Nat} {x : Mk} {w w' : World} {m : SL} (ml : List Int) (hu : Upd (fun k => k ∈ blk x.m.1 ∨ k = M) w w') (hn : ∀ k ∈ blk m.1, k ∈ blk x.m.1 ∨ w.heap.size ≤ k) : Step M x w { x with m := m, ml := ml } w' :=
  ⟨hu.mono (fun k _ hk => by rcases hk with e | e; exact mset_m e; rw [e]; exact mset_M), fun k hk => by
    rcases mset_iff.1 hk with e | e | e | e | e
    · exact .inl (by rw [e]; exact mset_M)
    · exact .inl (mset_b e)
    · exact .inl (mset_d e)
    · exact .inl (mset_f e)
    · rcases hn k e with g | g; exact .inl (mset_m g); exact .inr g⟩
def FsOK (B F : Nat) (l : List Kn) : Prop := ∀ k ∈ l, k.pl + 40 ≤ B ∧ k.slot < F
def DsOK (B D : Nat) (l : List Kn) : Prop := ∀ k ∈ l, k.pl + 64 ≤ B ∧ k.slot < D ∧ k.text.size ≤ 49 ∧ k.count ≤ 100 ∧ (k.count = 0 → k.al = []) ∧ (0 < k.count → ChainOK B k.al (k.count - 1))
theorem FsOK.grow {B B' F : Nat} {l : List Kn} (h : FsOK B F l) (hB : B ≤ B') : FsOK B' F l := fun k hk => by have := h k hk; exact ⟨by omega, this.2⟩
theorem DsOK.grow {B B' D : Nat} {l : List Kn} (h : DsOK B D l) (hB : B ≤ B') : DsOK B' D l := fun k hk => by
  obtain ⟨h1, h2, h3, h4, h5, h6⟩ := h k hk
  exact ⟨by omega, h2, h3, h4, h5, fun hp => (h6 hp).grow hB⟩
end Go.Proofs.Ytpkmdnfkeebgbaa
