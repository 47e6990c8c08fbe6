/- What the document's own PutEntry computes. Conditions stand as premises. -/
import Derived.Test.YtpkmdnfkeebgbaaJm4
namespace Go.Proofs.Ytpkmdnfkeebgbaa
open Go.ChangeShapes Go.WideShapes Go.ChangeAt Go.RowKit
set_option linter.unusedVariables false
set_option linter.unusedSimpArgs false

theorem nums3_any (a2 : Option Addr) (c2 : Nat) (s r m : Int) (w : World) (hr : Rd (Value.int .u64) w a2 3 c2 [s, r, m]) (h1 : U64 s) (h2 : U64 r) (h3 : U64 m) :
    Calls Try.prog 28 #[.slice a2 3 c2] w fun e w' => ∃ a1 c1, e = .returned (.slice a1 24 c1) ∧ OwnB 5 w' w.heap.size a1 24 c1 (numsL [s, r, m]) ∧ Below w.heap.size w w' := by
  refine (numsN_any a2 3 c2 [s, r, m] w hr (by intro z hz; simp at hz; rcases hz with rfl | rfl | rfl; exact h1; exact h2; exact h3) (by omega)).mono ?_
  rintro e w' ⟨a1, c1, rfl, ho, hb⟩
  exact ⟨a1, c1, rfl, ho, hb⟩
theorem entr_0 {w : World} {S : Nat} {s r m : Int} {B : List Int} {x : Int} {a : Option Addr} {n c : Nat} {T : TypeId} (h : w.heap[S]? = some (.cells (entL s r m B x a n c).toArray T (0, 0))) : w.cell? ⟨S, 0, none⟩ = some (.int .u64 s) := cell_of_heap h 0 _ rfl
theorem entr_1 {w : World} {S : Nat} {s r m : Int} {B : List Int} {x : Int} {a : Option Addr} {n c : Nat} {T : TypeId} (h : w.heap[S]? = some (.cells (entL s r m B x a n c).toArray T (0, 0))) : w.cell? ⟨S, 1, none⟩ = some (.int .u64 r) := cell_of_heap h 1 _ rfl
theorem entr_2 {w : World} {S : Nat} {s r m : Int} {B : List Int} {x : Int} {a : Option Addr} {n c : Nat} {T : TypeId} (h : w.heap[S]? = some (.cells (entL s r m B x a n c).toArray T (0, 0))) : w.cell? ⟨S, 2, none⟩ = some (.int .u64 m) := cell_of_heap h 2 _ rfl

set_option maxRecDepth 100000 in
set_option maxHeartbeats 2000000 in
theorem refputent_any (s r m : Int) (B : List Int) (x : Int) (a : Option Addr) (n c : Nat) (ps : List PR) (w : World) (hB : IsB B) (hBl : B.length = 16) (h1 : U64 s) (h2 : U64 r) (h3 : U64 m) (h4 : U64 x) (hr : RdP w a n c ps) (hu : ∀ p ∈ ps, U64 p.1 ∧ U64 p.2) (hn : n ≤ 1000) :
    Calls Try.prog 54 #[entV s r m B x a n c] w (NewB w.heap.size w (putEntL s r m B x ps)) := by
  obtain rfl : ps.length = n := hr.1
  rw [entV_eq]
  have HBl := Lib.hid hBl
  have HBB := Lib.hid hB
  have HR := Lib.hid hr
  have HU := Lib.hid hu
  have H1 := Lib.hid h1
  have H2 := Lib.hid h2
  have H3 := Lib.hid h3
  have H4 := Lib.hid h4
  obtain ⟨s0, s1⟩ := h1
  obtain ⟨r0, r1⟩ := h2
  obtain ⟨m0, m1⟩ := h3
  obtain ⟨x0, x1⟩ := h4
  have HPT := Lib.hid (fun (a5 : Option Addr) (c5 : Nat) (w5 : World) (h : RdB w5 a5 (48 + 16 * ps.length) c5 (entH s r m B x ++ numsL (flatN ps))) => show Calls Try.prog 58 #[.int .i64 3, .slice a5 (48 + 16 * ps.length) c5] w5 (NewB w5.heap.size w5 (putEntL s r m B x ps)) from refput_obj a5 (48 + 16 * ps.length) c5 3 _ w5 h (by omega))
  generalize putEntL s r m B x ps = PL at *
  clear hBl hB hr hu
  go_enter Try.func54, Try.ntmps54
  go_upto_region 1 with fail
  have hX1 := heap_alloc_new w (.cells (entL s r m B x a ps.length c).toArray 118)
  have HB1 := Lib.hid (below_alloc w (.cells (entL s r m B x a ps.length c).toArray 118))
  generalize w.alloc (.cells (entL s r m B x a ps.length c).toArray 118) = w1 at hX1 HB1 ⊢
  obtain ⟨S, hS⟩ : ∃ S, w.heap.size = S := ⟨_, rfl⟩
  have HS := Lib.hid hS
  rw [hS] at hX1 ⊢
  clear hS
  have hSw1 := lt_of_heap hX1
  have HX1 := Lib.hid hX1
  have HL3 := Lib.hid (Rd.lits (Value.int .u64) 27 w1.drew [s, r, m] #[.int .u64 s, .int .u64 r, .int .u64 m] 3 rfl rfl (by omega))
  have HBA := Lib.hid ((below_drew w1).alloc (Nat.le_refl _) (.cells #[.int .u64 s, .int .u64 r, .int .u64 m] 27))
  have hC : w1.drew.heap[S]? = some (.cells (entL s r m B x a ps.length c).toArray 118 (0, 0)) := hX1
  refine wp_region_held (S := fun w' => w'.heap[S]? = some (.cells (entL s r m B x a ps.length c).toArray 118 (0, 0))) (by kernel_rfl) ?_
  change wpAnyH _ _ _ _ _ _ _ _ w1.drew
  clear hX1
  refine held_take 0 (d := some 5) (v := (.pointer (some ⟨S, 0, none⟩))) rfl rfl (by kernel_rfl) (by kernel_rfl) (by kernel_rfl) (fun _ _ _ h => h) hC (by kernel_rfl) (fun w hSw => by have x0 := entr_0 hSw; have x1 := entr_1 hSw; have x2 := entr_2 hSw; clear hSw; go_simp) ?_
  try simp only [Act.put, List.setIfInBounds_toArray, List.set_cons_zero, List.set_cons_succ]
  refine held_take 1 (d := some 6) (v := (.int .u64 s)) rfl rfl (by kernel_rfl) (by kernel_rfl) (by kernel_rfl) (fun _ _ _ h => h) hC (by kernel_rfl) (fun w hSw => by have x0 := entr_0 hSw; have x1 := entr_1 hSw; have x2 := entr_2 hSw; clear hSw; go_simp) ?_
  try simp only [Act.put, List.setIfInBounds_toArray, List.set_cons_zero, List.set_cons_succ]
  refine held_take 2 (d := some 7) (v := (.pointer (some ⟨S, 1, none⟩))) rfl rfl (by kernel_rfl) (by kernel_rfl) (by kernel_rfl) (fun _ _ _ h => h) hC (by kernel_rfl) (fun w hSw => by have x0 := entr_0 hSw; have x1 := entr_1 hSw; have x2 := entr_2 hSw; clear hSw; go_simp) ?_
  try simp only [Act.put, List.setIfInBounds_toArray, List.set_cons_zero, List.set_cons_succ]
  refine held_take 3 (d := some 8) (v := (.int .u64 r)) rfl rfl (by kernel_rfl) (by kernel_rfl) (by kernel_rfl) (fun _ _ _ h => h) hC (by kernel_rfl) (fun w hSw => by have x0 := entr_0 hSw; have x1 := entr_1 hSw; have x2 := entr_2 hSw; clear hSw; go_simp) ?_
  try simp only [Act.put, List.setIfInBounds_toArray, List.set_cons_zero, List.set_cons_succ]
  refine held_take 4 (d := some 9) (v := (.pointer (some ⟨S, 2, none⟩))) rfl rfl (by kernel_rfl) (by kernel_rfl) (by kernel_rfl) (fun _ _ _ h => h) hC (by kernel_rfl) (fun w hSw => by have x0 := entr_0 hSw; have x1 := entr_1 hSw; have x2 := entr_2 hSw; clear hSw; go_simp) ?_
  try simp only [Act.put, List.setIfInBounds_toArray, List.set_cons_zero, List.set_cons_succ]
  refine held_take 5 (d := some 10) (v := (.int .u64 m)) rfl rfl (by kernel_rfl) (by kernel_rfl) (by kernel_rfl) (fun _ _ _ h => h) hC (by kernel_rfl) (fun w hSw => by have x0 := entr_0 hSw; have x1 := entr_1 hSw; have x2 := entr_2 hSw; clear hSw; go_simp) ?_
  try simp only [Act.put, List.setIfInBounds_toArray, List.set_cons_zero, List.set_cons_succ]
  refine held_take 8 (d := some 13) (v := (.pointer (some ⟨S, 3, none⟩))) rfl rfl (by kernel_rfl) (by kernel_rfl) (by kernel_rfl) (fun _ _ _ h => h) hC (by kernel_rfl) (fun w hSw => by have x0 := entr_0 hSw; have x1 := entr_1 hSw; have x2 := entr_2 hSw; clear hSw; go_simp) ?_
  try simp only [Act.put, List.setIfInBounds_toArray, List.set_cons_zero, List.set_cons_succ]
  refine held_take 9 (d := some 14) (v := (.slice (some ⟨S, 3, none⟩) 16 16)) rfl rfl (by kernel_rfl) (by kernel_rfl) (by kernel_rfl) (fun _ _ _ h => h) hC (by kernel_rfl) (fun w hSw => by have x0 := entr_0 hSw; have x1 := entr_1 hSw; have x2 := entr_2 hSw; clear hSw; go_simp) ?_
  try simp only [Act.put, List.setIfInBounds_toArray, List.set_cons_zero, List.set_cons_succ]
  refine held_one 6 rfl (by kernel_rfl) (fun K hK => ?_)
  go_simp
  have hC2 := row_below HBA.out hSw1 hC
  clear hC
  refine hK _ _ hC2 ?_
  clear hK K
  try simp only [Act.put, List.setIfInBounds_toArray, List.set_cons_zero, List.set_cons_succ]
  refine held_one 7 rfl (by kernel_rfl) (fun K hK => ?_)
  go_simp
  go_at_call 28
  refine (nums3_any _ 3 s r m _ HL3.out H1.out H2.out H3.out).mono ?_
  rintro e w2 ⟨a2, c2, rfl, ho2, hb2⟩
  have hb12 := HBA.out.trans (hb2.mono HBA.out.size)
  have HB12 := Lib.hid hb12
  have hC3 := row_below hb2 (lt_of_heap hC2) hC2
  have HO2 := Lib.hid (show OwnB 5 w2 w1.heap.size a2 24 c2 (numsL [s, r, m]) from ⟨ho2.1, ho2.2.base HBA.out.size⟩)
  have HAT := Lib.hid ((row_range (o := 3) hC3 B (fun j v h => entL_boots j v h)).rd HBl.out (lt_of_heap hC3) (by omega))
  have hz2 : w1.heap.size ≤ w2.heap.size := hb12.size
  clear hC2 ho2 hb2 hb12
  go_simp
  refine hK _ _ hC3 ?_
  clear hK K
  try simp only [Act.put, List.setIfInBounds_toArray, List.set_cons_zero, List.set_cons_succ]
  refine held_one 10 rfl (by kernel_rfl) (fun K hK => ?_)
  refine step_appAt rfl rfl Try.oneB rfl rfl HO2.out.2 HAT.out (fun _ => rfl) (by omega) (by omega) hz2 ?_
  intro a3 c3 w3 ho3 hu3 _
  have HG2 := Lib.hid (fun z (hz : a2 = some z) => (HO2.out.2.lt z hz).1)
  have HSn := Lib.hid (show S ∉ blk a2 from fun h => by obtain ⟨z, hz, hb⟩ := mem_blk.1 h; have := HG2.out z hz; omega)
  have hC4 := row_upd hu3 HSn.out hC3
  have HB3 := Lib.hid (HB12.out.trans (hu3.below HB12.out.size (fun j hj => by obtain ⟨z, hz, rfl⟩ := mem_blk.1 hj; have := HG2.out z hz; omega)))
  have HO3 := Lib.hid ho3
  have hz3 : w1.heap.size ≤ w3.heap.size := Nat.le_trans hz2 hu3.size
  clear hC3 ho3 hu3 HAT HO2
  refine hK _ _ hC4 ?_
  clear hK K
  try simp only [Act.put, List.setIfInBounds_toArray, List.set_cons_zero, List.set_cons_succ]
  refine held_take 11 (d := some 3) (v := (.slice a3 40 c3)) rfl rfl (by kernel_rfl) (by kernel_rfl) (by kernel_rfl) (fun _ _ _ h => h) hC4 (by kernel_rfl) (fun w hSw => by clear hSw; go_simp) ?_
  try simp only [Act.put, List.setIfInBounds_toArray, List.set_cons_zero, List.set_cons_succ]
  refine wpAnyH_done (by kernel_rfl) ?_ _
  have hX3 := row_below HB3.out hSw1 HX1.out
  have i19 := cell_of_heap hX3 19 _ (entL_19 HBl.out)
  have HL1 := Lib.hid (Rd.one (Value.int .u64) 27 w3 x)
  have HBA3 := Lib.hid (below_alloc w3 (.cells #[.int .u64 x] 27))
  clear hX3 hC4 HL3 HBA
  go_wp2_with fail
  with_reducible refine (nums1_any _ 1 x _ HL1.out H4.out).mono ?_
  rintro e w4 ⟨a4, c4, rfl, ho4, hb4⟩
  have hb34 := HBA3.out.trans (hb4.mono HBA3.out.size)
  have HB4 := Lib.hid (HB3.out.trans (hb34.mono HB3.out.size))
  have HO4 := Lib.hid (HO3.out.mono hb34)
  have HR4 := Lib.hid ho4.rd
  have hz4 : w1.heap.size ≤ w4.heap.size := HB4.out.size
  clear ho4 hb4 hb34 i19
  go_upto_region 3 with (at_builtin; go_must (refine wpList_appAt rfl rfl Try.oneB rfl rfl HO4.out HR4.out.2 (fun _ => rfl) (by omega) (by omega) hz4 ?_); intro a5 c5 w5 ho5 hu5 _)
  have HB5 := Lib.hid (HB4.out.trans (hu5.below hz4 (fun j hj => by obtain ⟨z, hz, rfl⟩ := mem_blk.1 hj; exact (HO4.out.lt z hz).1)))
  have HO5 := Lib.hid (show OwnB 5 w5 w1.heap.size a5 48 c5 (entH s r m B x) from ⟨((numsL_isB [s, r, m]).append HBB.out).append (numsL_isB [x]), ho5⟩)
  clear ho5 hu5 HO3 HO4 HR4 hz4 hz3 hz2
  go_wp2_with fail
  go_loopw [3, 4] (fun s_ i wr => ∃ (k : Nat) (a' : Option Addr) (c' : Nat), k ≤ ps.length ∧ i = .int .i64 (k : Int) ∧ s_ = .slice a' (48 + 16 * k) c' ∧ OwnB 5 wr w1.heap.size a' (48 + 16 * k) c' (entH s r m B x ++ numsL (flatN (ps.take k))) ∧ Below w1.heap.size w1 wr) (fun _ i _ => ps.length - (intOf i).toNat)
  case atStart => exact ⟨0, a5, c5, Nat.zero_le _, rfl, rfl, by simpa [flatN, numsL] using HO5.out, HB5.out⟩
  case round =>
    obtain ⟨k, a', c', hk, rfl, rfl, hrk, hB⟩ := hrel
    have HRK := Lib.hid hrk
    have HB := Lib.hid hB
    have hXr := row_below hB hSw1 HX1.out
    have i20 := cell_of_heap hXr 20 _ (entL_20 HBl.out)
    clear hrk hB
    by_cases hlt : k < ps.length
    · have hlt' : (k : Int) < (ps.length : Int) := by omega
      obtain ⟨g1, g2, g3, g4, g5⟩ := HR.out.below (HB1.out.trans (HB.out.mono HB1.out.size))
      obtain ⟨b, off, rfl, hbk, hcs⟩ := g5.resolve_left (by omega)
      obtain ⟨⟨u, v⟩, hp⟩ : ∃ p, ps[k]? = some p := ⟨_, List.getElem?_eq_getElem hlt⟩
      obtain ⟨hc0, hc1⟩ := hcs k _ hp
      have HUV := Lib.hid (HU.out _ (List.mem_of_getElem? hp))
      obtain ⟨⟨u0, u1⟩, v0, v1⟩ := HU.out _ (List.mem_of_getElem? hp)
      simp only at hc0 hc1 u0 u1 v0 v1
      rw [show off + 2 * k = off + k * 2 by omega] at hc0
      rw [show off + (2 * k + 1) = off + k * 2 + 1 by omega] at hc1
      have HSn2 := Lib.hid (flatN_snoc ps k _ hp)
      have hk0 : (0 : Int) ≤ (k : Int) := by omega
      have HRD := Lib.hid (Rd.two (Value.int .u64) 27 wr.drew u v)
      have HBA := Lib.hid ((below_drew wr).alloc (Nat.le_refl _) (.cells #[.int .u64 u, .int .u64 v] 27))
      have HOA := Lib.hid (HRK.out.2.mono HBA.out)
      have HIs := Lib.hid HRK.out.1
      have hbA : b < w1.heap.size ∨ True := .inr trivial
      have hz0 := Nat.le_trans HB.out.size HBA.out.size
      have HK := Lib.hid hlt
      go_upto_region 6 with fail
      refine wp_region_held (S := fun w' => w'.cell? ⟨S, 20, none⟩ = some (.slice (some ⟨b, off, none⟩) ps.length c) ∧ w'.cell? ⟨b, off + k * 2, none⟩ = some (.int .u64 u) ∧ w'.cell? ⟨b, off + k * 2 + 1, none⟩ = some (.int .u64 v)) (by kernel_rfl) ?_
      change wpAnyH _ _ _ _ _ _ _ _ wr.drew
      have hC : wr.drew.cell? ⟨S, 20, none⟩ = some (.slice (some ⟨b, off, none⟩) ps.length c) ∧ wr.drew.cell? ⟨b, off + k * 2, none⟩ = some (.int .u64 u) ∧ wr.drew.cell? ⟨b, off + k * 2 + 1, none⟩ = some (.int .u64 v) := ⟨i20, hc0, hc1⟩
      have hSr := lt_of_heap hXr
      have hbw : b < w.heap.size := by
        obtain ⟨_, _, _, _, q5⟩ := HR.out
        obtain ⟨b', o', hb', hl', _⟩ := q5.resolve_left (by omega)
        cases hb'; exact hl'
      have hbw1 : b < w1.heap.size := Nat.lt_of_lt_of_le hbw HB1.out.size
      clear g1 g2 g3 g4 g5 hcs hp hlt i20 hc0 hc1 hXr hbA hbw
      refine held_take 0 (d := some 29) (v := (.slice a' (48 + 16 * k) c')) rfl rfl (by kernel_rfl) (by kernel_rfl) (by kernel_rfl) (fun _ _ _ h => h) hC (by kernel_rfl) (fun w hSw => by obtain ⟨x0, x1, x2⟩ := hSw; go_simp) ?_
      try simp only [Act.put, List.setIfInBounds_toArray, List.set_cons_zero, List.set_cons_succ]
      refine held_take 1 (d := some 30) (v := (.pointer (some ⟨S, 20, none⟩))) rfl rfl (by kernel_rfl) (by kernel_rfl) (by kernel_rfl) (fun _ _ _ h => h) hC (by kernel_rfl) (fun w hSw => by obtain ⟨x0, x1, x2⟩ := hSw; go_simp) ?_
      try simp only [Act.put, List.setIfInBounds_toArray, List.set_cons_zero, List.set_cons_succ]
      refine held_take 2 (d := some 31) (v := (.slice (some ⟨b, off, none⟩) ps.length c)) rfl rfl (by kernel_rfl) (by kernel_rfl) (by kernel_rfl) (fun _ _ _ h => h) hC (by kernel_rfl) (fun w hSw => by obtain ⟨x0, x1, x2⟩ := hSw; go_simp) ?_
      try simp only [Act.put, List.setIfInBounds_toArray, List.set_cons_zero, List.set_cons_succ]
      refine held_take 3 (d := some 32) (v := (.int .i64 (k : Int))) rfl rfl (by kernel_rfl) (by kernel_rfl) (by kernel_rfl) (fun _ _ _ h => h) hC (by kernel_rfl) (fun w hSw => by obtain ⟨x0, x1, x2⟩ := hSw; go_simp) ?_
      try simp only [Act.put, List.setIfInBounds_toArray, List.set_cons_zero, List.set_cons_succ]
      refine held_take 4 (d := some 33) (v := (.pointer (some ⟨b, off + k * 2, none⟩))) rfl rfl (by kernel_rfl) (by kernel_rfl) (by kernel_rfl) (fun _ _ _ h => h) hC (by kernel_rfl) (fun w hSw => by obtain ⟨x0, x1, x2⟩ := hSw; go_simp) ?_
      try simp only [Act.put, List.setIfInBounds_toArray, List.set_cons_zero, List.set_cons_succ]
      refine held_take 5 (d := some 34) (v := (.pointer (some ⟨b, off + k * 2, none⟩))) rfl rfl (by kernel_rfl) (by kernel_rfl) (by kernel_rfl) (fun _ _ _ h => h) hC (by kernel_rfl) (fun w hSw => by obtain ⟨x0, x1, x2⟩ := hSw; go_simp) ?_
      try simp only [Act.put, List.setIfInBounds_toArray, List.set_cons_zero, List.set_cons_succ]
      refine held_take 6 (d := some 35) (v := (.int .u64 u)) rfl rfl (by kernel_rfl) (by kernel_rfl) (by kernel_rfl) (fun _ _ _ h => h) hC (by kernel_rfl) (fun w hSw => by obtain ⟨x0, x1, x2⟩ := hSw; go_simp) ?_
      try simp only [Act.put, List.setIfInBounds_toArray, List.set_cons_zero, List.set_cons_succ]
      refine held_take 7 (d := some 36) (v := (.pointer (some ⟨S, 20, none⟩))) rfl rfl (by kernel_rfl) (by kernel_rfl) (by kernel_rfl) (fun _ _ _ h => h) hC (by kernel_rfl) (fun w hSw => by obtain ⟨x0, x1, x2⟩ := hSw; go_simp) ?_
      try simp only [Act.put, List.setIfInBounds_toArray, List.set_cons_zero, List.set_cons_succ]
      refine held_take 8 (d := some 37) (v := (.slice (some ⟨b, off, none⟩) ps.length c)) rfl rfl (by kernel_rfl) (by kernel_rfl) (by kernel_rfl) (fun _ _ _ h => h) hC (by kernel_rfl) (fun w hSw => by obtain ⟨x0, x1, x2⟩ := hSw; go_simp) ?_
      try simp only [Act.put, List.setIfInBounds_toArray, List.set_cons_zero, List.set_cons_succ]
      refine held_take 9 (d := some 38) (v := (.int .i64 (k : Int))) rfl rfl (by kernel_rfl) (by kernel_rfl) (by kernel_rfl) (fun _ _ _ h => h) hC (by kernel_rfl) (fun w hSw => by obtain ⟨x0, x1, x2⟩ := hSw; go_simp) ?_
      try simp only [Act.put, List.setIfInBounds_toArray, List.set_cons_zero, List.set_cons_succ]
      refine held_take 10 (d := some 39) (v := (.pointer (some ⟨b, off + k * 2, none⟩))) rfl rfl (by kernel_rfl) (by kernel_rfl) (by kernel_rfl) (fun _ _ _ h => h) hC (by kernel_rfl) (fun w hSw => by obtain ⟨x0, x1, x2⟩ := hSw; go_simp) ?_
      try simp only [Act.put, List.setIfInBounds_toArray, List.set_cons_zero, List.set_cons_succ]
      refine held_take 11 (d := some 40) (v := (.pointer (some ⟨b, off + k * 2 + 1, none⟩))) rfl rfl (by kernel_rfl) (by kernel_rfl) (by kernel_rfl) (fun _ _ _ h => h) hC (by kernel_rfl) (fun w hSw => by obtain ⟨x0, x1, x2⟩ := hSw; go_simp) ?_
      try simp only [Act.put, List.setIfInBounds_toArray, List.set_cons_zero, List.set_cons_succ]
      refine held_take 12 (d := some 41) (v := (.int .u64 v)) rfl rfl (by kernel_rfl) (by kernel_rfl) (by kernel_rfl) (fun _ _ _ h => h) hC (by kernel_rfl) (fun w hSw => by obtain ⟨x0, x1, x2⟩ := hSw; go_simp) ?_
      try simp only [Act.put, List.setIfInBounds_toArray, List.set_cons_zero, List.set_cons_succ]
      refine held_one 13 rfl (by kernel_rfl) (fun K hK => ?_)
      go_simp
      obtain ⟨x0, x1, x2⟩ := hC
      have hC2 : (wr.alloc (.cells #[.int .u64 u, .int .u64 v] 27)).drew.cell? ⟨S, 20, none⟩ = some (.slice (some ⟨b, off, none⟩) ps.length c) ∧ (wr.alloc (.cells #[.int .u64 u, .int .u64 v] 27)).drew.cell? ⟨b, off + k * 2, none⟩ = some (.int .u64 u) ∧ (wr.alloc (.cells #[.int .u64 u, .int .u64 v] 27)).drew.cell? ⟨b, off + k * 2 + 1, none⟩ = some (.int .u64 v) := ⟨bcell HBA.out hSr x0, bcell HBA.out hbk x1, bcell HBA.out hbk x2⟩
      clear x0 x1 x2
      refine hK _ _ hC2 ?_
      clear hK K
      try simp only [Act.put, List.setIfInBounds_toArray, List.set_cons_zero, List.set_cons_succ]
      refine held_one 14 rfl (by kernel_rfl) (fun K hK => ?_)
      go_simp
      go_at_call 28
      refine (nums2_any _ 2 u v _ HRD.out HUV.out.1 HUV.out.2).mono ?_
      rintro e w6 ⟨a6, c6, rfl, hr6, hb6⟩
      have HR6 := Lib.hid hr6
      have HO6 := Lib.hid (HOA.out.mono hb6)
      have hz6 := Nat.le_trans hz0 hb6.size
      have HB6 := Lib.hid (HB.out.trans ((HBA.out.trans (hb6.mono HBA.out.size)).mono HB.out.size))
      obtain ⟨x0, x1, x2⟩ := hC2
      have hSa := Nat.lt_of_lt_of_le hSr HBA.out.size
      have hba := Nat.lt_of_lt_of_le hbk HBA.out.size
      have hC3 : w6.cell? ⟨S, 20, none⟩ = some (.slice (some ⟨b, off, none⟩) ps.length c) ∧ w6.cell? ⟨b, off + k * 2, none⟩ = some (.int .u64 u) ∧ w6.cell? ⟨b, off + k * 2 + 1, none⟩ = some (.int .u64 v) := ⟨bcell hb6 hSa x0, bcell hb6 hba x1, bcell hb6 hba x2⟩
      clear x0 x1 x2 hr6 hb6
      go_simp
      refine hK _ _ hC3 ?_
      clear hK K
      try simp only [Act.put, List.setIfInBounds_toArray, List.set_cons_zero, List.set_cons_succ]
      refine held_one 15 rfl (by kernel_rfl) (fun K hK => ?_)
      refine step_appAt rfl rfl Try.oneB rfl rfl HO6.out HR6.out.2 (fun _ => rfl) (by omega) (by omega) hz6 ?_
      intro a7 c7 w7 ho7 hu7 _
      have HG6 := Lib.hid (fun z (hz : a' = some z) => (HO6.out.lt z hz).1)
      obtain ⟨x0, x1, x2⟩ := hC3
      have hnS : S ∉ blk a' := fun h => by obtain ⟨z, hz, hb⟩ := mem_blk.1 h; have := HG6.out z hz; omega
      have hnb : b ∉ blk a' := fun h => by obtain ⟨z, hz, hb⟩ := mem_blk.1 h; have := HG6.out z hz; omega
      have hC4 : w7.cell? ⟨S, 20, none⟩ = some (.slice (some ⟨b, off, none⟩) ps.length c) ∧ w7.cell? ⟨b, off + k * 2, none⟩ = some (.int .u64 u) ∧ w7.cell? ⟨b, off + k * 2 + 1, none⟩ = some (.int .u64 v) := ⟨ucell hu7 hnS x0, ucell hu7 hnb x1, ucell hu7 hnb x2⟩
      have HB7 := Lib.hid (HB6.out.trans (hu7.below HB6.out.size (fun j hj => by obtain ⟨z, hz, rfl⟩ := mem_blk.1 hj; exact HG6.out z hz)))
      have he3 : entH s r m B x ++ numsL (flatN (ps.take k)) ++ numsL [u, v] = entH s r m B x ++ numsL (flatN (ps.take (k + 1))) := by rw [HSn2.out, numsL_append, List.append_assoc]
      rw [he3] at ho7
      have HO7 := Lib.hid (show OwnB 5 w7 w1.heap.size a7 (48 + 16 * k + 16) c7 (entH s r m B x ++ numsL (flatN (ps.take (k + 1)))) from ⟨by rw [← he3]; exact HIs.out.append (numsL_isB [u, v]), ho7⟩)
      clear x0 x1 x2 ho7 hu7 he3 hnS hnb
      refine hK _ _ hC4 ?_
      clear hK K
      try simp only [Act.put, List.setIfInBounds_toArray, List.set_cons_zero, List.set_cons_succ]
      refine held_take 16 (d := some 3) (v := (.slice a7 (48 + 16 * k + 16) c7)) rfl rfl (by kernel_rfl) (by kernel_rfl) (by kernel_rfl) (fun _ _ _ h => h) hC4 (by kernel_rfl) (fun w hSw => by obtain ⟨x0, x1, x2⟩ := hSw; go_simp) ?_
      try simp only [Act.put, List.setIfInBounds_toArray, List.set_cons_zero, List.set_cons_succ]
      refine wpAnyH_done (by kernel_rfl) ?_ _
      go_wp2_with fail
      go_roundw
      case rel => exact ⟨k + 1, a7, c7, HK.out, by congr 1, rfl, HO7.out, HB7.out⟩
      case measure => simp [intOf]; have := HK.out; omega
    · obtain rfl : k = ps.length := by omega
      have hge : ¬ ((ps.length : Int) < (ps.length : Int)) := by omega
      have h1 := HRK.out
      rw [List.take_length] at h1
      have H1r := Lib.hid h1.rd
      clear h1 hlt hXr
      go_wp2_with fail
      refine (HPT.out a' c' wr H1r.out).mono ?_
      rintro e w' ⟨a9, c9, rfl, ho9, hb9⟩
      go_wp2_with fail
      go_ret
      have hbb := HB1.out.trans (HB.out.mono HB1.out.size)
      exact ⟨a9, c9, rfl, ⟨ho9.1, ho9.2.base hbb.size⟩, hbb.trans (hb9.mono hbb.size)⟩
end Go.Proofs.Ytpkmdnfkeebgbaa
