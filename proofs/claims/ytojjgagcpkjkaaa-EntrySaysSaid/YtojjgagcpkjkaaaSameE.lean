/- What law8's sameEntry, sameArray, sameSlots compute of equal ones. Conditions stand as premises. -/
import Derived.Test.YtojjgagcpkjkaaaRefReadE
import Derived.Test.YtojjgagcpkjkaaaArrEq
import Derived.Test.YtojjgagcpkjkaaaRefPlaces
namespace Go.Proofs.Ytojjgagcpkjkaaa
open Go.ChangeShapes Go.WideShapes Go.ChangeAt Go.RowKit
set_option linter.unusedVariables false
set_option linter.unusedSimpArgs false

/-- The document's ReadEntry at any place of any bytes. -/
theorem refreade_any (p : Int) (a : Option Addr) (m c : Nat) (l : List Int) (w : World) (hr : RdB w a m c l) (hm : m ≤ 1000000) (h0 : 0 ≤ p) (h1 : p ≤ 18446744073709551615) :
    Calls Try.prog 18 #[.slice a m c, .int .u64 p] w (RefEE w (numsOf l p) (bootOf l p) (itemsOf l p) (entRC l p)) := by
  obtain rfl : l.length = m := hr.len
  by_cases hb0 : bodyC l p 3 = 0
  case neg =>
    have e1 := entC_body_no (A := 48) (T := 16) hb0
    have e2 : entRC l p = bodyC l p 3 := by unfold entRC; rw [if_pos (by rw [e1]; exact hb0), e1]
    rw [e2]
    exact refreade_no p a l.length c l w hr hm h0 h1 hb0 _ _ _
  obtain ⟨k0, k1, k2⟩ := entC_body (A := 48) (T := 16) h0 (by omega) (by omega) (by decide) hb0
  have hbl := bodyL_length h0 k0
  obtain ⟨g1, g2, g3, g4, g5, g6⟩ := readC_ok h0 k0
  have hXl : (bodyL l p).length ≤ 1000000 := by omega
  by_cases hs : ((bodyL l p).length : Int) < 48 + 16 ∨ ((bodyL l p).length : Int) % 16 ≠ 0
  · have e2 : entRC l p = 5 := by unfold entRC; rw [if_pos (by rw [k2, if_pos hs]; decide), k2, if_pos hs]
    rw [e2]
    refine refreade_size p a l.length c l w hr hm h0 h1 hb0 hXl ?_ _ _ _
    rcases hs with h | h
    · exact .inl (by omega)
    · by_cases h2 : ((bodyL l p).length : Int) < 64
      · exact .inl h2
      · exact .inr ⟨by omega, by simpa using h⟩
  · rw [if_neg hs] at k2
    have hL : (numsOf l p).length = 6 + 2 * (((bodyL l p).length - 48) / 16) := by unfold numsOf; rw [allF_length]; omega
    have hg : ∀ i, i < 6 → (numsOf l p)[i]? = some ((numsOf l p).getD i 0) := fun i hi => by
      rw [List.getD_eq_getElem?_getD, List.getElem?_eq_getElem (by omega)]; rfl
    refine refreade_yes p a l.length c l w hr hm h0 h1 hb0 _ rfl ((hr.1.drop _).take _) hXl (((bodyL l p).length - 48) / 16) (by omega) (by omega) (numsOf l p) (bootOf l p) rfl rfl (itemsOf l p) ?_ _ _ _ _ (hg 0 (by omega)) (hg 1 (by omega)) (hg 2 (by omega)) (hg 5 (by omega)) (entRC l p) ?_
    · unfold itemsOf; congr 1; rw [hL]; omega
    · unfold entRC; rw [if_neg (by rw [k2]; decide)]

theorem sizeOne {P : Program} {e : TypeId} (h : (P.info? e).map (·.size) = some 1) (w : World) : (sizeOf e).run P w = .ok 1 w := by
  cases hq : P.info? e with
  | none => simp [hq] at h
  | some i => have : i.size = 1 := by simpa [hq] using h
              simp [sizeOf, typeInfo, hq, this]
theorem Try.idT : BytesT Try.prog 29 16 := ⟨5, by kernel_rfl, by kernel_rfl, sizeOne (by kernel_rfl), by kernel_rfl, by kernel_rfl⟩
theorem entL_boots {s r m : Int} {B : List Int} {x : Int} {a : Option Addr} {n c : Nat} (j : Nat) (v : Value) (h : (B.map (Value.int .u8))[j]? = some v) : (entL s r m B x a n c).toArray[3 + j]? = some v := by
  have hl : j < B.length := by have := (List.getElem?_eq_some_iff.1 h).1; simpa using this
  simp only [entL, List.getElem?_toArray]
  rw [List.getElem?_append_right (by simp), List.getElem?_append_left (by simp; omega), ← h]
  simp
theorem AtB.mono {w w' : World} {b o : Nat} {B : List Int} (h : AtB w b o B) (hb : Below w.heap.size w w') : AtB w' b o B :=
  fun j v hv => bcell hb (World.block_lt_of_cell? w _ (h j v hv)) (h j v hv)

set_option maxRecDepth 100000 in
set_option maxHeartbeats 1000000 in
theorem samee_any (s r m x : Int) (B : List Int) (a a' : Option Addr) (n c c' : Nat) (ps : List PR) (w : World) (hB : IsB B) (hBl : B.length = 16) (hn : n ≤ 1000000) (hr : RdP w a n c ps) (hr' : RdP w a' n c' ps) :
    Calls Try.prog 23 #[entV s r m B x a n c, entV s r m B x a' n c'] w fun e w' => e = .returned (.bool true) ∧ Below w.heap.size w w' := by
  obtain rfl : ps.length = n := hr.1
  rw [entV_eq, entV_eq]
  have HBl := Lib.hid hBl
  have HBB := Lib.hid hB
  have HR := Lib.hid hr
  have HR' := Lib.hid hr'
  clear hBl hB hr hr'
  go_enter Try.func23, Try.ntmps23
  go_upto_region 1 with fail
  have hX1 := heap_alloc_new w (.cells (entL s r m B x a ps.length c).toArray 32)
  have hB1 := below_alloc w (.cells (entL s r m B x a ps.length c).toArray 32)
  have hz1 : (w.alloc (.cells (entL s r m B x a ps.length c).toArray 32)).heap.size = w.heap.size + 1 := by simp
  generalize w.alloc (.cells (entL s r m B x a ps.length c).toArray 32) = w1 at hX1 hB1 hz1 ⊢
  have hX2 := heap_alloc_new w1 (.cells (entL s r m B x a' ps.length c').toArray 39)
  have hB2 := below_alloc w1 (.cells (entL s r m B x a' ps.length c').toArray 39)
  have hX1' := row_below hB2 (lt_of_heap hX1) hX1
  rw [hz1] at hX2
  have HB2 := Lib.hid (hB1.trans (hB2.mono hB1.size))
  generalize w1.alloc (.cells (entL s r m B x a' ps.length c').toArray 39) = w2 at hX2 hX1' HB2 ⊢
  obtain ⟨S, hS⟩ : ∃ S, w.heap.size = S := ⟨_, rfl⟩
  have HS := Lib.hid hS
  rw [hS] at hX1' hX2 ⊢
  have HX1 := Lib.hid hX1'
  have HX2 := Lib.hid hX2
  have i0 : w2.cell? ⟨S, 0, none⟩ = some (.int .u64 s) := cell_of_heap hX1' 0 _ rfl
  have i1 : w2.cell? ⟨S, 1, none⟩ = some (.int .u64 r) := cell_of_heap hX1' 1 _ rfl
  have i2 : w2.cell? ⟨S, 2, none⟩ = some (.int .u64 m) := cell_of_heap hX1' 2 _ rfl
  have i19 := cell_of_heap hX1' 19 _ (entL_19 HBl.out)
  have i20 := cell_of_heap hX1' 20 _ (entL_20 HBl.out)
  have j0 : w2.cell? ⟨S + 1, 0, none⟩ = some (.int .u64 s) := cell_of_heap hX2 0 _ rfl
  have j1 : w2.cell? ⟨S + 1, 1, none⟩ = some (.int .u64 r) := cell_of_heap hX2 1 _ rfl
  have j2 : w2.cell? ⟨S + 1, 2, none⟩ = some (.int .u64 m) := cell_of_heap hX2 2 _ rfl
  have j19 := cell_of_heap hX2 19 _ (entL_19 HBl.out)
  have j20 := cell_of_heap hX2 20 _ (entL_20 HBl.out)
  have HL1 := Lib.hid (row_range (o := 3) hX1' B (fun j v h => entL_boots j v h))
  have HL2 := Lib.hid (row_range (o := 3) hX2 B (fun j v h => entL_boots j v h))
  clear hX1 hB1 hz1 hX2 hB2 hX1' hS
  go_wp2_with (first | (with_reducible refine wpList_loadBG rfl rfl Try.idT rfl HL1.out HBl.out ?_) | (with_reducible refine wpList_loadBG rfl rfl Try.idT rfl HL2.out HBl.out ?_) | (with_reducible refine wpList_neqBG rfl rfl Try.idT HBB.out HBB.out HBl.out HBl.out rfl rfl ?_))
  go_loopw [5] (fun i wz => ∃ k : Nat, k ≤ ps.length ∧ i = .int .i64 (k : Int) ∧ Below w2.heap.size w2 wz) (fun i _ => ps.length - (intOf i).toNat)
  case atStart => exact ⟨0, Nat.zero_le _, rfl, Below.refl _ _⟩
  case round =>
    obtain ⟨k, hk, rfl, hBz⟩ := hrel
    have HBZ := Lib.hid hBz
    have q20 := bcell hBz (lt_of_heap HX1.out) i20
    have p20 := bcell hBz (lt_of_heap HX2.out) j20
    clear hBz
    by_cases hlt : k < ps.length
    · obtain ⟨_, _, _, _, h5⟩ := HR.out.below (HB2.out.trans (HBZ.out.mono HB2.out.size))
      obtain ⟨_, _, _, _, h5'⟩ := HR'.out.below (HB2.out.trans (HBZ.out.mono HB2.out.size))
      obtain ⟨b, o, rfl, hbk, hcs⟩ := h5.resolve_left (by omega)
      obtain ⟨b', o', rfl, hbk', hcs'⟩ := h5'.resolve_left (by omega)
      obtain ⟨⟨u, v⟩, hp⟩ : ∃ p, ps[k]? = some p := ⟨_, List.getElem?_eq_getElem hlt⟩
      obtain ⟨c0, c1⟩ := hcs k _ hp
      obtain ⟨d0, d1⟩ := hcs' k _ hp
      simp only at c0 c1 d0 d1
      rw [show o + 2 * k = o + k * 2 by omega] at c0
      rw [show o + (2 * k + 1) = o + k * 2 + 1 by omega] at c1
      rw [show o' + 2 * k = o' + k * 2 by omega] at d0
      rw [show o' + (2 * k + 1) = o' + k * 2 + 1 by omega] at d1
      have hk0 : (0 : Int) ≤ (k : Int) := by omega
      have hk1 : (k : Int) < (ps.length : Int) := by omega
      clear hp hcs hcs' h5 h5'
      go_upto_region 6 with fail
      go_quiet (fail)
      go_wp2_with fail
      go_roundw
      case rel => exact ⟨k + 1, by omega, by congr 1, below_dN HBZ.out _⟩
      case measure => simp [intOf]; omega
    · have hge : ¬ ((k : Int) < (ps.length : Int)) := by omega
      go_wp2_with fail
      go_ret
      exact ⟨rfl, HB2.out.trans (HBZ.out.mono HB2.out.size)⟩

set_option maxRecDepth 100000 in
set_option maxHeartbeats 1000000 in
theorem sames_any (a a' : Option Addr) (n c c' : Nat) (ps : List PR) (w : World) (hn : n ≤ 1000000) (hr : RdP w a n c ps) (hr' : RdP w a' n c' ps) :
    Calls Try.prog 25 #[.slice a n c, .slice a' n c'] w fun e w' => e = .returned (.bool true) ∧ Below w.heap.size w w' := by
  obtain rfl : ps.length = n := hr.1
  have HR := Lib.hid hr
  have HR' := Lib.hid hr'
  clear hr hr'
  go_enter Try.func25, Try.ntmps25
  go_wp2_with fail
  go_loopw [5] (fun i wz => ∃ k : Nat, k ≤ ps.length ∧ i = .int .i64 (k : Int) ∧ Below w.heap.size w wz) (fun i _ => ps.length - (intOf i).toNat)
  case atStart => exact ⟨0, Nat.zero_le _, rfl, Below.refl _ _⟩
  case round =>
    obtain ⟨k, hk, rfl, hBz⟩ := hrel
    have HBZ := Lib.hid hBz
    clear hBz
    by_cases hlt : k < ps.length
    · obtain ⟨_, _, _, _, h5⟩ := HR.out.below HBZ.out
      obtain ⟨_, _, _, _, h5'⟩ := HR'.out.below HBZ.out
      obtain ⟨b, o, rfl, hbk, hcs⟩ := h5.resolve_left (by omega)
      obtain ⟨b', o', rfl, hbk', hcs'⟩ := h5'.resolve_left (by omega)
      obtain ⟨⟨u, v⟩, hp⟩ : ∃ p, ps[k]? = some p := ⟨_, List.getElem?_eq_getElem hlt⟩
      obtain ⟨c0, c1⟩ := hcs k _ hp
      obtain ⟨d0, d1⟩ := hcs' k _ hp
      simp only at c0 c1 d0 d1
      rw [show o + 2 * k = o + k * 2 by omega] at c0
      rw [show o + (2 * k + 1) = o + k * 2 + 1 by omega] at c1
      rw [show o' + 2 * k = o' + k * 2 by omega] at d0
      rw [show o' + (2 * k + 1) = o' + k * 2 + 1 by omega] at d1
      have hk0 : (0 : Int) ≤ (k : Int) := by omega
      have hk1 : (k : Int) < (ps.length : Int) := by omega
      clear hp hcs hcs' h5 h5'
      go_upto_region 6 with fail
      go_quiet (fail)
      go_wp2_with fail
      go_roundw
      case rel => exact ⟨k + 1, by omega, by congr 1, below_dN HBZ.out _⟩
      case measure => simp [intOf]; omega
    · have hge : ¬ ((k : Int) < (ps.length : Int)) := by omega
      go_wp2_with fail
      go_ret
      exact ⟨rfl, HBZ.out⟩

set_option maxRecDepth 100000 in
set_option maxHeartbeats 1000000 in
theorem samea_any (x : Int) (a a' : Option Addr) (n c c' : Nat) (l : List Int) (w : World) (hn : n ≤ 100000) (hv : ∀ v ∈ l, 0 ≤ v ∧ v ≤ 18446744073709551615) (hr : Rd (Value.int .u64) w a n c l) (hr' : Rd (Value.int .u64) w a' n c' l) :
    Calls Try.prog 24 #[.agg #[.int .u64 x, .slice a n c], .agg #[.int .u64 x, .slice a' n c']] w fun e w' => e = .returned (.bool true) ∧ Below w.heap.size w w' := by
  have HR := Lib.hid hr
  have HR' := Lib.hid hr'
  clear hr hr'
  go_enter Try.func24, Try.ntmps24
  go_upto_region 1 with fail
  have hX1 := heap_alloc_new w (.cells #[.int .u64 x, .slice a n c] 35)
  have hB1 := below_alloc w (.cells #[.int .u64 x, .slice a n c] 35)
  have hz1 : (w.alloc (.cells #[.int .u64 x, .slice a n c] 35)).heap.size = w.heap.size + 1 := by simp
  generalize w.alloc (.cells #[.int .u64 x, .slice a n c] 35) = w1 at hX1 hB1 hz1 ⊢
  have hX2 := heap_alloc_new w1 (.cells #[.int .u64 x, .slice a' n c'] 52)
  have hB2 := below_alloc w1 (.cells #[.int .u64 x, .slice a' n c'] 52)
  have hX1' := row_below hB2 (lt_of_heap hX1) hX1
  rw [hz1] at hX2
  have HB2 := Lib.hid (hB1.trans (hB2.mono hB1.size))
  generalize w1.alloc (.cells #[.int .u64 x, .slice a' n c'] 52) = w2 at hX2 hX1' HB2 ⊢
  have i0 : w2.cell? ⟨w.heap.size, 0, none⟩ = some (.int .u64 x) := cell_of_heap hX1' 0 _ rfl
  have i1 : w2.cell? ⟨w.heap.size, 1, none⟩ = some (.slice a n c) := cell_of_heap hX1' 1 _ rfl
  have j0 : w2.cell? ⟨w.heap.size + 1, 0, none⟩ = some (.int .u64 x) := cell_of_heap hX2 0 _ rfl
  have j1 : w2.cell? ⟨w.heap.size + 1, 1, none⟩ = some (.slice a' n c') := cell_of_heap hX2 1 _ rfl
  have HSP := Lib.hid (sameplaces_yes a n c a' c' l w2 (HR.out.mono HB2.out) (HR'.out.mono HB2.out) hv hn)
  clear hX1 hB1 hz1 hX2 hB2 hX1' hv
  go_wp2_with fail
  with_reducible refine HSP.out.mono ?_
  rintro e w3 ⟨rfl, hb3⟩
  go_wp2_with fail
  go_ret
  exact ⟨rfl, HB2.out.trans (hb3.mono HB2.out.size)⟩
end Go.Proofs.Ytojjgagcpkjkaaa
