/- What the methods of the document's own Net compute: Take, Double, Spoil. Conditions stand as premises. -/
import Derived.Test.YtnbikaiejeclnaaRefNet
namespace Go.Proofs.Ytnbikaiejeclnaa
open Go.ChangeShapes Go.WideShapes Go.ChangeAt Go.RowKit
set_option linter.unusedVariables false

theorem erase_eq' {α : Type} (vs : List α) (i : Nat) : vs.take i ++ vs.drop (i + 1) = vs.eraseIdx i := by rw [List.eraseIdx_eq_take_drop_succ]

theorem rtake_bad (kI iI code : Int) (v : Value) (hne : (code != 0) = true) (w : World) (hg : Calls Try.prog 31 #[v, .int .i64 kI, .int .i64 iI] w fun e w' => e = .returned (.int .i64 code) ∧ w = w') :
    Calls Try.prog 23 #[v, .int .i64 kI, .int .i64 iI] w fun e w' => e = .returned (.tuple #[.slice none 0 0, .int .i64 code]) ∧ w = w' := by
  have HG := Lib.hid hg
  clear hg
  go_enter Try.func23, Try.ntmps23
  go_wp2_with (go_at_call 31; refine HG.out.mono ?_; rintro e w' ⟨rfl, rfl⟩)
  go_ret2
  exact ⟨rfl, rfl⟩

set_option maxHeartbeats 2000000 in
theorem rtake_yes (p k i : Nat) (kI iI : Int) (base : Nat) (X Y : RowV) (v : Option Addr × Nat × Nat) (l : List Int) (w : World) (h : NetAt w base p k X Y) (hkI : kI = k) (hiI : iI = i) (hi : i < X.n) (h48 : X.n ≤ 1000000) (hv : X.vs[i]? = some v) (hl : X.ls[i]? = some l) :
    Calls Try.prog 23 #[.pointer (some ⟨p, 0, none⟩), .int .i64 kI, .int .i64 iI] w (TakeP w base p k X Y v l (X.ls.eraseIdx i)) := by
  subst hiI
  have hk := h.way
  have hc := h.c0
  have hf := h.f0
  have hpl := h.lt
  have hbs : base ≤ w.heap.size := Nat.le_trans h.le (Nat.le_of_lt h.lt)
  obtain ⟨g, ha, hg1, hg2⟩ := h.x.own.at (by omega)
  have hown := h.x.own
  rw [ha] at hown
  have h63 := hown.rd.2.2.1
  have hcap := hown.rd.2.1
  unfold maxLen at h63
  rw [ha] at hc
  have hwr : IntKind.i64.wrap ((i : Int) + 1) = (i : Int) + 1 := IntWalk.i64_in _ (by omega)
  have HG := Lib.hid (rask_yes p k kI i base X Y w h hkI (by omega) (by omega))
  have HH := Lib.hid h
  have hcell := hown.cell i v hv
  obtain ⟨va, vn, vc⟩ := v
  simp only [encS] at hcell
  have HV := Lib.hid hv
  have HL := Lib.hid hl
  have HVL := Lib.hid hown.1
  obtain ⟨A, hA, hRA⟩ : ∃ A : Addr, (if X.c = i + 1 then some (⟨g, 0, none⟩ : Addr) else some ⟨g, i + 1, none⟩) = some A ∧ Hid (∀ w', Below w.heap.size w w' → Rd encS w' (some A) (X.n - (i + 1)) (X.c - (i + 1)) (X.vs.drop (i + 1))) := by
    have hs := fun w' (hb : Below w.heap.size w w') => (hown.rd.mono hb).sliced (i + 1) X.n (by omega) (Nat.le_refl _)
    have hd : (X.vs.drop (i + 1)).take (X.n - (i + 1)) = X.vs.drop (i + 1) := List.take_of_length_le (by rw [List.length_drop, hown.1]; omega)
    rw [hd] at hs
    by_cases h : X.c = i + 1
    · refine ⟨⟨g, 0, none⟩, by rw [if_pos h], fun w' hb => ?_⟩
      have := hs w' hb
      rwa [if_pos h] at this
    · refine ⟨⟨g, i + 1, none⟩, by rw [if_neg h], fun w' hb => ?_⟩
      have := hs w' hb
      rw [if_neg h] at this
      simpa [addr_add] using this
  have hbA : Below w.heap.size w (w.drew.alloc (.cells #[] 29)) := (below_drew w).alloc (Nat.le_refl _) _
  have hoA : Own encS 29 (w.drew.alloc (.cells #[] 29)) w.heap.size (some ⟨w.heap.size, 0, none⟩) 0 0 [] := Own.lit [] _ 0 rfl rfl (Nat.le_refl _) (Nat.zero_le _)
  have hrA := (hown.rd.take i (by omega)).mono hbA
  have hzA := hbA.size
  have hcA := bcell hbA hpl hc
  have hi1 : (i : Int) < (X.n : Int) := by omega
  have hIc1 : i ≤ X.c := by omega
  have hIc2 : (0 : Int) ≤ (i : Int) + 1 := by omega
  have hIc3 : (i : Int) + 1 ≤ (X.n : Int) := by omega
  have hIc4 : i + 1 ≤ X.c := by omega
  have hf1 : (0 + i) * 24 ≤ 140737488355328 := by omega
  have hf2 : 0 + i ≤ 140737488355328 := by omega
  have hf3 : (i + (X.n - (i + 1))) * 24 ≤ 140737488355328 := by omega
  have hf4 : i + (X.n - (i + 1)) ≤ 140737488355328 := by omega
  have HA := Lib.hid ha
  clear h hv hl ha hown
  rcases (by omega : k = 0 ∨ k = 1) with rfl | rfl
  · obtain rfl : kI = 0 := hkI
    go_enter Try.func23, Try.ntmps23
    go_wp2_with (go_at_call 31; refine HG.out.mono ?_; rintro e w' ⟨rfl, rfl⟩)
    go_region_law (first | (refine step_appAt (s := .tmp 28) (x := .tmp 36) rfl rfl Try.oneBB rfl rfl hoA hrA (fun _ => rfl) hf1 hf2 hzA ?_; intro a1 c1 w1 ho1 hu1 hat1; simp only [Nat.zero_add, List.nil_append] at ho1; have hB1 := hbA.trans (hu1.below (B := w.heap.size) hzA (fun q hq => by obtain ⟨x, hx, rfl⟩ := mem_blk.1 hq; cases hx; exact Nat.le_refl _)); have hz1 := hB1.size; have hc1 := bcell hB1 hpl hc; have hrB := hRA.out w1 hB1) | (refine step_appAt (s := .tmp 37) (x := .tmp 46) rfl rfl Try.oneBB rfl rfl ho1 hrB (fun _ => rfl) hf3 hf4 hz1 ?_; intro a2 c2 w2 ho2 hu2 hat2; have hB2 := hB1.trans (hu2.below (B := w.heap.size) hz1 (fun q hq => by obtain ⟨x, hx, rfl⟩ := mem_blk.1 hq; exact (ho1.lt x hx).1)); have hc2 := bcell hB2 hpl hc; have hf2a := bfree hB2 hpl hf; rw [show i + (X.n - (i + 1)) = X.n - 1 by omega] at ho2 ⊢))
    all_goals
      go_wp2
      go_ret2
      rw [erase_eq'] at ho2
      have ht := HH.out.took (F := fun _ => False) (w2 := w2) (a2 := a2) (c2 := c2) (by rw [HVL.out]; exact hi) (ho2.base hbs) (Upd.ofBelow hB2) (fun j _ hj => hj.elim) (fun j hj => .inr (by obtain ⟨x, hx, rfl⟩ := mem_blk.1 hj; exact (ho2.lt x hx).1))
      exact ⟨rfl, ⟨_, rfl, ht.1⟩, ht.2 _ _ HV.out HL.out⟩
  · obtain rfl : kI = 1 := hkI
    go_enter Try.func23, Try.ntmps23
    go_wp2_with (go_at_call 31; refine HG.out.mono ?_; rintro e w' ⟨rfl, rfl⟩)
    go_region_law (first | (refine step_appAt (s := .tmp 28) (x := .tmp 36) rfl rfl Try.oneBB rfl rfl hoA hrA (fun _ => rfl) hf1 hf2 hzA ?_; intro a1 c1 w1 ho1 hu1 hat1; simp only [Nat.zero_add, List.nil_append] at ho1; have hB1 := hbA.trans (hu1.below (B := w.heap.size) hzA (fun q hq => by obtain ⟨x, hx, rfl⟩ := mem_blk.1 hq; cases hx; exact Nat.le_refl _)); have hz1 := hB1.size; have hc1 := bcell hB1 hpl hc; have hrB := hRA.out w1 hB1) | (refine step_appAt (s := .tmp 37) (x := .tmp 46) rfl rfl Try.oneBB rfl rfl ho1 hrB (fun _ => rfl) hf3 hf4 hz1 ?_; intro a2 c2 w2 ho2 hu2 hat2; have hB2 := hB1.trans (hu2.below (B := w.heap.size) hz1 (fun q hq => by obtain ⟨x, hx, rfl⟩ := mem_blk.1 hq; exact (ho1.lt x hx).1)); have hc2 := bcell hB2 hpl hc; have hf2a := bfree hB2 hpl hf; rw [show i + (X.n - (i + 1)) = X.n - 1 by omega] at ho2 ⊢))
    all_goals
      go_wp2
      go_ret2
      rw [erase_eq'] at ho2
      have ht := HH.out.took (F := fun _ => False) (w2 := w2) (a2 := a2) (c2 := c2) (by rw [HVL.out]; exact hi) (ho2.base hbs) (Upd.ofBelow hB2) (fun j _ hj => hj.elim) (fun j hj => .inr (by obtain ⟨x, hx, rfl⟩ := mem_blk.1 hj; exact (ho2.lt x hx).1))
      exact ⟨rfl, ⟨_, rfl, ht.1⟩, ht.2 _ _ HV.out HL.out⟩

theorem rdouble_bad (kI iI code : Int) (v : Value) (hne : (code != 0) = true) (w : World) (hg : Calls Try.prog 31 #[v, .int .i64 kI, .int .i64 iI] w fun e w' => e = .returned (.int .i64 code) ∧ w = w') :
    Calls Try.prog 29 #[v, .int .i64 kI, .int .i64 iI] w fun e w' => e = .returned (.int .i64 code) ∧ w = w' := by
  have HG := Lib.hid hg
  clear hg
  go_enter Try.func29, Try.ntmps29
  go_wp2_with (go_at_call 31; refine HG.out.mono ?_; rintro e w' ⟨rfl, rfl⟩)
  go_ret
  exact ⟨rfl, rfl⟩

theorem rdouble_of (p k i : Nat) (kI iI code : Int) (base : Nat) (X Y : RowV) (v : Option Addr × Nat × Nat) (w : World) (R : World → Prop) (h : NetAt w base p k X Y) (hkI : kI = k) (hiI : iI = i) (hi : i < X.n) (hv : X.vs[i]? = some v)
    (hs : Calls Try.prog 28 #[.pointer (some ⟨p, 0, none⟩), .int .i64 kI, .slice v.1 v.2.1 v.2.2] w fun e w' => e = .returned (.int .i64 code) ∧ R w') :
    Calls Try.prog 29 #[.pointer (some ⟨p, 0, none⟩), .int .i64 kI, .int .i64 iI] w fun e w' => e = .returned (.int .i64 code) ∧ R w' := by
  subst hiI
  have hk := h.way
  have hc := h.c0
  obtain ⟨g, ha, hg1, hg2⟩ := h.x.own.at (by omega)
  have hown := h.x.own
  rw [ha] at hown
  have h63 := hown.rd.2.2.1
  have hcap := hown.rd.2.1
  unfold maxLen at h63
  rw [ha] at hc
  have HG := Lib.hid (rask_yes p k kI i base X Y w h hkI (by omega) (by omega))
  have hcell := hown.cell i v hv
  obtain ⟨va, vn, vc⟩ := v
  simp only [encS] at hcell hs
  have HS := Lib.hid hs
  have hi1 : (i : Int) < (X.n : Int) := by omega
  clear h hv ha hown hs
  rcases (by omega : k = 0 ∨ k = 1) with rfl | rfl
  · obtain rfl : kI = 0 := hkI
    go_enter Try.func29, Try.ntmps29
    go_wp2_with (first | (go_at_call 31; refine HG.out.mono ?_; rintro e w' ⟨rfl, rfl⟩) | (go_at_call 28; refine HS.out.mono ?_; rintro e w' ⟨rfl, hR⟩; have HR := Lib.hid hR; clear hR))
    go_ret
    exact ⟨rfl, HR.out⟩
  · obtain rfl : kI = 1 := hkI
    go_enter Try.func29, Try.ntmps29
    go_wp2_with (first | (go_at_call 31; refine HG.out.mono ?_; rintro e w' ⟨rfl, rfl⟩) | (go_at_call 28; refine HS.out.mono ?_; rintro e w' ⟨rfl, hR⟩; have HR := Lib.hid hR; clear hR))
    go_ret
    exact ⟨rfl, HR.out⟩
end Go.Proofs.Ytnbikaiejeclnaa
