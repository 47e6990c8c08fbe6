/- What the law copies: rows of a known type; the law's copy of bytes, beside leavers. Conditions stand as premises. -/
import Derived.Test.YtiobhgemjbjipaaPmPumpApd
import Derived.Test.YtiobhgemjbjipaaPmPumpEnd
import Derived.Test.YtiobhgemjbjipaaPmPumpLast
import Derived.Test.YtiobhgemjbjipaaPmPumpApp
set_option linter.unusedSimpArgs false
set_option linter.unusedVariables false
namespace Go.Proofs.Ytiobhgemjbjipaa
open Go.Conc Go.RowKit Go.Conc.Lib
section
variable {Old Old' : Nat → Prop} {w w' : World} {V : Value} {ty ty2 : TypeId} {VS : List Value} {bs : List Int} {M : List (List Int)} {L : List (List (List Int))} {row : Option Nat} {base n : Nat} {v : Value} {xs : List Value}
/-- A slice whose row is of this type. -/
def SlT (Old : Nat → Prop) (w : World) (ty : TypeId) (V : Value) (VS : List Value) : Prop :=
  ∃ a c, V = .slice a VS.length c ∧ VS.length ≤ c ∧ c ≤ maxLen ∧ (a = none → c = 0) ∧ (VS.length = 0 ∨ ∃ b off cur, a = some ⟨b, off, none⟩ ∧ ¬ Old b ∧ w.heap[b]? = some (.cells cur ty (0, 0)) ∧ ∀ k v, VS[k]? = some v → w.cell? ⟨b, off + k, none⟩ = some v)
theorem SlT.sl (h : SlT Old w ty V VS) : SlOf Old w V VS := by
  obtain ⟨a, c, h1, h2, h3, h4, h5⟩ := h
  refine ⟨a, c, h1, h2, h3, h4, h5.imp id ?_⟩
  rintro ⟨b, off, cur, k1, k2, k3, k4⟩
  exact ⟨b, off, k1, lt_of_heap k3, k2, k4⟩
/-- Rows of these types are as they were. -/
def KeepT (w w' : World) (ty : TypeId) : Prop := ∀ (b : Nat) cur, w.heap[b]? = some (Obj.cells cur ty (0, 0)) → w'.heap[b]? = w.heap[b]?
theorem KeepT.ext (e : Ext Old Old' w w') : KeepT w w' ty := fun b _ h => e.low b (lt_of_heap h)
theorem KeepT.grown (g : w.grownBy w' v.ownBlock) (own : w.ownsRow base ty2 1 v n xs) (hne : ty ≠ ty2) : KeepT w w' ty := fun b cur h => by
  refine g.block b (lt_of_heap h) fun e => ?_
  rcases own.2 with ⟨rfl, _⟩ | ⟨g0, cap, cur', rfl, _, hg, _⟩
  · cases e
  · cases e
    rw [hg] at h
    simp only [Option.some.injEq, Obj.cells.injEq] at h
    exact hne h.2.1.symm
theorem SlT.keep (h : SlT Old w ty V VS) (hk : KeepT w w' ty) : SlT Old w' ty V VS := by
  obtain ⟨a, c, h1, h2, h3, h4, h5⟩ := h
  refine ⟨a, c, h1, h2, h3, h4, h5.imp id ?_⟩
  rintro ⟨b, off, cur, k1, k2, k3, k4⟩
  exact ⟨b, off, cur, k1, k2, (hk b cur k3).trans k3, fun k v hv => (cell_same (a := ⟨b, off + k, none⟩) (hk b cur k3)).trans (k4 k v hv)⟩
def R1B (Old : Nat → Prop) (w : World) (V : Value) (bs : List Int) : Prop := SlT Old w 5 V (bs.map (Value.int .u8)) ∧ IsB bs
def R2B (Old : Nat → Prop) (w : World) (V : Value) (M : List (List Int)) : Prop := ∃ VS, SlT Old w 30 V VS ∧ Al (R1B Old w) VS M
theorem R1B.keep (h : R1B Old w V bs) (hk : KeepT w w' 5) : R1B Old w' V bs := ⟨h.1.keep hk, h.2⟩
theorem R2B.keep (h : R2B Old w V M) (hk : KeepT w w' 5) (hk2 : KeepT w w' 30) : R2B Old w' V M := by
  obtain ⟨VS, h1, h2⟩ := h
  exact ⟨VS, h1.keep hk2, h2.imp fun _ _ x => x.keep hk⟩
theorem R2B.r2 (h : R2B Old w V M) : R2 Old w V M := by
  obtain ⟨VS, h1, h2⟩ := h
  exact ⟨VS, h1.sl, h2.imp fun _ _ x => ⟨x.1.sl, x.2⟩⟩
theorem SlT.own (h : w.ownsRow base ty 1 v n xs) (hold : ∀ b, Old b → b < base) : SlT Old w ty v xs := by
  have hl : xs.length = n := by have := h.1; omega
  have hc := fun g hg => World.ownsRow.cells h (g := g) hg
  rcases h.2 with ⟨rfl, h0⟩ | ⟨g, cap, cur, rfl, hbg, hg, hnc, hcm, _, _⟩
  · exact ⟨none, 0, by rw [hl, h0], by omega, Nat.zero_le _, fun _ => rfl, .inl (by omega)⟩
  · refine ⟨_, _, by rw [hl], by omega, hcm, fun h => (by cases h), .inr ⟨g, 0, cur, rfl, fun x => by have := hold _ x; omega, hg, fun k u hk => ?_⟩⟩
    have := hc g rfl k u hk
    rwa [addr_add] at this
theorem ownsRow_ext (h : w.ownsRow base ty 1 v n xs) (e : Ext Old Old' w w') : w'.ownsRow base ty 1 v n xs := by
  refine ⟨h.1, h.2.imp id ?_⟩
  rintro ⟨g, cap, cur, rfl, hbg, hg, h5⟩
  exact ⟨g, cap, cur, rfl, hbg, (e.low g (lt_of_heap hg)).trans hg, h5⟩
theorem owns_nil : w.ownsRow base ty 1 (.slice none 0 0) 0 [] := ⟨rfl, .inl ⟨rfl, rfl⟩⟩
theorem al_snoc {α β : Type} {R : α → β → Prop} {l : List α} {m : List β} {x : α} {y : β} (h : Al R l m) (hr : R x y) : Al R (l ++ [x]) (m ++ [y]) := by
  refine ⟨by simp [h.1], fun k v z h1 h2 => ?_⟩
  rw [List.getElem?_append] at h1 h2
  have e := h.1
  by_cases hk : k < l.length
  · rw [if_pos hk] at h1
    rw [if_pos (by omega)] at h2
    exact h.2 k v z h1 h2
  · rw [if_neg hk] at h1
    rw [if_neg (by omega)] at h2
    match hj : k - l.length, h1 with
    | 0, h1 =>
      rw [← e, hj] at h2
      simp only [List.getElem?_cons_zero, Option.some.injEq] at h1 h2
      subst h1 h2
      exact hr
    | j + 1, h1 => simp at h1
end
theorem take_app {α : Type} {l : List α} {i : Nat} {x : α} (h : l[i]? = some x) : l.take (i + 1) = l.take i ++ [x] := by
  rw [List.take_add_one, h]
  rfl
theorem nm_bytes : (Try.f12.name == "runtime.NumGoroutine") = false := by kernel_rfl
variable {Old : Nat → Prop} {w : World} {Post : Value → World → Prop} {m : Nat} {b₀ : Frame} {a₀ : Act} {ops₀ : Array Oper} {i₀ : Nat} {rest₀ : List Nat} {k₀ : List Item} {cs : List Frame}
variable {a : Option Addr} {n c : Nat} {bs : List Int}
noncomputable def bodyBy : Code := (Try.f12).body.getD .skip
set_option maxRecDepth 100000 in
set_option maxHeartbeats 8000000 in
theorem bytes_ok (hR : R1 Old w (.slice a n c) bs) (hn : n ≤ 1000000) (hold : ∀ b, Old b → b < w.heap.size)
    (hS : ∀ V w', Ext Old Old w w' → R1B Old w' V bs → Ok Try.prog Post Old m (G (b₀.at (a₀.put ((ops₀[i₀]?).bind (·.dst)) V) (.inRegion ops₀ rest₀ :: k₀)) cs) w') :
    Ok Try.prog Post Old m (G ((base 12).at ⟨#[.slice a n c, undef, undef, undef, undef, undef], []⟩ [.code bodyBy]) ((b₀.at a₀ (.inRegion ops₀ (i₀ :: rest₀) :: k₀)) :: cs)) w := by
  obtain rfl := hR.len
  simp only [bodyBy, Try.f12, Option.getD_some]
  refine Ok.step rfl (fun _ h₁ => ?_)
  obtain ⟨d, rfl⟩ := h₁
  rw [stepG_seq]
  simp only [goes_go]
  refine ⟨ok_none _, Ok.at ?_⟩
  clear d
  refine Ok.step rfl (fun _ h₁ => ?_)
  obtain ⟨d, rfl⟩ := h₁
  rw [stepG_region]
  simp only [goes_go, List.size_toArray, List.length_cons, List.length_nil, Nat.reduceAdd, Nat.zero_add, List.range, List.range.loop]
  refine ⟨ok_none _, Ok.at ?_⟩
  clear d
  refine Ok.step rfl (fun _ h₁ => ?_)
  obtain ⟨d, rfl⟩ := h₁
  refine goes_oper_k rfl rfl (by decide) (fun K hK => ?_)
  go_simp
  refine hK _ _ ⟨⟨Nat.le_refl _, fun e he => ?_⟩, Ok.at ?_⟩
  · have hm := mem_listed he
    simp [go_sem] at hm
  clear hK K d
  refine Ok.step rfl (fun _ h₁ => ?_)
  obtain ⟨d, rfl⟩ := h₁
  rw [stepG_region_end]
  simp only [goes_go]
  refine ⟨ok_none _, Ok.at ?_⟩
  clear d
  refine Ok.step rfl (fun _ h₁ => ?_)
  obtain ⟨d, rfl⟩ := h₁
  rw [stepG_seq]
  simp only [goes_go]
  refine ⟨ok_none _, Ok.at ?_⟩
  clear d
  refine Ok.step rfl (fun _ h₁ => ?_)
  obtain ⟨d, rfl⟩ := h₁
  rw [stepG_region]
  simp only [goes_go, List.size_toArray, List.length_cons, List.length_nil, Nat.reduceAdd, Nat.zero_add, List.range, List.range.loop]
  refine ⟨ok_none _, Ok.at ?_⟩
  clear d
  refine Ok.opv rfl rfl (by decide) (fun _ h₁ => ?_)
  obtain ⟨d, rfl⟩ := h₁
  refine ⟨.slice (some ⟨w.heap.size, 0, none⟩) 0 0, (w.at d).alloc (.cells #[] 5), by simp [go_sem, execOp, World.at], by simp, fun e he => ?_, ?_⟩
  · simp [go_sem, execOp] at he
  rw [show (w.at d).alloc (.cells #[] 5) = (w.alloc (.cells #[] 5)).at d from rfl]
  refine Ok.at ?_
  clear d
  have e1 : Ext Old Old w (w.alloc (.cells #[] 5)) := Ext.alloc Old w _
  have hR1 := hR.ext e1
  have hb0 := e1.size
  have hlo : w.heap.size < (w.alloc (.cells #[] 5)).heap.size := by simp
  obtain ⟨w1, hw1⟩ : ∃ w1, w1 = w.alloc (.cells #[] 5) := ⟨_, rfl⟩
  rw [← hw1] at e1 hR1 hb0 hlo ⊢
  clear hw1
  have hold1 : ∀ b, Old b → b < w1.heap.size := fun b hb => Nat.lt_of_lt_of_le (hold b hb) hb0
  walk_nrm
  refine Ok.step rfl (fun _ h₁ => ?_)
  obtain ⟨d, rfl⟩ := h₁
  refine goes_oper_k rfl rfl (by decide) (fun K hK => ?_)
  go_simp
  refine hK _ _ ⟨⟨Nat.le_refl _, fun e he => ?_⟩, Ok.at ?_⟩
  · have hm := mem_listed he
    simp [go_sem] at hm
  clear hK K d
  rcases hl : bs.length with _ | q
  ·
    refine Ok.opv rfl rfl (by decide) (fun _ h₁ => ?_)
    obtain ⟨d, rfl⟩ := h₁
    obtain ⟨hr, hev⟩ := append_none (ty := 30) (w := w1.at d) Try.oneBy ⟨w.heap.size, 0, none⟩ a c
    refine ⟨_, _, run_append_op (.tmp 3) (.tmp 4) 30 rfl rfl (by simp only [Act.eval]; rfl) hr, Nat.le_refl _, fun e he => ?_, ?_⟩
    · rw [events_append_op (.tmp 3) (.tmp 4) 30 rfl rfl (by simp only [Act.eval]; rfl)] at he
      exact (hev e he).elim
    refine Ok.at ?_
    clear hr hev d
    walk_nrm
    refine Ok.step rfl (fun _ h₁ => ?_)
    obtain ⟨d, rfl⟩ := h₁
    refine goes_oper_k rfl rfl (by decide) (fun K hK => ?_)
    go_simp
    refine hK _ _ ⟨⟨Nat.le_refl _, fun e he => ?_⟩, Ok.at ?_⟩
    · have hm := mem_listed he
      simp [go_sem] at hm
    clear hK K d
    refine Ok.step rfl (fun _ h₁ => ?_)
    obtain ⟨d, rfl⟩ := h₁
    rw [stepG_region_end]
    simp only [goes_go]
    refine ⟨ok_none _, Ok.at ?_⟩
    clear d
    refine Ok.step rfl (fun _ h₁ => ?_)
    obtain ⟨d, rfl⟩ := h₁
    rw [stepG_ret']
    simp only [goes_go]
    refine ⟨ok_none _, Ok.at ?_⟩
    clear d
    refine Ok.step rfl (fun _ h₁ => ?_)
    obtain ⟨d, rfl⟩ := h₁
    refine goes_leave1 rfl rfl Try.func12 rfl ⟨ok_none _, Ok.at ?_⟩
    clear d
    walk_nrm
    exact hS _ _ e1 (by rw [List.length_eq_zero_iff.1 hl]; exact ⟨⟨_, _, rfl, Nat.le_refl _, Nat.zero_le _, fun h => (by cases h), .inl rfl⟩, fun x hx => by cases hx⟩)
  ·
    obtain ⟨sb, so, rfl, hsb, hso, hsc⟩ : ∃ b off, a = some ⟨b, off, none⟩ ∧ b < w1.heap.size ∧ ¬ Old b ∧ Cells (Value.int .u8) w1 b off bs := by
      obtain ⟨⟨a', c', k1, k2, k3, k4, k5⟩, _⟩ := id hR1
      simp only [Value.slice.injEq] at k1
      obtain ⟨rfl, k1, rfl⟩ := k1
      rcases k5 with k5 | ⟨b, off, rfl, k6, k7, k8⟩
      · simp at k5
        rw [k5] at hl
        cases hl
      · exact ⟨b, off, rfl, k6, k7, fun j y hj => k8 j _ (by rw [List.getElem?_map, hj]; rfl)⟩
    rw [← hl]
    have hlp : 0 < bs.length := by omega
    clear hl
    refine Ok.opv rfl rfl (by decide) (fun _ h₁ => ?_)
    obtain ⟨d, rfl⟩ := h₁
    obtain ⟨cap, w2, hr, hge, hcm, hcells, ⟨cur, hcur⟩, hbelow, hsz, hev⟩ := append_empty (enc := Value.int .u8) (l := bs) (ty := 30) (w := w1.at d) Try.oneBy ⟨w.heap.size, 0, none⟩ (c := c) (b := sb) (off := so) rfl (by omega) hsc (by omega) (by omega)
    refine ⟨_, w2, run_append_op (.tmp 3) (.tmp 4) 30 rfl rfl (by simp only [Act.eval]; rfl) hr, hbelow.size, fun e he => ?_, ?_⟩
    · rw [events_append_op (.tmp 3) (.tmp 4) 30 rfl rfl (by simp only [Act.eval]; rfl)] at he
      rcases hev e he with ⟨ad, sy, rfl, hab⟩ | rfl
      · exact evO_cell (by rw [hab]; exact Nat.lt_of_lt_of_le hsb hbelow.size) (by rw [hab]; exact hso)
      · exact .inr (.inr rfl)
    have e2 : Ext Old Old w w2 := e1.trans ⟨hbelow.size, hbelow.block, fun _ x => .inl x, ⟨hbelow.os, hbelow.output⟩⟩
    have hnew : R1B Old w2 (.slice (some ⟨w1.heap.size, 0, none⟩) bs.length cap) bs := by
      refine ⟨⟨some ⟨w1.heap.size, 0, none⟩, cap, by rw [List.length_map], by rw [List.length_map]; exact hge, hcm, fun h => (by cases h), .inr ⟨w1.heap.size, 0, cur, rfl, fun x => by have := hold1 _ x; omega, hcur, fun k v hv => ?_⟩⟩, hR1.2⟩
      rw [List.getElem?_map] at hv
      obtain ⟨y, hy, rfl⟩ := Option.map_eq_some_iff.1 hv
      exact hcells k y hy
    have hz : ((w1.at d).heap.size) = w1.heap.size := rfl
    simp only [hz]
    clear hr hev hcells hcur hbelow hsz hz d
    walk_nrm
    refine Ok.step rfl (fun _ h₁ => ?_)
    obtain ⟨d, rfl⟩ := h₁
    refine goes_oper_k rfl rfl (by decide) (fun K hK => ?_)
    go_simp
    refine hK _ _ ⟨⟨Nat.le_refl _, fun e he => ?_⟩, Ok.at ?_⟩
    · have hm := mem_listed he
      simp [go_sem] at hm
    clear hK K d
    refine Ok.step rfl (fun _ h₁ => ?_)
    obtain ⟨d, rfl⟩ := h₁
    rw [stepG_region_end]
    simp only [goes_go]
    refine ⟨ok_none _, Ok.at ?_⟩
    clear d
    refine Ok.step rfl (fun _ h₁ => ?_)
    obtain ⟨d, rfl⟩ := h₁
    rw [stepG_ret']
    simp only [goes_go]
    refine ⟨ok_none _, Ok.at ?_⟩
    clear d
    refine Ok.step rfl (fun _ h₁ => ?_)
    obtain ⟨d, rfl⟩ := h₁
    refine goes_leave1 rfl rfl Try.func12 rfl ⟨ok_none _, Ok.at ?_⟩
    clear d
    walk_nrm
    exact hS _ _ e2 hnew
end Go.Proofs.Ytiobhgemjbjipaa
