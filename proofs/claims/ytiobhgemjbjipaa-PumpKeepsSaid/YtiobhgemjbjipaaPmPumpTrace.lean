/- The trace's law by permissions: who may read a place knows all its writes, who may write it knows all its touches; then no race comes. Conditions stand as premises. -/
import Derived.Conc.CrowdTrace
import Derived.Conc.TokenTrace
namespace Go.Proofs.Ytiobhgemjbjipaa
open Go.Conc
open Go.ConcN (PermW fork_knows)
set_option linter.unusedVariables false
section
variable {Sh : Loc → Prop} {may own may' own' : Nat → Loc → Prop} {t u : Trace} {g : Nat}
/-- Nobody touches a place of Sh plainly. -/
def Mild (Sh : Loc → Prop) (t : Trace) : Prop := ∀ i a, touchAt t i = some a → Sh a.loc → a.kind ≠ .plain
theorem Mild.app {Sh : Loc → Prop} {t u : Trace} (h : Mild Sh t) (hu : ∀ op ∈ u, ∀ x, op.act.touch? = some x → Sh x.loc → x.kind ≠ .plain) : Mild Sh (t ++ u) := by
  intro i a ha hs
  obtain ⟨op, hop, hox⟩ := touch_of ha
  rcases getElem?_append_cases hop with ⟨_, hop'⟩ | ⟨_, hou⟩
  · exact h i a (by rw [touchAt_of hop']; exact hox) hs
  · exact hu op hou a hox hs
/-- Goroutine g may read a place of 'may g', may write one of 'own g'; the places of 'Sh' are touched by sync operations alone. -/
structure PT (Sh : Loc → Prop) (may own : Nat → Loc → Prop) (t : Trace) : Prop where
  quiet : Mild Sh t
  red : ∀ g l, may g l → PermW t g l
  wr : ∀ g l, own g l → Perm t g l
  nr : ∀ said, ¬ Race said t
/-- Who may write is the only one who may touch. -/
structure Sole (Sh : Loc → Prop) (may own : Nat → Loc → Prop) : Prop where
  one : ∀ g g' l, own g l → may g' l → g' = g
  sub : ∀ g l, own g l → may g l
  sh : ∀ g l, may g l → ¬ Sh l
/-- What goroutine g may do. -/
def OkP (Sh : Loc → Prop) (may own : Nat → Loc → Prop) (t : Trace) (g : Nat) (op : MemOp) : Prop :=
  op.g = g ∧ ∀ x, op.act.touch? = some x → (Sh x.loc ∧ x.kind ≠ .plain ∧ (x.kind = .said → ∀ i a, touchAt t i = some a → a.loc = x.loc → a.kind = .said → (a.write = true ∨ x.write = true) → Knows t g i)) ∨ own g x.loc ∨ (may g x.loc ∧ x.write = false)
theorem PT.app (S : Sole Sh may own) (h : PT Sh may own t) (hu : ∀ op ∈ u, OkP Sh may own t g op) : PT Sh may own (t ++ u) := by
  refine ⟨h.quiet.app fun op hop x hx hs => ?_, fun g' l hl => (h.red g' l hl).app fun op hop b hb e hw => ?_, fun g' l hl => (h.wr g' l hl).app fun op hop b hb e => ?_, fun said => noRace_append (g := g) (h.nr said) (fun op hop => (hu op hop).1) fun i a ha op hop b hb hc => ?_⟩
  · obtain ⟨hg, hx'⟩ := hu op hop
    rcases hx' x hx with ⟨_, h2, h3⟩ | ho | ⟨hm, _⟩
    · exact h2
    · exact absurd hs (S.sh g _ (S.sub g _ ho))
    · exact absurd hs (S.sh g _ hm)
  · obtain ⟨hg, hx'⟩ := hu op hop
    subst e
    rcases hx' b hb with ⟨h1, _⟩ | ho | ⟨_, h2⟩
    · exact absurd h1 (S.sh g' _ hl)
    · rw [hg]; exact (S.one g g' _ ho hl).symm
    · rw [h2] at hw; cases hw
  · obtain ⟨hg, hx'⟩ := hu op hop
    subst e
    rcases hx' b hb with ⟨h1, _⟩ | ho | ⟨hm, _⟩
    · exact absurd h1 (S.sh g' _ (S.sub g' _ hl))
    · rw [hg]; exact (S.one g g' _ ho (S.sub g' _ hl)).symm
    · rw [hg]; exact S.one g' g _ hl hm
  · obtain ⟨hg, hx'⟩ := hu op hop
    rcases hx' b hb with ⟨h1, h2, h3⟩ | ho | ⟨hm, h2⟩
    · obtain ⟨c1, c2, c3, c4⟩ := hc
      rcases c4 with c4 | c4 | ⟨_, c4, c5⟩
      · exact absurd c4 (h.quiet i a ha (c1 ▸ h1))
      · exact absurd c4 h2
      · exact h3 c5 i a ha c1 c4 c3
    · exact h.wr g b.loc ho i a ha hc.1
    · exact h.red g b.loc hm i a ha hc.1 (hc.2.2.1.resolve_right (by simp [h2]))
/-- Operations that touch nothing, of whomever. -/
theorem PT.mute (h : PT Sh may own t) (hn : ∀ op ∈ u, op.act.touch? = none) : PT Sh may own (t ++ u) :=
  ⟨h.quiet.app fun op hop x hx _ => (by rw [hn op hop] at hx; cases hx), fun g l hl => (h.red g l hl).app fun op hop b hb _ _ => (by rw [hn op hop] at hb; cases hb),
    fun g l hl => (h.wr g l hl).app fun op hop b hb _ => (by rw [hn op hop] at hb; cases hb), fun said => noRace_appendMute (h.nr said) hn⟩
/-- The permissions turn; the trace stands. -/
theorem PT.to (h : PT Sh may own t) (hm : ∀ g l, may' g l → PermW t g l) (ho : ∀ g l, own' g l → Perm t g l) : PT Sh may' own' t := ⟨h.quiet, hm, ho, h.nr⟩
theorem perm_give {g g' : Nat} {l : Loc} (hk : ∀ i, Knows t g i → Knows t g' i) (h : Perm t g l) : Perm t g' l := fun i a ha hl => hk i (h i a ha hl)
theorem permW_give {g g' : Nat} {l : Loc} (hk : ∀ i, Knows t g i → Knows t g' i) (h : PermW t g l) : PermW t g' l := fun i a ha hl hw => hk i (h i a ha hl hw)
/-- A place that nobody has touched. -/
theorem perm_new {g : Nat} {l : Loc} (h : ∀ i a, touchAt t i = some a → a.loc ≠ l) : Perm t g l := fun i a ha hl => absurd hl (h i a ha)
/-! ### what was known at an operation -/
/-- All of the touches that satisfy K stand before operation m. -/
def KnewAt (t : Trace) (K : Nat → Touch → Prop) (m : Nat) : Prop := ∀ i a, touchAt t i = some a → K i a → Before t i m
end
end Go.Proofs.Ytiobhgemjbjipaa
