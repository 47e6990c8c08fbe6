/- A region that draws its order, reads, and ends by one operation that waits for all others. Conditions stand as premises. -/
import Derived.Test.YtiobhgemjbjipaaPmPumpFront
set_option linter.unusedSimpArgs false
set_option linter.unusedVariables false
namespace Go.Proofs.Ytiobhgemjbjipaa
open Go.Conc Go.RowKit Go.Conc.Lib
section
variable {P : Program} {Post : Value → World → Prop} {Old : Nat → Prop} {m : Nat} {b : Frame} {a : Act} {k : List Item} {cs : List Frame} {w : World} {ops : Array Oper} {md : Region.Mode} {j : Nat} {K : Act → Prop}
/-- Each yields its value; at last j alone is left, and then K. -/
def AnyJ (P : Program) (Old : Nat → Prop) (w : World) (ops : Array Oper) (md : Region.Mode) (j : Nat) (K : Act → Prop) : Nat → Array Bool → Act → Prop
  | 0, _, _ => False
  | fuel + 1, l, a => (Region.ready md ops l = [j] ∧ Region.ready md ops (l.setIfInBounds j true) = [] ∧ K a) ∨
      (Region.ready md ops l ≠ [] ∧ ∀ i ∈ Region.ready md ops l, ∃ o v, ops[i]? = some o ∧ Yv P Old w ops o v a ∧ AnyJ P Old w ops md j K fuel (l.setIfInBounds i true) (a.put o.dst v))
/-- j waits for i. -/
def waitsFor (md : Region.Mode) (ops : Array Oper) (j i : Nat) : Bool := match ops[j]? with | some o => o.after.any fun e => Region.binds md e && e.on == i | none => false
theorem waits_not {i : Nat} {l : Array Bool} (hw : waitsFor md ops j i = true) (hi : i ∈ Region.ready md ops l) : j ∉ Region.ready md ops l := fun hj => by
  obtain ⟨hun, o, ho, hall⟩ := mem_ready.1 hj
  unfold waitsFor at hw
  rw [ho] at hw
  simp only [Array.any_eq_true] at hw
  obtain ⟨q, hq, hb⟩ := hw
  simp only [Bool.and_eq_true, beq_iff_eq] at hb
  have h1 := hall _ (Array.getElem_mem hq) hb.1
  have h0 := (mem_ready.1 hi).1
  rw [hb.2] at h1
  rcases Nat.lt_or_ge i l.size with h' | h'
  · simp [h'] at h0 h1; rw [h0] at h1; cases h1
  · simp [Array.getElem?_eq_none h'] at h1
theorem anyJ_first {i : Nat} {oi : Oper} {v : Value} (hi : ops[i]? = some oi) (hsel : ∀ (j : Nat) (o : Oper) cs b, ops[j]? = some o → o.op ≠ .select cs b) (hw : waitsFor md ops j i = true) :
    ∀ (fuel : Nat) (l : Array Bool) (a : Act),
      (∀ j oj, ops[j]? = some oj → j ≠ i → l.getD j true = false → (∀ e ∈ oj.after, Region.binds md e = true → e.on ≠ i) → oi.apart ops oj = true) →
      i ∈ Region.ready md ops l → Yv P Old w ops oi v a → AnyJ P Old w ops md j K fuel (l.setIfInBounds i true) (a.put oi.dst v) → AnyJ P Old w ops md j K (fuel + 1) l a := by
  intro fuel
  induction fuel with
  | zero => exact fun l a _ _ _ H => H.elim
  | succ fuel ih =>
    intro l a hfree hr hy H
    refine .inr ⟨fun h => (by rw [h] at hr; cases hr), fun j' hj => ?_⟩
    by_cases hji : j' = i
    · subst hji; exact ⟨oi, v, hi, hy, H⟩
    · have hjj : j' ≠ j := fun e => waits_not hw hr (e ▸ hj)
      have hj2 := ready_mono hj hji
      rcases H with ⟨H1, _, _⟩ | ⟨_, H⟩
      · rw [H1] at hj2
        simp at hj2
        exact absurd hj2 hjj
      obtain ⟨oj, u, hoj, hyj, hn⟩ := H j' hj2
      obtain ⟨hjun, oj', hoj', hall⟩ := mem_ready.1 hj
      obtain rfl : oj' = oj := Option.some.inj (hoj'.symm.trans hoj)
      have hnot : ∀ e ∈ oj'.after, Region.binds md e = true → e.on ≠ i := fun e he hb heq => by
        have h1 := hall e he hb
        have h0 := (mem_ready.1 hr).1
        rw [heq] at h1
        rcases Nat.lt_or_ge i l.size with h' | h'
        · simp [h'] at h0 h1; rw [h0] at h1; cases h1
        · simp [Array.getElem?_eq_none h'] at h1
      obtain ⟨h1, h2, h3⟩ := Oper.apart_spec (hfree j' oj' hoj hji hjun hnot)
      have hfree' : ∀ k ok, ops[k]? = some ok → k ≠ i → (l.setIfInBounds j' true).getD k true = false →
          (∀ e ∈ ok.after, Region.binds md e = true → e.on ≠ i) → oi.apart ops ok = true := fun k ok hk hki hun hno => by
        refine hfree k ok hk hki ?_ hno
        by_cases hjk : j' = k
        · subst hjk; exact hjun
        · rw [getD_set_ne true hjk] at hun; exact hun
      have hyj' : Yv P Old w ops oj' u a := hyj.of_same (execOp_put oj' (fun cs b => hsel j' oj' cs b hoj) a oi.dst v h1).symm (wanted_put oj' a oi.dst v h1).symm
      have hyi' : Yv P Old w ops oi v (a.put oj'.dst u) := hy.of_same (execOp_put oi (fun cs b => hsel i oi cs b hi) a oj'.dst u h3) (wanted_put oi a oj'.dst u h3)
      refine ⟨oj', u, hoj, hyj', ih (l.setIfInBounds j' true) (a.put oj'.dst u) hfree' (ready_mono hr (Ne.symm hji)) hyi' ?_⟩
      rw [Array.setIfInBounds_comm _ _ hji, ← Act.put_comm a v u h2]
      exact hn
theorem anyJ_take {i : Nat} {oi : Oper} {v : Value} {fuel : Nat} {l : Array Bool} {a : Act} (hi : ops[i]? = some oi)
    (hs : Region.noSelect ops = true) (hf : Region.free md ops l i = true) (hr : (Region.ready md ops l).contains i = true) (hw : waitsFor md ops j i = true)
    (hy : Yv P Old w ops oi v a) (h : AnyJ P Old w ops md j K fuel (l.setIfInBounds i true) (a.put oi.dst v)) : AnyJ P Old w ops md j K (fuel + 1) l a :=
  anyJ_first hi (Region.noSelect_spec hs) hw fuel l a (Region.free_spec hi hf) (by simpa using hr) hy h
theorem anyJ_last {fuel : Nat} {l : Array Bool} {a : Act} (h1 : Region.ready md ops l = [j]) (h2 : Region.ready md ops (l.setIfInBounds j true) = []) (h : K a) : AnyJ P Old w ops md j K (fuel + 1) l a := .inl ⟨h1, h2, h⟩
theorem go_nil {fuel t : Nat} {l : Array Bool} (h : Region.ready md ops l = []) : Region.linearise.go md ops fuel t l [] = [] := by
  cases fuel with
  | zero => simp [Region.linearise.go]
  | succ fuel =>
    simp only [Region.linearise.go]
    change (match (Region.ready md ops l)[t % (Region.ready md ops l).length]? with
      | some i => Region.linearise.go md ops fuel (t / (Region.ready md ops l).length) (l.setIfInBounds i true) [i]
      | none => [].reverse) = []
    rw [h]
    rfl
theorem AnyJ.ok (hk : b.kind ≠ .early) (hK : ∀ a, K a → Ok P Post Old m (G (b.at a (.inRegion ops [j] :: k)) cs) w) :
    ∀ (fuel t : Nat) (l : Array Bool) (a : Act), AnyJ P Old w ops md j K fuel l a → Ok P Post Old m (G (b.at a (.inRegion ops (Region.linearise.go md ops fuel t l []) :: k)) cs) w := by
  intro fuel
  induction fuel with
  | zero => exact fun t l a h => h.elim
  | succ fuel ih =>
    intro t l a h
    simp only [Region.linearise.go]
    change Ok P Post Old m (G (b.at a (.inRegion ops (match (Region.ready md ops l)[t % (Region.ready md ops l).length]? with
      | some i => Region.linearise.go md ops fuel (t / (Region.ready md ops l).length) (l.setIfInBounds i true) [i]
      | none => [].reverse) :: k)) cs) w
    rcases h with ⟨h1, h2, h⟩ | ⟨hne, h⟩
    · rw [h1]
      simp only [List.length_singleton, Nat.mod_one, List.getElem?_cons_zero]
      rw [linearise_go_acc, go_nil h2]
      exact hK a h
    · cases hi : (Region.ready md ops l)[t % (Region.ready md ops l).length]? with
      | none =>
        exfalso
        refine hne ?_
        cases hr : Region.ready md ops l with
        | nil => rfl
        | cons x xs =>
          rw [hr] at hi
          have hlt : t % (x :: xs).length < (x :: xs).length := Nat.mod_lt _ (by simp)
          simp at hi
          simp at hlt
          omega
      | some i =>
        simp only []
        rw [linearise_go_acc, List.reverse_singleton, List.singleton_append]
        obtain ⟨o, v, ho, hy, hn⟩ := h i (List.mem_of_getElem? hi)
        exact Ok.yv ho hk hy (ih _ _ _ hn)
/-- A REGION THAT DRAWS ITS ORDER, reads, and ends by operation j. -/
theorem Ok.lasts {id : Nat} (j : Nat) (hm : P.follows .mixedOrders = true) (hk : b.kind ≠ .early) (h : AnyJ P Old w ops .any j (fun a => Ok P Post Old m (G (b.at a (.inRegion ops [j] :: k)) cs) w) ops.size (Array.replicate ops.size false) a) :
    Ok P Post Old m (G (b.at a (.code (.region id ops true) :: k)) cs) w := by
  refine Ok.step rfl fun w₁ h₁ => ?_
  obtain ⟨d, rfl⟩ := h₁
  rw [stepG_region_draw]
  refine ⟨⟨Nat.le_refl _, fun e he => by simp at he⟩, ?_⟩
  simp only [Region.schedule, hm, Bool.true_or, if_true]
  exact Ok.at (w := w) (d := (w.at d).drawn + 1) (AnyJ.ok hk (fun _ x => x) _ _ _ _ h)
end
end Go.Proofs.Ytiobhgemjbjipaa
