/- append that must grow: the answer is the call's own. No program in sight; no condition. -/
import Derived.Test.YtpkmdnfkeebgbaaUpd
import Derived.ArgAppend
namespace Go.Proofs.Ytpkmdnfkeebgbaa
open Go.ChangeShapes Go.WideShapes Go.ChangeAt Go.RowKit
set_option linter.unusedVariables false
set_option linter.unusedSimpArgs false

section
variable {α : Type} {P : Program} {w : World} {ops : Array Oper} {rest : List Oper} {o : Oper} {a : Act} {Q : Exit → Act → World → Prop}
theorem own_of_row {enc : α → Value} {e : TypeId} {base : Nat} {v : Value} {n : Nat} {l : List α} {w : World} (h : w.ownsRow base e 1 v n (l.map enc)) : ∃ a c, v = .slice a n c ∧ Own enc e w base a n c l := by
  have hl : l.length = n := by simpa using h.1
  rcases h.2 with ⟨hv, h0⟩ | ⟨g, cap, cur, hv, r⟩
  · subst hv; subst h0
    exact ⟨none, 0, rfl, hl, h⟩
  · subst hv
    exact ⟨_, cap, rfl, hl, h⟩
theorem wpList_appGrow {enc : α → Value} (hgd : o.guard = none) {s x : Operand} {t : TypeId} (ho : o.op = .call { callee := .builtin .append, args := #[s, x], argTypes := #[t, t] })
    {e : TypeId} {bytes : Nat} (hI : OneInfo P t e bytes) {sa xa : Option Addr} {sn sc xn xc : Nat} (hs : a.eval s = .slice sa sn sc) (hx : a.eval x = .slice xa xn xc)
    {l1 l2 : List α} (hr1 : Rd enc w sa sn sc l1) (hr : Rd enc w xa xn xc l2) (h1 : ∀ y, (enc y).oneCell' = true) (hfull : sc < sn + xn)
    (hfit : (sn + xn) * bytes ≤ 140737488355328) (hfit2 : sn + xn ≤ 140737488355328)
    (h : ∀ a' c' w', Own enc e w' w.heap.size a' (sn + xn) c' (l1 ++ l2) → Below w.heap.size w w' → wpList P ops Q rest (a.put o.dst (.slice a' (sn + xn) c')) w') : wpList P ops Q (o :: rest) a w := by
  obtain ⟨ht, i, z, hi, hz, hsize, hby, hzs⟩ := hI
  obtain ⟨hl1, hsc, hm1, hn1, hc1⟩ := hr1
  obtain ⟨b2, o2, rfl, hb2, hcs2⟩ := hr.at (by omega)
  refine wpList_append_grows w hgd s x t ho e i z 1 bytes ht hi hz hsize hby hzs (by decide) sa sn sc (l1.map enc) hs ?_ (by simp; omega) ?_ ⟨b2, o2, none⟩ xn xc (l2.map enc) hx (by simp [hr.1]) ?_ ?_ hfull (by unfold maxLen; omega) hfit ?_
  · intro h0; have := hn1 h0; exact ⟨by omega, this⟩
  · intro b hb j u hj
    rcases hc1 with hc1 | ⟨b1, o1, h1', hlt, hcs⟩
    · subst hc1
      obtain rfl : l1 = [] := List.eq_nil_of_length_eq_zero hl1
      simp at hj
    · rw [hb] at h1'; cases h1'
      rw [List.getElem?_map] at hj
      obtain ⟨y, hy, rfl⟩ := Option.map_eq_some_iff.1 hj
      rw [addr_add]; exact hcs j y hy
  · intro j u hj
    rw [List.getElem?_map] at hj
    obtain ⟨y, hy, rfl⟩ := Option.map_eq_some_iff.1 hj
    rw [addr_add]; exact hcs2 j y hy
  · intro u hu
    obtain ⟨y, _, rfl⟩ := List.mem_map.1 hu
    exact h1 y
  · intro v' w' hown hg
    rw [← List.map_append] at hown
    obtain ⟨a', c', rfl, ho'⟩ := own_of_row hown
    exact h a' c' w' ho' ⟨hg.os, hg.tape, hg.output, hg.size, fun k hk => hg.block k hk (by simp)⟩
end
end Go.Proofs.Ytpkmdnfkeebgbaa
