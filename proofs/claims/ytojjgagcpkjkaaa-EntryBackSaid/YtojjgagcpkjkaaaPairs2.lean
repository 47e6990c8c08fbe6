/- append of a row of pairs to what the call owns. No program in sight; no condition. -/
import Derived.Test.YtojjgagcpkjkaaaPairs
namespace Go.Proofs.Ytojjgagcpkjkaaa
open Go.ChangeShapes Go.WideShapes Go.ChangeAt Go.RowKit
set_option linter.unusedVariables false
set_option linter.unusedSimpArgs false

theorem flat2_at (ps : List PR) (w : World) (b off : Nat) (h : ∀ i p, ps[i]? = some p → w.cell? ⟨b, off + 2 * i, none⟩ = some (.int .u64 p.1) ∧ w.cell? ⟨b, off + (2 * i + 1), none⟩ = some (.int .u64 p.2)) : ∀ j u, (flat2 ps)[j]? = some u → w.cell? ⟨b, off + j, none⟩ = some u := by
  intro j u hj
  have hl : j < 2 * ps.length := by have := (List.getElem?_eq_some_iff.1 hj).1; rw [flat2_length] at this; exact this
  obtain ⟨p, hp⟩ : ∃ p, ps[j / 2]? = some p := ⟨_, List.getElem?_eq_getElem (by omega)⟩
  obtain ⟨e1, e2⟩ := flat2_get ps (j / 2) p hp
  obtain ⟨c1, c2⟩ := h (j / 2) p hp
  rcases Nat.mod_two_eq_zero_or_one j with hm | hm
  · rw [show 2 * (j / 2) = j by omega] at e1 c1
    rw [e1] at hj; cases hj; exact c1
  · rw [show 2 * (j / 2) + 1 = j by omega] at e2 c2
    rw [e2] at hj; cases hj; exact c2
theorem flat2_one (ps : List PR) : ∀ u ∈ flat2 ps, u.oneCell' = true := by
  intro u hu
  obtain ⟨p, _, hp⟩ := List.mem_flatMap.1 hu
  simp [cells2] at hp
  rcases hp with rfl | rfl <;> rfl
theorem OwnP.lit0 (e : TypeId) (w : World) (base : Nat) (hb : base ≤ w.heap.size) : OwnP e (w.alloc (.cells #[] e)) base (some ⟨w.heap.size, 0, none⟩) 0 0 [] :=
  ⟨rfl, by
    have := World.ownsRow_lit (base := base) (e := e) (size := 2) w #[] 0 hb (Nat.zero_le _) rfl
    simpa [flat2] using this⟩

section
variable {P : Program} {w : World} {ops : Array Oper} {rest : List Oper} {o : Oper} {a : Act} {Q : Exit → Act → World → Prop}
theorem step_appPs {K : Act → World → Prop} {E : Prop} (hgd : o.guard = none) {s x : Operand} {t : TypeId} (ho : o.op = .call { callee := .builtin .append, args := #[s, x], argTypes := #[t, t] })
    {base : Nat} {e : TypeId} {bytes : Nat} (hI : TwoInfo P t e bytes) {sa xa : Option Addr} {sn sc xn xc : Nat} (hs : a.eval s = .slice sa sn sc) (hx : a.eval x = .slice xa xn xc)
    {ps qs : List PR} (hown : OwnP e w base sa sn sc ps) (hr : RdP w xa xn xc qs) (hpos : 0 < xn)
    (hfit : (sn + xn) * bytes ≤ 140737488355328) (hfit2 : sn + xn ≤ 140737488355328) (hbase : base ≤ w.heap.size)
    (h : ∀ a' c' w', OwnP e w' base a' (sn + xn) c' (ps ++ qs) → Upd (· ∈ blk sa) w w' → (∀ k ∈ blk a', k ∈ blk sa ∨ w.heap.size ≤ k) → K (a.put o.dst (.slice a' (sn + xn) c')) w') :
    if Region.wanted o (yielded ops a.tmps) = true then Oper.wp P o a w K Q else E := by
  have hw : Region.wanted o (yielded ops a.tmps) = true := by simp [Region.wanted, hgd]
  rw [if_pos hw]
  obtain ⟨ht, i, z, hi, hz, hsize, hby, hzs⟩ := hI
  obtain ⟨hl1, how⟩ := hown
  obtain ⟨hl2, hc1, hc2, hcn, hcells⟩ := hr
  obtain ⟨b, off, rfl, hbk, hc⟩ := hcells.resolve_left (by omega)
  obtain ⟨v', w', hrun, hv', hg, hn, hat⟩ := run_append_own_at (P := P) w base t o.type e i z 2 bytes ht hi hz hsize hby hzs (by decide) _ sn _ how ⟨b, off, none⟩ xn xc (flat2 qs) (by rw [flat2_length, hl2]; omega) (fun j u hu => by
      rw [addr_add]; exact flat2_at qs w b off hc j u hu) (flat2_one qs) (by unfold maxLen; omega) hfit hbase
  have hu : Upd (· ∈ blk sa) w w' := Upd.grown hg (fun k hk => by
      cases sa with
      | none => cases hk
      | some ad' => cases hk; exact List.mem_singleton.2 rfl)
  have hwp : ∀ a' c', v' = .slice a' (sn + xn) c' → o.wp P a w K Q := by
      intro a' c' hv
      subst hv
      have := h a' c' w' ⟨by simp; omega, by rw [flat2_append]; exact hv'⟩ hu (fun k hk => by
        obtain ⟨y, rfl, rfl⟩ := mem_blk.1 hk
        rcases hat with hat | hat
        · left
          cases sa with
          | none => cases hat
          | some ad' => simp only [Value.ownBlock, Option.some.injEq] at hat; exact mem_blk.2 ⟨ad', rfl, hat.symm⟩
        · right
          simp only [Value.ownBlock, Option.some.injEq] at hat
          omega)
      unfold Oper.wp
      simp only [execOp, ho, resolve, invoke, builtin, Sem.run_bind, Sem.run_pure, Result.andThen_ok, List.map_toArray, List.map_cons, List.map_nil, hs, hx, hrun]
      exact this
  rcases hv'.2 with ⟨hv, h0⟩ | ⟨g', cap', cur, hv, rest'⟩
  · omega
  · exact hwp _ cap' hv
theorem step_appPs0 {K : Act → World → Prop} {E : Prop} (hgd : o.guard = none) {s x : Operand} {t : TypeId} (ho : o.op = .call { callee := .builtin .append, args := #[s, x], argTypes := #[t, t] })
    {base : Nat} {e : TypeId} {bytes : Nat} (hI : TwoInfo P t e bytes) {sa xa : Option Addr} {sc xn xc : Nat} (hs : a.eval s = .slice sa 0 sc) (hx : a.eval x = .slice xa xn xc)
    {qs : List PR} (hown : OwnP e w base sa 0 sc []) (hr : RdP w xa xn xc qs) (hpos : 0 < xn)
    (hfit : xn * bytes ≤ 140737488355328) (hfit2 : xn ≤ 140737488355328) (hbase : base ≤ w.heap.size)
    (h : ∀ a' c' w', OwnP e w' base a' xn c' qs → Upd (· ∈ blk sa) w w' → (∀ k ∈ blk a', k ∈ blk sa ∨ w.heap.size ≤ k) → K (a.put o.dst (.slice a' xn c')) w') :
    if Region.wanted o (yielded ops a.tmps) = true then Oper.wp P o a w K Q else E := by
  refine step_appPs hgd ho hI hs hx hown hr hpos (by rw [Nat.zero_add]; exact hfit) (by rw [Nat.zero_add]; exact hfit2) hbase ?_
  intro a' c' w' h1 h2 h3
  rw [Nat.zero_add] at h1 ⊢
  exact h a' c' w' h1 h2 h3
end
end Go.Proofs.Ytojjgagcpkjkaaa
