/- Slices of two numbers of 64 bits each: what the call owns, what reads, append of one. No program in sight; no condition. -/
import Derived.Test.YtpkmdnfkeebgbaaUpd
import Derived.Test.YtpkmdnfkeebgbaaZerosAt
namespace Go.Proofs.Ytpkmdnfkeebgbaa
open Go.ChangeShapes Go.WideShapes Go.ChangeAt Go.RowKit
set_option linter.unusedVariables false
set_option linter.unusedSimpArgs false

abbrev PR := Int × Int
def cells2 (p : PR) : List Value := [.int .u64 p.1, .int .u64 p.2]
def flat2 (ps : List PR) : List Value := ps.flatMap cells2
theorem flat2_length (ps : List PR) : (flat2 ps).length = 2 * ps.length := by
  induction ps with
  | nil => rfl
  | cons p t ih => simp only [flat2, List.flatMap_cons, List.length_append, cells2, List.length_cons, List.length_nil] at ih ⊢; omega
theorem flat2_append (a b : List PR) : flat2 (a ++ b) = flat2 a ++ flat2 b := List.flatMap_append
theorem flat2_get (ps : List PR) (i : Nat) (p : PR) (h : ps[i]? = some p) : (flat2 ps)[2 * i]? = some (.int .u64 p.1) ∧ (flat2 ps)[2 * i + 1]? = some (.int .u64 p.2) := by
  induction ps generalizing i with
  | nil => simp at h
  | cons q t ih =>
    have e : flat2 (q :: t) = .int .u64 q.1 :: .int .u64 q.2 :: flat2 t := rfl
    cases i with
    | zero => simp only [List.getElem?_cons_zero, Option.some.injEq] at h; subst h; rw [e]; exact ⟨rfl, rfl⟩
    | succ i =>
      have := ih i (by simpa using h)
      rw [e, show 2 * (i + 1) = 2 * i + 1 + 1 by omega]
      exact ⟨by simpa using this.1, by simpa using this.2⟩

def OwnP (e : TypeId) (w : World) (base : Nat) (a : Option Addr) (n c : Nat) (ps : List PR) : Prop := ps.length = n ∧ w.ownsRow base e 2 (.slice a n c) n (flat2 ps)
/-- Where each of the two numbers lies. -/
def RdP (w : World) (a : Option Addr) (n c : Nat) (ps : List PR) : Prop :=
  ps.length = n ∧ n ≤ c ∧ c ≤ maxLen ∧ (a = none → c = 0) ∧ (n = 0 ∨ ∃ b off, a = some ⟨b, off, none⟩ ∧ b < w.heap.size ∧ ∀ i p, ps[i]? = some p → w.cell? ⟨b, off + 2 * i, none⟩ = some (.int .u64 p.1) ∧ w.cell? ⟨b, off + (2 * i + 1), none⟩ = some (.int .u64 p.2))

theorem OwnP.nil (e : TypeId) (w : World) (base : Nat) : OwnP e w base none 0 0 [] := ⟨rfl, World.ownsRow_nil _ _ _ _⟩
theorem OwnP.lt {e : TypeId} {w : World} {base : Nat} {a : Option Addr} {n c : Nat} {ps : List PR} (h : OwnP e w base a n c ps) : ∀ x, a = some x → base ≤ x.block ∧ x.block < w.heap.size := fun x hx => h.2.lt _ (by subst hx; rfl)
theorem OwnP.rd {e : TypeId} {w : World} {base : Nat} {a : Option Addr} {n c : Nat} {ps : List PR} (h : OwnP e w base a n c ps) : RdP w a n c ps := by
  obtain ⟨hl, h⟩ := h
  have hlt := h.lt
  rcases h.2 with ⟨h', h0⟩ | ⟨g', cap', cur, h', hb, hg, h1, h2, h3, h4⟩
  · cases h'
    exact ⟨hl, by omega, by unfold maxLen; omega, fun _ => rfl, .inl h0⟩
  · cases h'
    refine ⟨hl, h1, h2, fun h => (by cases h), .inr ⟨g', 0, rfl, (hlt g' rfl).2, fun i p hp => ?_⟩⟩
    obtain ⟨e1, e2⟩ := flat2_get ps i p hp
    have c1 := h.cells (g := g') rfl _ _ e1
    have c2 := h.cells (g := g') rfl _ _ e2
    rw [addr_add] at c1 c2
    exact ⟨c1, c2⟩
theorem RdP.below {w w' : World} {a : Option Addr} {n c : Nat} {ps : List PR} (h : RdP w a n c ps) (hb : Below w.heap.size w w') : RdP w' a n c ps := by
  obtain ⟨h1, h2, h3, h4, h5⟩ := h
  refine ⟨h1, h2, h3, h4, ?_⟩
  rcases h5 with h5 | ⟨b, off, rfl, hlt, hc⟩
  · exact .inl h5
  · exact .inr ⟨b, off, rfl, Nat.lt_of_lt_of_le hlt hb.size, fun i p hp => ⟨bcell hb hlt (hc i p hp).1, bcell hb hlt (hc i p hp).2⟩⟩
theorem OwnP.mono {e : TypeId} {w w' : World} {base : Nat} {a : Option Addr} {n c : Nat} {ps : List PR} (h : OwnP e w base a n c ps) (hb : Below w.heap.size w w') : OwnP e w' base a n c ps := by
  refine ⟨h.1, h.2.1, ?_⟩
  rcases h.2.2 with h1 | ⟨g, cap, cur, h', hbg, hg, r⟩
  · exact .inl h1
  · exact .inr ⟨g, cap, cur, h', hbg, by rw [hb.block g (Array.getElem?_eq_some_iff.1 hg).1]; exact hg, r⟩
theorem OwnP.base {e : TypeId} {w : World} {base base' : Nat} {a : Option Addr} {n c : Nat} {ps : List PR} (h : OwnP e w base a n c ps) (hb : base' ≤ base) : OwnP e w base' a n c ps := by
  refine ⟨h.1, h.2.1, ?_⟩
  rcases h.2.2 with h1 | ⟨g, cap, cur, h', hbg, r⟩
  · exact .inl h1
  · exact .inr ⟨g, cap, cur, h', Nat.le_trans hb hbg, r⟩

def TwoInfo (P : Program) (t e : TypeId) (bytes : Nat) : Prop := P.underlying t = some (.slice e) ∧ ∃ i z, P.info? e = some i ∧ i.zero = some z ∧ i.size = 2 ∧ i.bytes = bytes ∧ z.cells.size = 2

section
variable {P : Program} {w : World} {ops : Array Oper} {rest : List Oper} {o : Oper} {a : Act} {Q : Exit → Act → World → Prop}
/-- append of one pair to what the call owns, and where the answer lies. -/
theorem wp_appP {K : Act → World → Prop} {s x : Operand} {t : TypeId} (ho : o.op = .call { callee := .builtin .append, args := #[s, x], argTypes := #[t, t] })
    {base : Nat} {e : TypeId} {bytes : Nat} (hI : TwoInfo P t e bytes) {sa : Option Addr} {sn sc g : Nat} (hs : a.eval s = .slice sa sn sc) (hx : a.eval x = .slice (some ⟨g, 0, none⟩) 1 1)
    {ps : List PR} {p : PR} (hown : OwnP e w base sa sn sc ps) (hc0 : w.cell? ⟨g, 0, none⟩ = some (.int .u64 p.1)) (hc1 : w.cell? ⟨g, 1, none⟩ = some (.int .u64 p.2))
    (hfit : (sn + 1) * bytes ≤ 140737488355328) (hfit2 : sn + 1 ≤ 140737488355328) (hbase : base ≤ w.heap.size)
    (h : ∀ a' c' w', OwnP e w' base a' (sn + 1) c' (ps ++ [p]) → Upd (· ∈ blk sa) w w' → (∀ k ∈ blk a', k ∈ blk sa ∨ w.heap.size ≤ k) → K (a.put o.dst (.slice a' (sn + 1) c')) w') : o.wp P a w K Q := by
  obtain ⟨ht, i, z, hi, hz, hsize, hby, hzs⟩ := hI
  obtain ⟨hl1, how⟩ := hown
  obtain ⟨v', w', hrun, hv', hg, hn, hat⟩ := run_append_own_at (P := P) w base t o.type e i z 2 bytes ht hi hz hsize hby hzs (by decide) _ sn _ how ⟨g, 0, none⟩ 1 1 (cells2 p) rfl (fun j u hu => by
      rw [addr_add]
      match j, hu with
      | 0, hu => cases hu; exact hc0
      | 1, hu => cases hu; exact hc1
      | j + 2, hu => simp [cells2] at hu) (fun u hu => by simp [cells2] at hu; rcases hu with rfl | rfl <;> rfl) (by unfold maxLen; omega) hfit hbase
  have hu : Upd (· ∈ blk sa) w w' := Upd.grown hg (fun k hk => by
      cases sa with
      | none => cases hk
      | some ad' => cases hk; exact List.mem_singleton.2 rfl)
  have hwp : ∀ a' c', v' = .slice a' (sn + 1) c' → o.wp P a w K Q := by
      intro a' c' hv
      subst hv
      have := h a' c' w' ⟨by simp; omega, by rw [flat2_append]; simpa [flat2] using hv'⟩ hu (fun k hk => by
        obtain ⟨y, rfl, rfl⟩ := mem_blk.1 hk
        rcases hat with hat | hat
        · left
          cases sa with
          | none => cases hat
          | some ad' => simp only [Value.ownBlock, Option.some.injEq] at hat; exact mem_blk.2 ⟨ad', rfl, hat.symm⟩
        · right
          simp only [Value.ownBlock, Option.some.injEq] at hat
          omega)
      unfold Oper.wp
      simp only [execOp, ho, resolve, invoke, builtin, Sem.run_bind, Sem.run_pure, Result.andThen_ok, List.map_toArray, List.map_cons, List.map_nil, hs, hx, hrun]
      exact this
  rcases hv'.2 with ⟨hv, h0⟩ | ⟨g', cap', cur, hv, rest'⟩
  · omega
  · exact hwp _ cap' hv

theorem step_appP {K : Act → World → Prop} {E : Prop} (hgd : o.guard = none) {s x : Operand} {t : TypeId} (ho : o.op = .call { callee := .builtin .append, args := #[s, x], argTypes := #[t, t] })
    {base : Nat} {e : TypeId} {bytes : Nat} (hI : TwoInfo P t e bytes) {sa : Option Addr} {sn sc g : Nat} (hs : a.eval s = .slice sa sn sc) (hx : a.eval x = .slice (some ⟨g, 0, none⟩) 1 1)
    {ps : List PR} {p : PR} (hown : OwnP e w base sa sn sc ps) (hc0 : w.cell? ⟨g, 0, none⟩ = some (.int .u64 p.1)) (hc1 : w.cell? ⟨g, 1, none⟩ = some (.int .u64 p.2))
    (hfit : (sn + 1) * bytes ≤ 140737488355328) (hfit2 : sn + 1 ≤ 140737488355328) (hbase : base ≤ w.heap.size)
    (h : ∀ a' c' w', OwnP e w' base a' (sn + 1) c' (ps ++ [p]) → Upd (· ∈ blk sa) w w' → (∀ k ∈ blk a', k ∈ blk sa ∨ w.heap.size ≤ k) → K (a.put o.dst (.slice a' (sn + 1) c')) w') :
    if Region.wanted o (yielded ops a.tmps) = true then Oper.wp P o a w K Q else E := by
  have hw : Region.wanted o (yielded ops a.tmps) = true := by simp [Region.wanted, hgd]
  rw [if_pos hw]
  exact wp_appP ho hI hs hx hown hc0 hc1 hfit hfit2 hbase h

theorem wpList_appP (hgd : o.guard = none) {s x : Operand} {t : TypeId} (ho : o.op = .call { callee := .builtin .append, args := #[s, x], argTypes := #[t, t] })
    {base : Nat} {e : TypeId} {bytes : Nat} (hI : TwoInfo P t e bytes) {sa : Option Addr} {sn sc g : Nat} (hs : a.eval s = .slice sa sn sc) (hx : a.eval x = .slice (some ⟨g, 0, none⟩) 1 1)
    {ps : List PR} {p : PR} (hown : OwnP e w base sa sn sc ps) (hc0 : w.cell? ⟨g, 0, none⟩ = some (.int .u64 p.1)) (hc1 : w.cell? ⟨g, 1, none⟩ = some (.int .u64 p.2))
    (hfit : (sn + 1) * bytes ≤ 140737488355328) (hfit2 : sn + 1 ≤ 140737488355328) (hbase : base ≤ w.heap.size)
    (h : ∀ a' c' w', OwnP e w' base a' (sn + 1) c' (ps ++ [p]) → Upd (· ∈ blk sa) w w' → (∀ k ∈ blk a', k ∈ blk sa ∨ w.heap.size ≤ k) → wpList P ops Q rest (a.put o.dst (.slice a' (sn + 1) c')) w') : wpList P ops Q (o :: rest) a w :=
  wpList_plain hgd fun _ hK => wp_appP ho hI hs hx hown hc0 hc1 hfit hfit2 hbase fun a' c' w' h2 h3 h4 => hK _ _ (h a' c' w' h2 h3 h4)
end
end Go.Proofs.Ytpkmdnfkeebgbaa
