/- What has come, as lists: from the machine theorem's words to rows of bytes. No program's walk here; no condition. -/
import Derived.Test.YtiobhgemjbjipaaPmPumpWaysB
set_option linter.unusedSimpArgs false
set_option linter.unusedVariables false
namespace Go.Proofs.Ytiobhgemjbjipaa
open Go.Conc Go.RowKit
section
variable {α β γ δ : Type} {R : α → β → Prop} {l : List α} {m : List β} {x : α} {y : β}
theorem Al.nil : Al R [] [] := ⟨rfl, fun k v x h => by simp at h⟩
theorem Al.cons (h : R x y) (t : Al R l m) : Al R (x :: l) (y :: m) := by
  refine ⟨by simp [t.1], fun k v z h1 h2 => ?_⟩
  cases k with
  | zero =>
    simp only [List.getElem?_cons_zero, Option.some.injEq] at h1 h2
    subst h1 h2
    exact h
  | succ k =>
    simp only [List.getElem?_cons_succ] at h1 h2
    exact t.2 k v z h1 h2
theorem Al.head (t : Al R (x :: l) (y :: m)) : R x y := t.2 0 x y rfl rfl
theorem Al.tail (t : Al R (x :: l) (y :: m)) : Al R l m := ⟨by have := t.1; simpa using this, fun k v z h1 h2 => t.2 (k + 1) v z (by simpa using h1) (by simpa using h2)⟩
theorem exists_al : ∀ {l : List α}, (∀ x ∈ l, ∃ y, R x y) → ∃ m : List β, Al R l m
  | [], _ => ⟨[], .nil⟩
  | x :: l, h => by
    obtain ⟨y, hy⟩ := h x (by simp)
    obtain ⟨m, hm⟩ := exists_al (l := l) fun z hz => h z (by simp [hz])
    exact ⟨y :: m, .cons hy hm⟩
theorem Al.filter {p : α → Bool} {q : β → Bool} (hpq : ∀ x y, R x y → p x = q y) : ∀ {l : List α} {m : List β}, Al R l m → Al R (l.filter p) (m.filter q)
  | [], [], _ => .nil
  | [], y :: m, h => by have := h.1; simp at this
  | x :: l, [], h => by have := h.1; simp at this
  | x :: l, y :: m, h => by
    have e := hpq x y h.head
    rw [List.filter_cons, List.filter_cons, e]
    split
    · exact .cons h.head (Al.filter hpq h.tail)
    · exact Al.filter hpq h.tail
theorem Al.map {f : α → γ} {g : β → δ} {S : γ → δ → Prop} (hS : ∀ x y, R x y → S (f x) (g y)) (h : Al R l m) : Al S (l.map f) (m.map g) := by
  refine ⟨by simp [h.1], fun k v z h1 h2 => ?_⟩
  rw [List.getElem?_map] at h1 h2
  obtain ⟨a, ha, rfl⟩ := Option.map_eq_some_iff.1 h1
  obtain ⟨b, hb, rfl⟩ := Option.map_eq_some_iff.1 h2
  exact hS _ _ (h.2 k a b ha hb)
/-- A beginning. -/
theorem Al.front {S : α → β → Prop} (hs : ∀ x y y', R x y → S x y' → y = y') : ∀ {l : List α} {m : List β} {l' : List α} {m' : List β}, Al R l m → Al S (l ++ l') m' → ∃ r, m' = m ++ r ∧ r.length = l'.length
  | [], [], l', m', _, h => ⟨m', rfl, by simpa using h.1.symm⟩
  | [], y :: m, _, _, h, _ => by have := h.1; simp at this
  | x :: l, [], _, _, h, _ => by have := h.1; simp at this
  | x :: l, y :: m, l', [], _, h => by have := h.1; simp at this
  | x :: l, y :: m, l', y' :: m', h, h' => by
    obtain ⟨r, e1, e2⟩ := Al.front hs h.tail (Al.tail (x := x) h')
    have := hs x y y' h.head (Al.head (l := l ++ l') h')
    exact ⟨r, by rw [e1, this]; rfl, e2⟩
end
/-- A row of what came: whence, and what; rows of bytes that are new. -/
def GotL (Old : Nat → Prop) (w : World) (base : Nat) (V : Value) (G : List (Nat × List Int)) : Prop :=
  ∃ a c, V = .slice a G.length c ∧ G.length ≤ c ∧ c ≤ maxLen ∧ (a = none → c = 0) ∧ (G.length = 0 ∨ ∃ g cur, a = some ⟨g, 0, none⟩ ∧ base ≤ g ∧ ¬ Old g ∧ w.heap[g]? = some (.cells cur 33) ∧
    ∀ (j k : Nat) (bs : List Int), G[j]? = some (k, bs) → w.cell? ⟨g, 2 * j, none⟩ = some (.int .i64 (k : Int)) ∧ ∃ v, w.cell? ⟨g, 2 * j + 1, none⟩ = some v ∧ Msg (fun w b => base ≤ b ∧ ¬ Old b ∧ ∃ vs, w.heap[b]? = some (.cells vs 5)) v bs w)
/-- Of each row a beginning has come, in its order (all of it, if full); nothing else. -/
def Merge (full : Prop) (G : List (Nat × List Int)) (L : List (List (List Int))) : Prop :=
  (∀ y ∈ G, y.1 < L.length) ∧ ∀ (k : Nat) row, L[k]? = some row → ∃ r, row = (G.filter (fun y => y.1 == k)).map (·.2) ++ r ∧ (full → r = [])
theorem cellsOf_get : ∀ {ys : List (Nat × Value × Value)} (h : ∀ y ∈ ys, ∃ x0 x1, y.2.2 = .agg #[x0, x1]) {j : Nat} {y : Nat × Value × Value} {x0 x1 : Value}, ys[j]? = some y → y.2.2 = .agg #[x0, x1] → (cellsOf ys)[2 * j]? = some x0 ∧ (cellsOf ys)[2 * j + 1]? = some x1
  | [], _, j, y, _, _, hy, _ => by simp at hy
  | z :: ys, h, j, y, x0, x1, hy, e => by
    obtain ⟨z0, z1, ez⟩ := h z (by simp)
    have ec : cellsOf (z :: ys) = z0 :: z1 :: cellsOf ys := by simp [cellsOf, ez]
    rw [ec]
    cases j with
    | zero =>
      simp only [List.getElem?_cons_zero, Option.some.injEq] at hy
      subst hy
      rw [ez] at e
      simp only [Value.agg.injEq, Array.mk.injEq, List.cons.injEq, and_true] at e
      obtain ⟨rfl, rfl⟩ := e
      exact ⟨rfl, rfl⟩
    | succ j =>
      simp only [List.getElem?_cons_succ] at hy
      have := cellsOf_get (fun y hy => h y (by simp [hy])) hy e
      rw [show 2 * (j + 1) = 2 * j + 1 + 1 from by omega, List.getElem?_cons_succ, List.getElem?_cons_succ, List.getElem?_cons_succ, List.getElem?_cons_succ]
      exact this
variable {E : PE} {MB : Value → List Int → Prop} {w0 w w1 : World} {N base : Nat} {sl : Value} {ys : List (Nat × Value × Value)} {Old Old' : Nat → Prop}
/-- From the machine theorem's words. -/
theorem got_list (W : EW E MB) (h : KG E w0 N sl ys [] w) (hb : base ≤ E.N0) (ho : ∀ b, Old b → b < E.N0) :
    ∃ G, GotL Old w base sl G ∧ Al (fun y q => q.1 = y.1 ∧ MB y.2.1 q.2) ys G ∧ ∀ q ∈ G, q.1 < E.n := by
  obtain ⟨G, hG⟩ := exists_al (l := ys) (R := fun y (q : Nat × List Int) => q.1 = y.1 ∧ MB y.2.1 q.2 ∧ y.1 < E.n ∧ ∃ V, y.2.2 = .agg #[.int .i64 (y.1 : Int), V] ∧ Msg (BytN E) V q.2 w) (fun y hy => by
    have hf := h.fits y hy
    rw [W.fits] at hf
    obtain ⟨bs, V, h1, h2, h3⟩ := hf
    exact ⟨(y.1, bs), rfl, h1, h.lt y hy, V, h2, h3⟩)
  refine ⟨G, ?_, hG.imp fun _ _ x => ⟨x.1, x.2.1⟩, fun q hq => ?_⟩
  · have hlen := hG.1
    have hall : ∀ y ∈ ys, ∃ x0 x1, y.2.2 = .agg #[x0, x1] := fun y hy => by
      have hf := h.fits y hy
      rw [W.fits] at hf
      obtain ⟨bs, V, h1, h2, h3⟩ := hf
      exact ⟨_, _, h2⟩
    rcases id h.own.2 with ⟨rfl, h0⟩ | ⟨g, cap, cur, rfl, hg, hh, hc1, hc2, hc3, hc4⟩
    · refine ⟨none, 0, by rw [show G.length = 0 by omega], by omega, by unfold maxLen; omega, fun _ => rfl, .inl (by omega)⟩
    · refine ⟨some ⟨g, 0, none⟩, cap, by rw [hlen], by omega, hc2, fun e => (by cases e), .inr ⟨g, cur, rfl, by have := h.j.n0; omega, fun x => by have := ho _ x; have := h.j.n0; omega, hh, fun j k bs hj => ?_⟩⟩
      have hjl : j < ys.length := by have := (List.getElem?_eq_some_iff.1 hj).1; omega
      have hy := List.getElem?_eq_getElem hjl
      obtain ⟨r1, _, _, V, r2, r3⟩ := hG.2 j _ _ hy hj
      simp only at r1 r3
      obtain ⟨c1, c2⟩ := cellsOf_get hall hy r2
      have k1 := World.ownsRow.cells h.own (g := g) rfl _ _ c1
      have k2 := World.ownsRow.cells h.own (g := g) rfl _ _ c2
      rw [addr_add, Nat.zero_add] at k1 k2
      refine ⟨by rw [k1, ← r1], V, k2, r3.keep (Nat.le_refl _) fun b hB _ => ⟨rfl, by have := hB.1; omega, fun x => by have := ho _ x; have := hB.1; omega, ?_⟩⟩
      rw [← W.by_]
      exact hB.2
  · obtain ⟨j, hj⟩ := List.mem_iff_getElem?.1 hq
    have hjl : j < ys.length := by have := (List.getElem?_eq_some_iff.1 hj).1; have := hG.1; omega
    have := hG.2 j _ _ (List.getElem?_eq_getElem hjl) hj
    omega
theorem got_merge {G : List (Nat × List Int)} {L : List (List (List Int))} {VS : Nat → List Value} {full : Prop} (hG : Al (fun y q => q.1 = y.1 ∧ R1 Old' w1 y.2.1 q.2) ys G) (hlt : ∀ q ∈ G, q.1 < L.length) (hL : ∀ (k : Nat) row, L[k]? = some row → Al (R1 Old w1) (VS k) row)
    (hr : ∀ k, k < L.length → ∃ l, VS k = (ys.filter (fun y => y.1 == k)).map (·.2.1) ++ l ∧ (full → l = [])) : Merge full G L := by
  refine ⟨hlt, fun k row hk => ?_⟩
  obtain ⟨l, e, hl⟩ := hr k (List.getElem?_eq_some_iff.1 hk).1
  have h1 := hL k row hk
  rw [e] at h1
  have h2 : Al (R1 Old' w1) ((ys.filter (fun y => y.1 == k)).map (·.2.1)) ((G.filter (fun y => y.1 == k)).map (·.2)) := (hG.filter (p := fun y => y.1 == k) (q := fun y => y.1 == k) fun x y h => by simp only [h.1]).map fun _ _ x => x.2
  obtain ⟨r, hr1, hr2⟩ := Al.front (R := R1 Old' w1) (S := R1 Old w1) (fun _ _ _ a b => R1.same a b) h2 h1
  exact ⟨r, hr1, fun hf => by have := hl hf; rw [this] at hr2; exact List.length_eq_zero_iff.1 (by simpa using hr2)⟩
end Go.Proofs.Ytiobhgemjbjipaa
