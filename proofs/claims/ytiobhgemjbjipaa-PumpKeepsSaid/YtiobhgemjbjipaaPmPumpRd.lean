/- What the law's code reads: slices, rows of rows, as they stand; what a call leaves. No program's walk here; no condition. -/
import Derived.Test.YtiobhgemjbjipaaPmPumpJoinF
set_option linter.unusedSimpArgs false
set_option linter.unusedVariables false
namespace Go.Proofs.Ytiobhgemjbjipaa
open Go.Conc Go.RowKit
/-- A call has added blocks and turned none; what is shunned is new. -/
structure Ext (Old Old' : Nat → Prop) (w w' : World) : Prop where
  size : w.heap.size ≤ w'.heap.size
  low : ∀ b, b < w.heap.size → w'.heap[b]? = w.heap[b]?
  old : ∀ b, Old' b → Old b ∨ w.heap.size ≤ b
  oo : SO w w'
theorem Ext.refl (Old : Nat → Prop) (w : World) : Ext Old Old w w := ⟨Nat.le_refl _, fun _ _ => rfl, fun _ h => .inl h, .refl w⟩
theorem Ext.trans {Old Old' Old'' : Nat → Prop} {a b c : World} (h : Ext Old Old' a b) (k : Ext Old' Old'' b c) : Ext Old Old'' a c :=
  ⟨Nat.le_trans h.size k.size, fun x hx => (k.low x (Nat.lt_of_lt_of_le hx h.size)).trans (h.low x hx), fun x hx => (k.old x hx).elim (fun y => h.old x y) fun y => .inr (Nat.le_trans h.size y), h.oo.trans k.oo⟩
theorem Ext.alloc (Old : Nat → Prop) (w : World) (o : Obj) : Ext Old Old w (w.alloc o) := ⟨by simp, fun b hb => ah_old w o hb, fun _ h => .inl h, ⟨rfl, rfl⟩⟩
/-- Slice V holds the values VS. -/
def SlOf (Old : Nat → Prop) (w : World) (V : Value) (VS : List Value) : Prop :=
  ∃ a c, V = .slice a VS.length c ∧ VS.length ≤ c ∧ c ≤ maxLen ∧ (a = none → c = 0) ∧ (VS.length = 0 ∨ ∃ b off, a = some ⟨b, off, none⟩ ∧ b < w.heap.size ∧ ¬ Old b ∧ ∀ k v, VS[k]? = some v → w.cell? ⟨b, off + k, none⟩ = some v)
/-- Two lists side by side. -/
def Al {α β : Type} (R : α → β → Prop) (l : List α) (m : List β) : Prop := l.length = m.length ∧ ∀ (k : Nat) v x, l[k]? = some v → m[k]? = some x → R v x
/-- Bytes; rows of bytes; rows of those. -/
def R1 (Old : Nat → Prop) (w : World) (V : Value) (bs : List Int) : Prop := SlOf Old w V (bs.map (Value.int .u8)) ∧ IsB bs
def R2 (Old : Nat → Prop) (w : World) (V : Value) (M : List (List Int)) : Prop := ∃ VS, SlOf Old w V VS ∧ Al (R1 Old w) VS M
def R3 (Old : Nat → Prop) (w : World) (V : Value) (L : List (List (List Int))) : Prop := ∃ VS, SlOf Old w V VS ∧ Al (R2 Old w) VS L
variable {Old Old' : Nat → Prop} {w w' : World} {V : Value}
theorem SlOf.ext {VS : List Value} (h : SlOf Old w V VS) (e : Ext Old Old' w w') : SlOf Old' w' V VS := by
  obtain ⟨a, c, h1, h2, h3, h4, h5⟩ := h
  refine ⟨a, c, h1, h2, h3, h4, h5.imp id ?_⟩
  rintro ⟨b, off, rfl, hb, ho, hc⟩
  refine ⟨b, off, rfl, Nat.lt_of_lt_of_le hb e.size, fun x => (e.old b x).elim ho (by omega), fun k v hk => (cell_same (a := ⟨b, off + k, none⟩) (e.low b hb)).trans (hc k v hk)⟩
theorem Al.imp {α β : Type} {R S : α → β → Prop} {l : List α} {m : List β} (h : Al R l m) (hi : ∀ v x, R v x → S v x) : Al S l m := ⟨h.1, fun k v x h1 h2 => hi v x (h.2 k v x h1 h2)⟩
theorem R1.ext {bs : List Int} (h : R1 Old w V bs) (e : Ext Old Old' w w') : R1 Old' w' V bs := ⟨h.1.ext e, h.2⟩
theorem R2.ext {M : List (List Int)} (h : R2 Old w V M) (e : Ext Old Old' w w') : R2 Old' w' V M := by
  obtain ⟨VS, h1, h2⟩ := h
  exact ⟨VS, h1.ext e, h2.imp fun _ _ x => x.ext e⟩
theorem R3.ext {L : List (List (List Int))} (h : R3 Old w V L) (e : Ext Old Old' w w') : R3 Old' w' V L := by
  obtain ⟨VS, h1, h2⟩ := h
  exact ⟨VS, h1.ext e, h2.imp fun _ _ x => x.ext e⟩
theorem Ext.at (h : Ext Old Old' w w') (d : Nat) : Ext Old Old' w (w'.at d) := ⟨h.size, h.low, h.old, h.oo⟩
/-- What a slice holds, at a place. -/
theorem SlOf.cell {VS : List Value} {a : Option Addr} {n c k : Nat} {v : Value} (h : SlOf Old w (.slice a n c) VS) (hk : VS[k]? = some v) : ∃ b off, a = some ⟨b, off, none⟩ ∧ b < w.heap.size ∧ ¬ Old b ∧ w.cell? ⟨b, off + k, none⟩ = some v := by
  obtain ⟨a', c', h1, h2, h3, h4, h5⟩ := h
  simp only [Value.slice.injEq] at h1
  obtain ⟨rfl, rfl, rfl⟩ := h1
  rcases h5 with h5 | ⟨b, off, rfl, hb, ho, hc⟩
  · have := (List.getElem?_eq_some_iff.1 hk).1
    omega
  · exact ⟨b, off, rfl, hb, ho, hc k v hk⟩
theorem SlOf.len {VS : List Value} {a : Option Addr} {n c : Nat} (h : SlOf Old w (.slice a n c) VS) : n = VS.length := by
  obtain ⟨a', c', h1, _⟩ := h
  simp only [Value.slice.injEq] at h1
  exact h1.2.1
/-- What a slice of bytes says is one alone. -/
theorem SlOf.same {VS VS' : List Value} (h : SlOf Old w V VS) (h' : SlOf Old' w V VS') : VS = VS' := by
  obtain ⟨a, c, rfl, h2, h3, h4, h5⟩ := h
  obtain ⟨a', c', e, k2, k3, k4, k5⟩ := h'
  simp only [Value.slice.injEq] at e
  obtain ⟨rfl, hl, rfl⟩ := e
  refine List.ext_getElem hl fun i h1 h2' => ?_
  rcases h5 with h5 | ⟨b, off, rfl, hb, ho, hc⟩
  · omega
  · rcases k5 with k5 | ⟨b', off', e, hb', ho', hc'⟩
    · omega
    · cases e
      have x := hc i _ (List.getElem?_eq_getElem h1)
      have y := hc' i _ (List.getElem?_eq_getElem h2')
      rw [x] at y
      exact Option.some.inj y
theorem u8_inj : ∀ {a b : List Int}, a.map (Value.int .u8) = b.map (Value.int .u8) → a = b
  | [], [], _ => rfl
  | x :: a, y :: b, h => by
    simp only [List.map_cons, List.cons.injEq, Value.int.injEq, true_and] at h
    rw [h.1, u8_inj h.2]
  | [], y :: b, h => by simp at h
  | x :: a, [], h => by simp at h
theorem R1.same {a b : List Int} (h : R1 Old w V a) (h' : R1 Old' w V b) : a = b := u8_inj (h.1.same h'.1)
/-- Bytes, as the machine theorem's messages. -/
theorem R1.msg {bs : List Int} {B : World → Nat → Prop} (h : R1 Old w V bs) (hB : ∀ b off v, w.cell? ⟨b, off, none⟩ = some v → ¬ Old b → B w b) : Msg B V bs w := by
  obtain ⟨⟨a, c, rfl, h2, h3, h4, h5⟩, hb⟩ := h
  simp only [List.length_map] at h2 h5
  refine ⟨a, bs.length, c, by simp, rfl, h2, h3, h4, hb, ?_⟩
  by_cases hn : bs.length = 0
  · exact .inl hn
  · rcases h5 with h5 | ⟨b, off, rfl, hb', ho, hc⟩
    · exact .inl h5
    · refine .inr ⟨b, off, rfl, hb', ?_, fun i x hx => hc i _ (by rw [List.getElem?_map, hx]; rfl)⟩
      exact hB b (off + 0) (.int .u8 bs[0]) (hc 0 _ (by rw [List.getElem?_map, List.getElem?_eq_getElem (by omega)]; rfl)) ho
theorem R1.of_msg {bs : List Int} {B : World → Nat → Prop} (h : Msg B V bs w) (hB : ∀ b, B w b → ¬ Old b) : R1 Old w V bs := by
  obtain ⟨a, n, c, rfl, rfl, h3, h4, h5, h6, h7⟩ := h
  refine ⟨⟨a, c, by simp, by simpa using h3, h4, h5, ?_⟩, h6⟩
  rcases h7 with h7 | ⟨b, off, rfl, k2, k3, k4⟩
  · exact .inl (by simpa using h7)
  · refine .inr ⟨b, off, rfl, k2, hB b k3, fun k v hk => ?_⟩
    rw [List.getElem?_map] at hk
    obtain ⟨x, hx, rfl⟩ := Option.map_eq_some_iff.1 hk
    exact k4 k x hx
end Go.Proofs.Ytiobhgemjbjipaa
