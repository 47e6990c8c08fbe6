/- Two rows of messages behind a pointer: what they read as, what they lie in. No condition. -/
import Derived.Test.YtnbikaiejeclnaaDelete
namespace Go.Proofs.Ytnbikaiejeclnaa
open Go.ChangeShapes Go.WideShapes Go.ChangeAt Go.RowKit
set_option linter.unusedVariables false

/-- A row: its slice, its messages' slices, what they read as. -/
structure RowV where
  a : Option Addr
  n : Nat
  c : Nat
  vs : List (Option Addr × Nat × Nat)
  ls : List (List Int)

/-- The row's own blocks. -/
def RowV.fp (R : RowV) : List Nat := blk R.a ++ R.vs.flatMap fun v => blk v.1

/-- The row lies in a world, from block base on. -/
structure RowI (w : World) (base : Nat) (R : RowV) : Prop where
  own : Own encS 29 w base R.a R.n R.c R.vs
  len : R.vs.length = R.ls.length
  all : ∀ (i : Nat) (v : Option Addr × Nat × Nat) (l : List Int), R.vs[i]? = some v → R.ls[i]? = some l → OwnB 5 w base v.1 v.2.1 v.2.2 l

theorem RowI.num {w : World} {base : Nat} {R : RowV} (h : RowI w base R) : R.ls.length = R.n := by have := h.own.1; have := h.len; omega

theorem RowI.mem {w : World} {base : Nat} {R : RowV} (h : RowI w base R) {k : Nat} (hk : k ∈ R.fp) : base ≤ k ∧ k < w.heap.size := by
  rcases List.mem_append.1 hk with hk | hk
  · obtain ⟨x, hx, rfl⟩ := mem_blk.1 hk
    exact h.own.lt x hx
  · obtain ⟨v, hv, hk⟩ := List.mem_flatMap.1 hk
    obtain ⟨x, hx, rfl⟩ := mem_blk.1 hk
    obtain ⟨i, hi, rfl⟩ := List.getElem_of_mem hv
    have := h.len
    exact (h.all i _ _ (List.getElem?_eq_getElem hi) (List.getElem?_eq_getElem (by omega))).2.lt x hx

theorem RowI.upd {w w' : World} {base : Nat} {R : RowV} {F : Nat → Prop} (h : RowI w base R) (hu : Upd F w w') (hf : ∀ k ∈ R.fp, ¬ F k) : RowI w' base R :=
  ⟨h.own.upd hu (fun x hx => hf _ (List.mem_append_left _ (mem_blk.2 ⟨x, hx, rfl⟩))), h.len, fun i v l hv hl => (h.all i v l hv hl).upd hu (fun x hx => hf _ (List.mem_append_right _ (List.mem_flatMap.2 ⟨v, List.mem_of_getElem? hv, mem_blk.2 ⟨x, hx, rfl⟩⟩)))⟩

/-- Both rows, the one at cell k first. -/
structure NetAt (w : World) (base p k : Nat) (X Y : RowV) : Prop where
  le : base ≤ p
  lt : p < w.heap.size
  way : k < 2
  c0 : w.cell? ⟨p, k, none⟩ = some (.slice X.a X.n X.c)
  c1 : w.cell? ⟨p, 1 - k, none⟩ = some (.slice Y.a Y.n Y.c)
  f0 : w.frozen? ⟨p, k, none⟩ = false
  f1 : w.frozen? ⟨p, 1 - k, none⟩ = false
  x : RowI w base X
  y : RowI w base Y
  nd : (p :: (X.fp ++ Y.fp)).Nodup

def fpN (p : Nat) (X Y : RowV) : List Nat := p :: (X.fp ++ Y.fp)

theorem NetAt.swap {w : World} {base p k : Nat} {X Y : RowV} (h : NetAt w base p k X Y) : NetAt w base p (1 - k) Y X := by
  have hk := h.way
  refine ⟨h.le, h.lt, by omega, h.c1, ?_, h.f1, ?_, h.y, h.x, ?_⟩
  · rw [show 1 - (1 - k) = k by omega]; exact h.c0
  · rw [show 1 - (1 - k) = k by omega]; exact h.f0
  · have := h.nd
    rw [List.nodup_cons] at this ⊢
    exact ⟨fun hm => this.1 (List.mem_append.2 (List.mem_append.1 hm).symm), (List.perm_append_comm.nodup_iff).1 this.2⟩

theorem NetAt.mem {w : World} {base p k : Nat} {X Y : RowV} (h : NetAt w base p k X Y) {j : Nat} (hj : j ∈ fpN p X Y) : base ≤ j ∧ j < w.heap.size := by
  rcases List.mem_cons.1 hj with rfl | hj
  · exact ⟨h.le, h.lt⟩
  · rcases List.mem_append.1 hj with hj | hj
    · exact h.x.mem hj
    · exact h.y.mem hj

theorem NetAt.upd {w w' : World} {base p k : Nat} {X Y : RowV} {F : Nat → Prop} (h : NetAt w base p k X Y) (hu : Upd F w w') (hf : ∀ j ∈ fpN p X Y, ¬ F j) : NetAt w' base p k X Y :=
  ⟨h.le, Nat.lt_of_lt_of_le h.lt hu.size, h.way, hu.cell h.c0 (hf _ List.mem_cons_self), hu.cell h.c1 (hf _ List.mem_cons_self),
    (hu.frozen h.lt (hf _ List.mem_cons_self)).trans h.f0, (hu.frozen h.lt (hf _ List.mem_cons_self)).trans h.f1,
    h.x.upd hu (fun j hj => hf _ (List.mem_cons_of_mem _ (List.mem_append_left _ hj))), h.y.upd hu (fun j hj => hf _ (List.mem_cons_of_mem _ (List.mem_append_right _ hj))), h.nd⟩

/-- What the rows read as: the state. -/
def NetS (w : World) (base p : Nat) (S : List (List Int) × List (List Int)) (F : Nat → Prop) : Prop :=
  ∃ X Y, NetAt w base p 0 X Y ∧ X.ls = S.1 ∧ Y.ls = S.2 ∧ ∀ j, F j ↔ j ∈ fpN p X Y

theorem NetS.upd {w w' : World} {base p : Nat} {S : List (List Int) × List (List Int)} {F G : Nat → Prop} (h : NetS w base p S F) (hu : Upd G w w') (hf : ∀ j, F j → ¬ G j) : NetS w' base p S F := by
  obtain ⟨X, Y, h1, h2, h3, h4⟩ := h
  exact ⟨X, Y, h1.upd hu (fun j hj => hf j ((h4 j).2 hj)), h2, h3, h4⟩
theorem NetS.mem {w : World} {base p : Nat} {S : List (List Int) × List (List Int)} {F : Nat → Prop} (h : NetS w base p S F) {j : Nat} (hj : F j) : base ≤ j ∧ j < w.heap.size := by
  obtain ⟨X, Y, h1, h2, h3, h4⟩ := h
  exact h1.mem ((h4 j).1 hj)

/-- A way's row of the state; the state with another row. -/
def rowOf (S : List (List Int) × List (List Int)) (k : Nat) : List (List Int) := if k = 0 then S.1 else S.2
def setRow' (S : List (List Int) × List (List Int)) (k : Nat) (l : List (List Int)) : List (List Int) × List (List Int) := if k = 0 then (l, S.2) else (S.1, l)

theorem NetS.at {w : World} {base p : Nat} {S : List (List Int) × List (List Int)} {F : Nat → Prop} (h : NetS w base p S F) (k : Nat) (hk : k < 2) :
    ∃ X Y, NetAt w base p k X Y ∧ X.ls = rowOf S k ∧ Y.ls = rowOf S (1 - k) ∧ ∀ j, F j ↔ j ∈ fpN p X Y := by
  obtain ⟨X, Y, h1, h2, h3, h4⟩ := h
  rcases (by omega : k = 0 ∨ k = 1) with rfl | rfl
  · exact ⟨X, Y, h1, h2, h3, h4⟩
  · exact ⟨Y, X, h1.swap, h3, h2, fun j => by rw [h4 j]; simp [fpN, or_comm]⟩
theorem NetAt.state {w : World} {base p k : Nat} {X Y : RowV} (h : NetAt w base p k X Y) {S : List (List Int) × List (List Int)} (hy : Y.ls = rowOf S (1 - k)) : NetS w base p (setRow' S k X.ls) (· ∈ fpN p X Y) := by
  have hk := h.way
  rcases (by omega : k = 0 ∨ k = 1) with rfl | rfl
  · exact ⟨X, Y, h, rfl, hy, fun j => Iff.rfl⟩
  · exact ⟨Y, X, h.swap, hy, rfl, fun j => by simp [fpN, or_comm]⟩

end Go.Proofs.Ytnbikaiejeclnaa
