/- A file of sect behind a pointer: what it reads as, what it lies in. No condition. -/
import Derived.Test.YtenikpbnggkmgaaUpd
import Derived.Test.YtenikpbnggkmgaaSectN
import Derived.Test.YtenikpbnggkmgaaClone
namespace Go.Proofs.Ytenikpbnggkmgaa
open Go.ChangeShapes Go.WideShapes Go.ChangeAt Go.RowKit
set_option linter.unusedVariables false

/-- The file's two slices, its bytes, those that are safe. -/
structure FileAt (w : World) (base p : Nat) (a : Option Addr) (n c : Nat) (b : List Int) (a' : Option Addr) (n' c' : Nat) (s : List Int) : Prop where
  le : base ≤ p
  lt : p < w.heap.size
  c0 : w.cell? ⟨p, 0, none⟩ = some (.slice a n c)
  c1 : w.cell? ⟨p, 1, none⟩ = some (.slice a' n' c')
  f0 : w.frozen? ⟨p, 0, none⟩ = false
  f1 : w.frozen? ⟨p, 1, none⟩ = false
  x : OwnB 5 w base a n c b
  y : OwnB 5 w base a' n' c' s
  nd : (p :: (blk a ++ blk a')).Nodup
  lb : b.length ≤ 32768
  ls : s.length ≤ 32768

def FileS (w : World) (base p : Nat) (b s : List Int) (F : Nat → Prop) : Prop :=
  ∃ a n c a' n' c', FileAt w base p a n c b a' n' c' s ∧ ∀ j, F j ↔ j ∈ p :: (blk a ++ blk a')

theorem FileAt.mem {w : World} {base p : Nat} {a : Option Addr} {n c : Nat} {b : List Int} {a' : Option Addr} {n' c' : Nat} {s : List Int} (h : FileAt w base p a n c b a' n' c' s) {j : Nat} (hj : j ∈ p :: (blk a ++ blk a')) : base ≤ j ∧ j < w.heap.size := by
  rcases List.mem_cons.1 hj with rfl | hj
  · exact ⟨h.le, h.lt⟩
  · rcases List.mem_append.1 hj with hj | hj
    · obtain ⟨x, hx, rfl⟩ := mem_blk.1 hj
      exact h.x.2.lt x hx
    · obtain ⟨x, hx, rfl⟩ := mem_blk.1 hj
      exact h.y.2.lt x hx

theorem FileAt.upd {w w' : World} {base p : Nat} {a : Option Addr} {n c : Nat} {b : List Int} {a' : Option Addr} {n' c' : Nat} {s : List Int} {F : Nat → Prop} (h : FileAt w base p a n c b a' n' c' s) (hu : Upd F w w') (hf : ∀ j ∈ p :: (blk a ++ blk a'), ¬ F j) : FileAt w' base p a n c b a' n' c' s :=
  ⟨h.le, Nat.lt_of_lt_of_le h.lt hu.size, hu.cell h.c0 (hf _ List.mem_cons_self), hu.cell h.c1 (hf _ List.mem_cons_self),
    (hu.frozen h.lt (hf _ List.mem_cons_self)).trans h.f0, (hu.frozen h.lt (hf _ List.mem_cons_self)).trans h.f1,
    h.x.upd hu (fun z hz => hf _ (List.mem_cons_of_mem _ (List.mem_append_left _ (mem_blk.2 ⟨z, hz, rfl⟩)))), h.y.upd hu (fun z hz => hf _ (List.mem_cons_of_mem _ (List.mem_append_right _ (mem_blk.2 ⟨z, hz, rfl⟩)))), h.nd, h.lb, h.ls⟩

theorem FileS.upd {w w' : World} {base p : Nat} {b s : List Int} {F G : Nat → Prop} (h : FileS w base p b s F) (hu : Upd G w w') (hf : ∀ j, F j → ¬ G j) : FileS w' base p b s F := by
  obtain ⟨a, n, c, a', n', c', h1, h2⟩ := h
  exact ⟨a, n, c, a', n', c', h1.upd hu (fun j hj => hf j ((h2 j).2 hj)), h2⟩
theorem FileS.below {w w' : World} {base p : Nat} {b s : List Int} {F : Nat → Prop} (h : FileS w base p b s F) (hb : Below w.heap.size w w') : FileS w' base p b s F :=
  h.upd (G := fun _ => False) (Upd.ofBelow hb) (fun _ _ h => h)
theorem FileS.mem {w : World} {base p : Nat} {b s : List Int} {F : Nat → Prop} (h : FileS w base p b s F) {j : Nat} (hj : F j) : base ≤ j ∧ j < w.heap.size := by
  obtain ⟨a, n, c, a', n', c', h1, h2⟩ := h
  exact h1.mem ((h2 j).1 hj)
theorem FileS.lb {w : World} {base p : Nat} {b s : List Int} {F : Nat → Prop} (h : FileS w base p b s F) : b.length ≤ 32768 := by
  obtain ⟨a, n, c, a', n', c', h1, h2⟩ := h; exact h1.lb
theorem FileS.ls {w : World} {base p : Nat} {b s : List Int} {F : Nat → Prop} (h : FileS w base p b s F) : s.length ≤ 32768 := by
  obtain ⟨a, n, c, a', n', c', h1, h2⟩ := h; exact h1.ls
theorem FileS.base {w : World} {base base' p : Nat} {b s : List Int} {F : Nat → Prop} (h : FileS w base p b s F) (hb : base' ≤ base) : FileS w base' p b s F := by
  obtain ⟨a, n, c, a', n', c', h1, h2⟩ := h
  exact ⟨a, n, c, a', n', c', ⟨Nat.le_trans hb h1.le, h1.lt, h1.c0, h1.c1, h1.f0, h1.f1, h1.x.base hb, h1.y.base hb, h1.nd, h1.lb, h1.ls⟩, h2⟩

/-- What a call may do to the file: its own blocks, and new ones. -/
def FileStep (w : World) (base p : Nat) (F : Nat → Prop) (b s : List Int) (w' : World) : Prop :=
  ∃ F', FileS w' base p b s F' ∧ Upd F w w' ∧ ∀ j, F' j → F j ∨ w.heap.size ≤ j
theorem FileStep.refl {w : World} {base p : Nat} {b s : List Int} {F : Nat → Prop} (h : FileS w base p b s F) : FileStep w base p F b s w := ⟨F, h, Upd.refl _ _, fun j hj => .inl hj⟩
theorem FileStep.trans {w w1 w2 : World} {base p : Nat} {b s b2 s2 : List Int} {F : Nat → Prop} (h : FileStep w base p F b s w1) (k : ∀ F1, FileS w1 base p b s F1 → FileStep w1 base p F1 b2 s2 w2) : FileStep w base p F b2 s2 w2 := by
  obtain ⟨F1, h1, h2, h3⟩ := h
  obtain ⟨F2, k1, k2, k3⟩ := k F1 h1
  refine ⟨F2, k1, h2.trans k2 (fun j hj hh => (h3 j hh).elim id (fun h' => by omega)), fun j hj => ?_⟩
  rcases k3 j hj with h' | h'
  · exact h3 j h'
  · exact .inr (Nat.le_trans h2.size h')
theorem FileStep.ahead {w w1 w2 : World} {base p : Nat} {b s : List Int} {F : Nat → Prop} (hb : Below w.heap.size w w1) (k : FileStep w1 base p F b s w2) : FileStep w base p F b s w2 := by
  obtain ⟨F2, k1, k2, k3⟩ := k
  exact ⟨F2, k1, (Upd.ofBelow hb).trans k2 (fun _ _ h => h), fun j hj => (k3 j hj).imp id (fun h' => Nat.le_trans hb.size h')⟩

theorem nodup3 {p : Nat} {x y : List Nat} (h1 : p ∉ x) (h2 : p ∉ y) (hx : x.Nodup) (hy : y.Nodup) (h3 : ∀ k ∈ x, k ∉ y) : (p :: (x ++ y)).Nodup := by
  rw [List.nodup_cons, List.nodup_append]
  exact ⟨fun h => (List.mem_append.1 h).elim h1 h2, hx, hy, fun a ha b hb e => h3 a ha (e ▸ hb)⟩
theorem blk_nodup (a : Option Addr) : (blk a).Nodup := by cases a <;> simp [blk]
theorem nd_parts {p : Nat} {x y : List Nat} (h : (p :: (x ++ y)).Nodup) : p ∉ x ∧ p ∉ y ∧ ∀ k ∈ x, k ∉ y := by
  rw [List.nodup_cons, List.nodup_append] at h
  exact ⟨fun hh => h.1 (List.mem_append_left _ hh), fun hh => h.1 (List.mem_append_right _ hh), fun k hk hk' => h.2.2.2 k hk k hk' rfl⟩

/-- The bytes turned to another slice, that lies in the old block or in a new one. -/
theorem FileAt.turn0 {w w1 : World} {base p : Nat} {a : Option Addr} {n c : Nat} {b : List Int} {a' : Option Addr} {n' c' : Nat} {s : List Int} (h : FileAt w base p a n c b a' n' c' s)
    {a1 : Option Addr} {n1 c1 : Nat} {b1 : List Int} (hu : Upd (· ∈ blk a) w w1) (ho : OwnB 5 w1 base a1 n1 c1 b1) (hk : ∀ k ∈ blk a1, k ∈ blk a ∨ w.heap.size ≤ k) (hb : b1.length ≤ 32768) :
    FileAt (w1.setCell ⟨p, 0, none⟩ (.slice a1 n1 c1)) base p a1 n1 c1 b1 a' n' c' s ∧ Upd (· ∈ p :: (blk a ++ blk a')) w (w1.setCell ⟨p, 0, none⟩ (.slice a1 n1 c1)) ∧ ∀ j ∈ p :: (blk a1 ++ blk a'), j ∈ p :: (blk a ++ blk a') ∨ w.heap.size ≤ j := by
  obtain ⟨h1, h2, h3⟩ := nd_parts h.nd
  have hp : p ∉ blk a1 := fun hh => (hk p hh).elim h1 (fun h' => by have := h.lt; omega)
  have hpw : p < w1.heap.size := Nat.lt_of_lt_of_le h.lt hu.size
  have hS : Upd (· = p) w1 (w1.setCell ⟨p, 0, none⟩ (.slice a1 n1 c1)) := Upd.setCell _ _ _ rfl
  have hpc : w1.cell? ⟨p, 1, none⟩ = some (.slice a' n' c') := ucell hu h1 h.c1
  have hpc0 : w1.cell? ⟨p, 0, none⟩ = some (.slice a n c) := ucell hu h1 h.c0
  have hf0 : w1.frozen? ⟨p, 0, none⟩ = false := ufree hu h.lt h1 h.f0
  have hf1 : w1.frozen? ⟨p, 1, none⟩ = false := ufree hu h.lt h1 h.f1
  have hy : OwnB 5 w1 base a' n' c' s := h.y.upd hu (fun z hz hz2 => h3 _ hz2 (mem_blk.2 ⟨z, hz, rfl⟩))
  refine ⟨⟨h.le, by simpa using hpw, ?_, keep_set (by decide) hpc, by simpa using hf0, by simpa using hf1, ho.upd hS (fun z hz e => hp (mem_blk.2 ⟨z, hz, e⟩)), hy.upd hS (fun z hz e => h2 (mem_blk.2 ⟨z, hz, e⟩)), ?_, hb, h.ls⟩, ?_, ?_⟩
  · exact World.cell?_setCell_same _ _ _ hpc0
  · refine nodup3 hp h2 (blk_nodup _) (blk_nodup _) (fun k hk1 hk2 => ?_)
    rcases hk k hk1 with h' | h'
    · exact h3 k h' hk2
    · obtain ⟨z, hz, rfl⟩ := mem_blk.1 hk2
      have := (h.y.2.lt z hz).2
      omega
  · exact (hu.mono (fun k _ hk => List.mem_cons_of_mem _ (List.mem_append_left _ hk))).trans hS (fun j _ hj => by rw [hj]; exact List.mem_cons_self)
  · intro j hj
    rcases List.mem_cons.1 hj with rfl | hj
    · exact .inl List.mem_cons_self
    · rcases List.mem_append.1 hj with hj | hj
      · exact (hk j hj).imp (fun h => List.mem_cons_of_mem _ (List.mem_append_left _ h)) id
      · exact .inl (List.mem_cons_of_mem _ (List.mem_append_right _ hj))

/-- The safe bytes turned to a new slice. -/
theorem FileAt.turn1 {w w1 : World} {base p : Nat} {a : Option Addr} {n c : Nat} {b : List Int} {a' : Option Addr} {n' c' : Nat} {s : List Int} (h : FileAt w base p a n c b a' n' c' s)
    {a1 : Option Addr} {n1 c1 : Nat} {b1 : List Int} (hB : Below w.heap.size w w1) (ho : OwnB 5 w1 w.heap.size a1 n1 c1 b1) (hb : b1.length ≤ 32768) :
    FileAt (w1.setCell ⟨p, 1, none⟩ (.slice a1 n1 c1)) base p a n c b a1 n1 c1 b1 ∧ Upd (· ∈ p :: (blk a ++ blk a')) w (w1.setCell ⟨p, 1, none⟩ (.slice a1 n1 c1)) ∧ ∀ j ∈ p :: (blk a ++ blk a1), j ∈ p :: (blk a ++ blk a') ∨ w.heap.size ≤ j := by
  obtain ⟨h1, h2, h3⟩ := nd_parts h.nd
  have hlt := h.lt
  have hk : ∀ k ∈ blk a1, w.heap.size ≤ k := fun k hk => by
    obtain ⟨z, hz, rfl⟩ := mem_blk.1 hk
    exact (ho.2.lt z hz).1
  have hp : p ∉ blk a1 := fun hh => by have := hk p hh; omega
  have hpw : p < w1.heap.size := Nat.lt_of_lt_of_le h.lt hB.size
  have hS : Upd (· = p) w1 (w1.setCell ⟨p, 1, none⟩ (.slice a1 n1 c1)) := Upd.setCell _ _ _ rfl
  have hpc : w1.cell? ⟨p, 0, none⟩ = some (.slice a n c) := bcell hB h.lt h.c0
  have hpc1 : w1.cell? ⟨p, 1, none⟩ = some (.slice a' n' c') := bcell hB h.lt h.c1
  have hf0 : w1.frozen? ⟨p, 0, none⟩ = false := bfree hB h.lt h.f0
  have hf1 : w1.frozen? ⟨p, 1, none⟩ = false := bfree hB h.lt h.f1
  have hbase : base ≤ w.heap.size := Nat.le_trans h.le (Nat.le_of_lt h.lt)
  refine ⟨⟨h.le, by simpa using hpw, keep_set (by decide) hpc, ?_, by simpa using hf0, by simpa using hf1, (h.x.mono hB).upd hS (fun z hz e => h1 (mem_blk.2 ⟨z, hz, e⟩)), (ho.base hbase).upd hS (fun z hz e => hp (mem_blk.2 ⟨z, hz, e⟩)), ?_, h.lb, hb⟩, ?_, ?_⟩
  · exact World.cell?_setCell_same _ _ _ hpc1
  · refine nodup3 h1 hp (blk_nodup _) (blk_nodup _) (fun k hk1 hk2 => ?_)
    obtain ⟨z, hz, rfl⟩ := mem_blk.1 hk1
    have := (h.x.2.lt z hz).2
    have := hk _ hk2
    omega
  · exact (Upd.ofBelow hB).trans hS (fun j _ hj => by rw [hj]; exact List.mem_cons_self)
  · intro j hj
    rcases List.mem_cons.1 hj with rfl | hj
    · exact .inl List.mem_cons_self
    · rcases List.mem_append.1 hj with hj | hj
      · exact .inl (List.mem_cons_of_mem _ (List.mem_append_left _ hj))
      · exact .inr (hk j hj)
/-- The bytes turned in place. -/
theorem FileAt.inPlace {w w1 : World} {base p : Nat} {a : Option Addr} {n c : Nat} {b : List Int} {a' : Option Addr} {n' c' : Nat} {s : List Int} (h : FileAt w base p a n c b a' n' c' s)
    {b1 : List Int} (hu : Upd (· ∈ blk a) w w1) (ho : OwnB 5 w1 base a n c b1) (hb : b1.length ≤ 32768) : FileAt w1 base p a n c b1 a' n' c' s := by
  obtain ⟨h1, h2, h3⟩ := nd_parts h.nd
  exact ⟨h.le, Nat.lt_of_lt_of_le h.lt hu.size, ucell hu h1 h.c0, ucell hu h1 h.c1, ufree hu h.lt h1 h.f0, ufree hu h.lt h1 h.f1, ho, h.y.upd hu (fun z hz hz2 => h3 _ hz2 (mem_blk.2 ⟨z, hz, rfl⟩)), h.nd, hb, h.ls⟩

end Go.Proofs.Ytenikpbnggkmgaa
