/- What a row's turn leaves of two rows behind a pointer. No condition. -/
import Derived.Test.YtnbikaiejeclnaaNetI
namespace Go.Proofs.Ytnbikaiejeclnaa
open Go.ChangeShapes Go.WideShapes Go.ChangeAt Go.RowKit
set_option linter.unusedVariables false

/-- What a step may do: the rows' own blocks, and new ones. -/
def NetP (w : World) (base p k : Nat) (X Y X' : RowV) (w' : World) : Prop :=
  NetAt w' base p k X' Y ∧ Upd (· ∈ fpN p X Y) w w' ∧ ∀ j ∈ fpN p X' Y, j ∈ fpN p X Y ∨ w.heap.size ≤ j

theorem NetP.refl {w : World} {base p k : Nat} {X Y : RowV} (h : NetAt w base p k X Y) : NetP w base p k X Y X w := ⟨h, Upd.refl _ _, fun j hj => .inl hj⟩
theorem NetAt.drewN {w : World} {base p k : Nat} {X Y : RowV} (h : NetAt w base p k X Y) (n : Nat) : NetAt (w.drewN n) base p k X Y := h.upd (Upd.drewN (Upd.refl (fun _ => False) _) n) (fun _ _ h => h)
theorem NetP.drewN {w : World} {base p k : Nat} {X Y : RowV} (h : NetAt w base p k X Y) (n : Nat) : NetP w base p k X Y X (w.drewN n) := ⟨h.drewN n, (Upd.refl _ _).drewN n, fun j hj => .inl hj⟩

/-- A step ahead in the world that turned nothing. -/
theorem NetP.ahead {w w1 w' : World} {base p k : Nat} {X Y X' : RowV} (h : Below w.heap.size w w1) (hp : NetP w1 base p k X Y X' w') : NetP w base p k X Y X' w' :=
  ⟨hp.1, (Upd.ofBelow h).trans hp.2.1 (fun _ _ h => h), fun j hj => (hp.2.2 j hj).imp id (fun h' => Nat.le_trans h.size h')⟩

theorem NetAt.put {w w2 : World} {base p k : Nat} {X Y X' : RowV} {F : Nat → Prop} (h : NetAt w base p k X Y) (hu : Upd F w w2) (hF : ∀ j, j < w.heap.size → F j → j ∈ X.fp)
    (hx : RowI w2 base X') (hsub : ∀ j ∈ X'.fp, j ∈ X.fp ∨ w.heap.size ≤ j) (hnd : X'.fp.Nodup) : NetP w base p k X Y X' (w2.setCell ⟨p, k, none⟩ (.slice X'.a X'.n X'.c)) := by
  have hN := h.nd
  rw [List.nodup_cons, List.nodup_append] at hN
  obtain ⟨hp, hnx, hny, hxy⟩ := hN
  have hpx : p ∉ X.fp := fun hh => hp (List.mem_append_left _ hh)
  have hpy : p ∉ Y.fp := fun hh => hp (List.mem_append_right _ hh)
  have hFp : ¬ F p := fun hh => hpx (hF p h.lt hh)
  have hFy : ∀ j ∈ Y.fp, ¬ F j := fun j hj hh => hxy j (hF j (h.y.mem hj).2 hh) j hj rfl
  have hpx' : p ∉ X'.fp := fun hh => by
    rcases hsub p hh with h1 | h1
    · exact hpx h1
    · have := h.lt; omega
  have hk := h.way
  have hlt2 : p < w2.heap.size := Nat.lt_of_lt_of_le h.lt hu.size
  have hc0 := hu.cell h.c0 hFp
  have hc1 := hu.cell h.c1 hFp
  have hf0 := (hu.frozen (p := ⟨p, k, none⟩) h.lt hFp).trans h.f0
  have hf1 := (hu.frozen (p := ⟨p, 1 - k, none⟩) h.lt hFp).trans h.f1
  have hset : Upd (· = p) w2 (w2.setCell ⟨p, k, none⟩ (.slice X'.a X'.n X'.c)) := Upd.setCell w2 ⟨p, k, none⟩ _ rfl
  refine ⟨⟨h.le, by simpa using hlt2, hk, World.cell?_setCell_same _ _ _ hc0, keep_set (by omega) hc1, by rw [World.frozen?_setCell]; exact hf0, by rw [World.frozen?_setCell]; exact hf1, ?_, ?_, ?_⟩, ?_, ?_⟩
  · exact hx.upd hset (fun j hj e => hpx' (e ▸ hj))
  · exact (h.y.upd hu hFy).upd hset (fun j hj e => hpy (e ▸ hj))
  · rw [List.nodup_cons, List.nodup_append]
    refine ⟨fun hh => (List.mem_append.1 hh).elim hpx' hpy, hnd, hny, fun a ha b hb e => ?_⟩
    subst e
    rcases hsub a ha with h1 | h1
    · exact hxy a h1 a hb rfl
    · have := (h.y.mem hb).2; omega
  · refine (hu.mono (G := (· ∈ fpN p X Y)) (fun j hj hh => List.mem_cons_of_mem _ (List.mem_append_left _ (hF j hj hh)))).trans hset (fun j _ e => by rw [e]; exact List.mem_cons_self)
  · intro j hj
    rcases List.mem_cons.1 hj with rfl | hj
    · exact .inl List.mem_cons_self
    · rcases List.mem_append.1 hj with hj | hj
      · exact (hsub j hj).imp (fun h1 => List.mem_cons_of_mem _ (List.mem_append_left _ h1)) id
      · exact .inl (List.mem_cons_of_mem _ (List.mem_append_right _ hj))

/-- One message more behind the others. -/
theorem NetAt.sent {w w1 w2 : World} {base p k : Nat} {X Y : RowV} {l : List Int} {a1 a2 : Option Addr} {n1 c1 c2 : Nat} (h : NetAt w base p k X Y) (hbs : base ≤ w.heap.size) (hb : Below w.heap.size w w1) (ho1 : OwnB 5 w1 w.heap.size a1 n1 c1 l)
    (ho2 : Own encS 29 w2 base a2 (X.n + 1) c2 (X.vs ++ [(a1, n1, c1)])) (hu : Upd (· ∈ blk X.a) w1 w2) (hat : ∀ j ∈ blk a2, j ∈ blk X.a ∨ w1.heap.size ≤ j) :
    NetP w base p k X Y ⟨a2, X.n + 1, c2, X.vs ++ [(a1, n1, c1)], X.ls ++ [l]⟩ (w2.setCell ⟨p, k, none⟩ (.slice a2 (X.n + 1) c2)) := by
  have hN := h.nd
  rw [List.nodup_cons, List.nodup_append] at hN
  obtain ⟨hp, hnx, hny, hxy⟩ := hN
  have hnx0 := hnx
  rw [RowV.fp, List.nodup_append] at hnx
  obtain ⟨hn1, hn2, hn3⟩ := hnx
  have hu0 : Upd (· ∈ blk X.a) w w2 := (Upd.ofBelow hb).trans hu (fun _ _ h => h)
  have hmem : ∀ j ∈ X.vs.flatMap (fun v => blk v.1), j < w.heap.size := fun j hj => (h.x.mem (List.mem_append_right _ hj)).2
  have h1mem : ∀ j ∈ blk a1, w.heap.size ≤ j ∧ j < w1.heap.size := fun j hj => by
    obtain ⟨x, hx, rfl⟩ := mem_blk.1 hj
    exact ho1.2.lt x hx
  have hXa : ∀ j ∈ blk X.a, j < w.heap.size := fun j hj => (h.x.mem (List.mem_append_left _ hj)).2
  have hrow : RowI w2 base ⟨a2, X.n + 1, c2, X.vs ++ [(a1, n1, c1)], X.ls ++ [l]⟩ := by
    refine ⟨ho2, by simp [h.x.len], ?_⟩
    intro i v l' hv hl
    have hlen := h.x.len
    rw [List.getElem?_append] at hv hl
    by_cases hi : i < X.vs.length
    · rw [if_pos hi] at hv
      rw [if_pos (by omega)] at hl
      refine (h.x.all i v l' hv hl).upd hu0 (fun x hx hh => ?_)
      exact hn3 _ hh _ (List.mem_flatMap.2 ⟨v, List.mem_of_getElem? hv, mem_blk.2 ⟨x, hx, rfl⟩⟩) rfl
    · rw [if_neg hi] at hv
      rw [if_neg (by omega)] at hl
      obtain ⟨j, hj⟩ : ∃ j, i = X.vs.length + j := ⟨i - X.vs.length, by omega⟩
      subst hj
      rw [Nat.add_sub_cancel_left] at hv
      rw [hlen, Nat.add_sub_cancel_left] at hl
      match j, hv, hl with
      | 0, hv, hl =>
        simp only [List.getElem?_cons_zero, Option.some.injEq] at hv hl
        subst hv; subst hl
        refine (ho1.base hbs).upd hu (fun x hx hh => ?_)
        have := hXa _ hh
        have := (ho1.2.lt x hx).1
        omega
      | j + 1, hv, hl => simp at hv
  refine h.put hu0 (fun j _ hj => List.mem_append_left _ hj) hrow ?_ ?_
  · intro j hj
    rcases List.mem_append.1 hj with hj | hj
    · exact (hat j hj).imp (fun h1 => List.mem_append_left _ h1) (fun h1 => Nat.le_trans hb.size h1)
    · rw [List.flatMap_append] at hj
      rcases List.mem_append.1 hj with hj | hj
      · exact .inl (List.mem_append_right _ hj)
      · simp only [List.flatMap_cons, List.flatMap_nil, List.append_nil] at hj
        exact .inr (h1mem j hj).1
  · show (blk a2 ++ (X.vs ++ [(a1, n1, c1)]).flatMap (fun v => blk v.1)).Nodup
    rw [List.flatMap_append, List.nodup_append]
    simp only [List.flatMap_cons, List.flatMap_nil, List.append_nil]
    have hb1 : (blk a1).Nodup := by cases a1 <;> simp [blk]
    refine ⟨by cases a2 <;> simp [blk], ?_, ?_⟩
    · rw [List.nodup_append]
      refine ⟨hn2, hb1, fun a ha b hb' e => ?_⟩
      subst e
      have := hmem a ha; have := (h1mem a hb').1; omega
    · intro a ha b hb' e
      subst e
      rcases List.mem_append.1 hb' with hb' | hb'
      · rcases hat a ha with h1 | h1
        · exact hn3 a h1 a hb' rfl
        · have := hmem a hb'; have := hb.size; omega
      · rcases hat a ha with h1 | h1
        · have := hXa a h1; have := (h1mem a hb').1; omega
        · have := (h1mem a hb').2; omega

theorem flatMap_erase (vs : List (Option Addr × Nat × Nat)) (i : Nat) : ((vs.eraseIdx i).flatMap fun v => blk v.1).Sublist (vs.flatMap fun v => blk v.1) := by
  induction vs generalizing i with
  | nil => simp
  | cons v r ih =>
    cases i with
    | zero => exact List.sublist_append_right _ _
    | succ i => exact (List.Sublist.refl _).append (ih i)

/-- One message off a row, what is left owned anew: in the old block or in a new one. -/
theorem NetAt.took {w w2 : World} {base p k i : Nat} {X Y : RowV} {F : Nat → Prop} {a2 : Option Addr} {c2 : Nat} (h : NetAt w base p k X Y) (hi : i < X.vs.length)
    (ho2 : Own encS 29 w2 base a2 (X.n - 1) c2 (X.vs.eraseIdx i)) (hu : Upd F w w2) (hF : ∀ j, j < w.heap.size → F j → j ∈ blk X.a) (hat : ∀ j ∈ blk a2, j ∈ blk X.a ∨ w.heap.size ≤ j) :
    NetP w base p k X Y ⟨a2, X.n - 1, c2, X.vs.eraseIdx i, X.ls.eraseIdx i⟩ (w2.setCell ⟨p, k, none⟩ (.slice a2 (X.n - 1) c2)) ∧
      ∀ (v : Option Addr × Nat × Nat) (l : List Int), X.vs[i]? = some v → X.ls[i]? = some l → RdB (w2.setCell ⟨p, k, none⟩ (.slice a2 (X.n - 1) c2)) v.1 v.2.1 v.2.2 l := by
  have hN := h.nd
  rw [List.nodup_cons, List.nodup_append] at hN
  obtain ⟨hp, hnx, hny, hxy⟩ := hN
  have hnx0 := hnx
  rw [RowV.fp, List.nodup_append] at hnx
  obtain ⟨hn1, hn2, hn3⟩ := hnx
  have hlen := h.x.len
  have hFv : ∀ (v : Option Addr × Nat × Nat), v ∈ X.vs → ∀ x, v.1 = some x → ¬ F x.block := fun v hv x hx hh =>
    hn3 _ (hF _ (h.x.mem (List.mem_append_right _ (List.mem_flatMap.2 ⟨v, hv, mem_blk.2 ⟨x, hx, rfl⟩⟩))).2 hh) _ (List.mem_flatMap.2 ⟨v, hv, mem_blk.2 ⟨x, hx, rfl⟩⟩) rfl
  have hrow : RowI w2 base ⟨a2, X.n - 1, c2, X.vs.eraseIdx i, X.ls.eraseIdx i⟩ := by
    refine ⟨ho2, by rw [List.length_eraseIdx, List.length_eraseIdx]; simp [hlen], ?_⟩
    intro j v l' hv hl
    simp only [List.getElem?_eraseIdx] at hv hl
    by_cases hj : j < i
    · rw [if_pos hj] at hv hl
      exact (h.x.all j v l' hv hl).upd hu (hFv v (List.mem_of_getElem? hv))
    · rw [if_neg hj] at hv hl
      exact (h.x.all _ v l' hv hl).upd hu (hFv v (List.mem_of_getElem? hv))
  refine ⟨h.put hu (fun j hj hh => List.mem_append_left _ (hF j hj hh)) hrow ?_ ?_, ?_⟩
  · intro j hj
    rcases List.mem_append.1 hj with hj | hj
    · exact (hat j hj).imp (fun h1 => List.mem_append_left _ h1) id
    · exact .inl (List.mem_append_right _ ((flatMap_erase X.vs i).subset hj))
  · show (blk a2 ++ (X.vs.eraseIdx i).flatMap (fun v => blk v.1)).Nodup
    rw [List.nodup_append]
    refine ⟨by cases a2 <;> simp [blk], hn2.sublist (flatMap_erase _ _), fun a ha b hb e => ?_⟩
    subst e
    have hb' := (flatMap_erase X.vs i).subset hb
    rcases hat a ha with h1 | h1
    · exact hn3 a h1 a hb' rfl
    · have := (h.x.mem (List.mem_append_right _ hb')).2; omega
  · intro v l' hv hl
    have hm := List.mem_of_getElem? hv
    refine ((h.x.all i v l' hv hl).rd.upd hu (hFv v hm)).upd (Upd.setCell (F := (· = p)) w2 ⟨p, k, none⟩ _ rfl) (fun x hx e => hp (List.mem_append_left _ (List.mem_append_right _ (List.mem_flatMap.2 ⟨v, hm, mem_blk.2 ⟨x, hx, e⟩⟩))))

end Go.Proofs.Ytnbikaiejeclnaa
