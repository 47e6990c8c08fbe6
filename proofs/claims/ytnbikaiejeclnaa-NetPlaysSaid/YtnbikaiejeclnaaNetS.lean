/- net.Net's methods, by what the rows read as. Conditions stand as premises. -/
import Derived.Test.YtnbikaiejeclnaaNetTake
namespace Go.Proofs.Ytnbikaiejeclnaa
open Go.ChangeShapes Go.WideShapes Go.ChangeAt Go.RowKit
set_option linter.unusedVariables false

abbrev St := List (List Int) × List (List Int)
/-- Is there such a way? -/
def isW (k : Int) : Bool := decide (k = 0 ∨ k = 1)
def rowS (S : St) (k : Int) : List (List Int) := rowOf S k.toNat
def setS (S : St) (k : Int) (l : List (List Int)) : St := setRow' S k.toNat l
def sendC (S : St) (k : Int) : Int := if isW k then (if 32 ≤ (rowS S k).length then 15 else 0) else 1
def sendS (S : St) (k : Int) (l : List Int) : St := if sendC S k = 0 then setS S k (rowS S k ++ [l]) else S
def getC (S : St) (k i : Int) : Int := if isW k then (if 0 ≤ i ∧ i < (rowS S k).length then 0 else 16) else 1
def getL (S : St) (k i : Int) : List Int := (rowS S k)[i.toNat]?.getD []
def takeS (S : St) (k i : Int) : St := if getC S k i = 0 then setS S k ((rowS S k).eraseIdx i.toNat) else S
def dblC (S : St) (k i : Int) : Int := if getC S k i = 0 then sendC S k else getC S k i
def dblS (S : St) (k i : Int) : St := if getC S k i = 0 then sendS S k (getL S k i) else S
def spoC (S : St) (k i at_ : Int) : Int := if getC S k i = 0 then (if 0 ≤ at_ ∧ at_ < (getL S k i).length then 0 else 16) else getC S k i
def spoS (S : St) (k i at_ x : Int) : St := if spoC S k i at_ = 0 then setS S k ((rowS S k).set i.toNat (spoilL (getL S k i) at_.toNat x)) else S

theorem isW_yes {k : Int} (h : isW k = true) : k = 0 ∨ k = 1 := by simpa [isW] using h
theorem isW_no {k : Int} (h : ¬ isW k = true) : k ≠ 0 ∧ k ≠ 1 := by simpa [isW] using h

/-- What a call may do to the ways: their own blocks, and new ones. -/
def NetStep (w : World) (base p : Nat) (S : St) (F : Nat → Prop) (S' : St) (w' : World) : Prop :=
  ∃ F', NetS w' base p S' F' ∧ Upd F w w' ∧ ∀ j, F' j → F j ∨ w.heap.size ≤ j
theorem NetStep.refl {w : World} {base p : Nat} {S : St} {F : Nat → Prop} (h : NetS w base p S F) : NetStep w base p S F S w := ⟨F, h, Upd.refl _ _, fun j hj => .inl hj⟩
theorem NetStep.trans {w w1 w2 : World} {base p : Nat} {S S1 S2 : St} {F : Nat → Prop} (h : NetStep w base p S F S1 w1) (k : ∀ F1, NetS w1 base p S1 F1 → NetStep w1 base p S1 F1 S2 w2) : NetStep w base p S F S2 w2 := by
  obtain ⟨F1, h1, h2, h3⟩ := h
  obtain ⟨F2, k1, k2, k3⟩ := k F1 h1
  refine ⟨F2, k1, h2.trans k2 (fun j hj hh => (h3 j hh).elim id (fun h' => by omega)), fun j hj => ?_⟩
  rcases k3 j hj with h' | h'
  · exact h3 j h'
  · exact .inr (Nat.le_trans h2.size h')
theorem NetStep.ahead {w w1 w2 : World} {base p : Nat} {S S2 : St} {F : Nat → Prop} (hb : Below w.heap.size w w1) (k : NetStep w1 base p S F S2 w2) : NetStep w base p S F S2 w2 := by
  obtain ⟨F2, k1, k2, k3⟩ := k
  exact ⟨F2, k1, (Upd.ofBelow hb).trans k2 (fun _ _ h => h), fun j hj => (k3 j hj).imp id (fun h' => Nat.le_trans hb.size h')⟩

theorem RowsP.step {w w' : World} {base p k : Nat} {X Y : RowV} {S : St} {F : Nat → Prop} {ls : List (List Int)} (hy : Y.ls = rowOf S (1 - k)) (hF : ∀ j, F j ↔ j ∈ fpN p X Y) (h : RowsP w base p k X Y ls w') : NetStep w base p S F (setRow' S k ls) w' := by
  obtain ⟨X', rfl, h1, h2, h3⟩ := h
  exact ⟨_, h1.state hy, h2.mono (fun j _ hj => (hF j).2 hj), fun j hj => (h3 j hj).imp (hF j).2 id⟩
theorem setS_self (S : St) (k : Int) : setS S k (rowS S k) = S := by
  unfold setS setRow' rowS rowOf; split <;> rfl

theorem NetS.row {w : World} {base p : Nat} {S : St} {F : Nat → Prop} (h : NetS w base p S F) {k : Int} (hk : isW k = true) :
    ∃ X Y, NetAt w base p k.toNat X Y ∧ k = (k.toNat : Int) ∧ X.ls = rowS S k ∧ Y.ls = rowOf S (1 - k.toNat) ∧ ∀ j, F j ↔ j ∈ fpN p X Y := by
  have h1 := isW_yes hk
  obtain ⟨X, Y, h2, h3, h4, h5⟩ := h.at k.toNat (by omega)
  exact ⟨X, Y, h2, by omega, h3, h4, h5⟩

theorem s_len (base p : Nat) (S : St) (F : Nat → Prop) (k : Int) (w : World) (h : NetS w base p S F) :
    Calls Try.prog 14 #[.pointer (some ⟨p, 0, none⟩), .int .i64 k] w fun e w' => e = .returned (.int .i64 (if isW k then ((rowS S k).length : Int) else 0)) ∧ w = w' := by
  by_cases hk : isW k = true
  · obtain ⟨X, Y, h1, h2, h3, h4, h5⟩ := h.row hk
    rw [if_pos hk, ← h3, h1.x.num]
    exact netlen_yes p k.toNat k base X Y w h1 h2
  · rw [if_neg hk]
    exact netlen_no p k _ (isW_no hk).1 (isW_no hk).2 w

theorem s_send (base p : Nat) (S : St) (F : Nat → Prop) (k : Int) (a : Option Addr) (n c : Nat) (l : List Int) (w : World) (h : NetS w base p S F) (hr : RdB w a n c l) (hlen : n ≤ 140737488351232) :
    Calls Try.prog 16 #[.pointer (some ⟨p, 0, none⟩), .int .i64 k, .slice a n c] w fun e w' => e = .returned (.int .i64 (sendC S k)) ∧ NetStep w base p S F (sendS S k l) w' := by
  unfold sendS sendC
  by_cases hk : isW k = true
  · obtain ⟨X, Y, h1, h2, h3, h4, h5⟩ := h.row hk
    have hn := h1.x.num
    rw [if_pos hk, ← h3, hn]
    by_cases hl : 32 ≤ X.n
    · rw [if_pos hl, if_neg (by decide)]
      refine (netsend_full p k.toNat k _ base X Y w h1 h2 hl).mono ?_
      rintro e w' ⟨rfl, rfl⟩
      exact ⟨rfl, NetStep.refl h⟩
    · rw [if_neg hl, if_pos rfl]
      refine (netsend_ok p k.toNat k base X Y a n c l w h1 h2 (by omega) hr hlen).mono ?_
      rintro e w' ⟨rfl, hR⟩
      exact ⟨rfl, hR.step h4 h5⟩
  · rw [if_neg hk, if_neg (by decide)]
    refine (netsend_no k _ _ (isW_no hk).1 (isW_no hk).2 w).mono ?_
    rintro e w' ⟨rfl, rfl⟩
    exact ⟨rfl, NetStep.refl h⟩

/-- A message taken. -/
def TakeS (w : World) (base p : Nat) (S : St) (F : Nat → Prop) (k i : Int) (e : Ending) (w' : World) : Prop :=
  ∃ a n c, e = .returned (.tuple #[.slice a n c, .int .i64 (getC S k i)]) ∧ RdB w' a n c (if getC S k i = 0 then getL S k i else []) ∧ (∀ x, a = some x → F x.block) ∧ NetStep w base p S F (takeS S k i) w'

theorem RdB.nilW (w : World) : RdB w none 0 0 [] := ⟨IsB.nil, rfl, Nat.le_refl _, Nat.zero_le _, fun _ => rfl, .inl rfl⟩

theorem s_get_bad (base p : Nat) (S : St) (F : Nat → Prop) (k i : Int) (w : World) (h : NetS w base p S F) (hne : ¬ getC S k i = 0) :
    (getC S k i != 0) = true ∧ Calls Try.prog 24 #[.pointer (some ⟨p, 0, none⟩), .int .i64 k, .int .i64 i] w fun e w' => e = .returned (.tuple #[.slice none 0 0, .int .i64 (getC S k i)]) ∧ w = w' := by
  refine ⟨by simpa using hne, ?_⟩
  unfold getC at hne ⊢
  by_cases hk : isW k = true
  · obtain ⟨X, Y, h1, h2, h3, h4, h5⟩ := h.row hk
    have hn := h1.x.num
    rw [if_pos hk, ← h3, hn] at hne ⊢
    by_cases hi : 0 ≤ i ∧ i < X.n
    · rw [if_pos hi] at hne; exact absurd rfl hne
    · rw [if_neg hi]
      exact netget_none p k.toNat k i base X Y w h1 h2 (by omega)
  · rw [if_neg hk]
    exact netget_no k i _ (isW_no hk).1 (isW_no hk).2 w

/-- A message that is there. -/
theorem s_get_at (base p : Nat) (S : St) (F : Nat → Prop) (k i : Int) (w : World) (h : NetS w base p S F) (h0 : getC S k i = 0) :
    ∃ X Y v, NetAt w base p k.toNat X Y ∧ k = (k.toNat : Int) ∧ i = (i.toNat : Int) ∧ X.ls = rowS S k ∧ Y.ls = rowOf S (1 - k.toNat) ∧ (∀ j, F j ↔ j ∈ fpN p X Y) ∧ i.toNat < X.n ∧ X.vs[i.toNat]? = some v ∧ X.ls[i.toNat]? = some (getL S k i) := by
  unfold getC at h0
  by_cases hk : isW k = true
  · obtain ⟨X, Y, h1, h2, h3, h4, h5⟩ := h.row hk
    have hn := h1.x.num
    have hvl := h1.x.len
    rw [if_pos hk, ← h3, hn] at h0
    by_cases hi : 0 ≤ i ∧ i < X.n
    · obtain ⟨v, hv⟩ : ∃ v, X.vs[i.toNat]? = some v := ⟨_, List.getElem?_eq_getElem (by omega)⟩
      refine ⟨X, Y, v, h1, h2, by omega, h3, h4, h5, by omega, hv, ?_⟩
      unfold getL
      rw [← h3, List.getElem?_eq_getElem (by omega)]
      rfl
    · rw [if_neg hi] at h0; cases h0
  · rw [if_neg hk] at h0; cases h0

theorem s_take (base p : Nat) (S : St) (F : Nat → Prop) (k i : Int) (w : World) (h : NetS w base p S F) :
    Calls Try.prog 12 #[.pointer (some ⟨p, 0, none⟩), .int .i64 k, .int .i64 i] w (TakeS w base p S F k i) := by
  by_cases h0 : getC S k i = 0
  · obtain ⟨X, Y, v, h1, h2, h3, h4, h5, h6, h7, h8, h9⟩ := s_get_at base p S F k i w h h0
    refine (nettake_yes p k.toNat i.toNat k i base X Y v _ w h1 h2 h3 h7 h8 h9).mono ?_
    rintro e w' ⟨rfl, hR, hr⟩
    refine ⟨v.1, v.2.1, v.2.2, by rw [h0], by rw [if_pos h0]; exact hr, fun x hx => (h6 _).2 (List.mem_cons_of_mem _ (List.mem_append_left _ (List.mem_append_right _ (List.mem_flatMap.2 ⟨v, List.mem_of_getElem? h8, mem_blk.2 ⟨x, hx, rfl⟩⟩)))), ?_⟩
    unfold takeS
    rw [if_pos h0, ← h4]
    exact hR.step h5 h6
  · obtain ⟨g1, g2⟩ := s_get_bad base p S F k i w h h0
    refine (nettake_bad k i _ _ g1 w g2).mono ?_
    rintro e w' ⟨rfl, rfl⟩
    refine ⟨none, 0, 0, rfl, by rw [if_neg h0]; exact RdB.nilW w, fun x hx => (by cases hx), ?_⟩
    unfold takeS
    rw [if_neg h0]
    exact NetStep.refl h

theorem s_drop (base p : Nat) (S : St) (F : Nat → Prop) (k i : Int) (w : World) (h : NetS w base p S F) :
    Calls Try.prog 17 #[.pointer (some ⟨p, 0, none⟩), .int .i64 k, .int .i64 i] w fun e w' => e = .returned (.int .i64 (getC S k i)) ∧ NetStep w base p S F (takeS S k i) w' := by
  refine netdrop_of _ k i w _ ((s_take base p S F k i w h).mono ?_)
  rintro e w' ⟨a, n, c, rfl, _, _, hs⟩
  exact ⟨⟨a, n, c, rfl⟩, hs⟩

theorem s_double (base p : Nat) (S : St) (F : Nat → Prop) (k i : Int) (w : World) (h : NetS w base p S F) (hsm : ∀ l ∈ rowS S k, l.length ≤ 140737488351232) :
    Calls Try.prog 18 #[.pointer (some ⟨p, 0, none⟩), .int .i64 k, .int .i64 i] w fun e w' => e = .returned (.int .i64 (dblC S k i)) ∧ NetStep w base p S F (dblS S k i) w' := by
  unfold dblC dblS
  by_cases h0 : getC S k i = 0
  · rw [if_pos h0, if_pos h0]
    obtain ⟨X, Y, v, h1, h2, h3, h4, h5, h6, h7, h8, h9⟩ := s_get_at base p S F k i w h h0
    have hr := (h1.x.all _ v _ h8 h9).rd
    have hl := hsm (getL S k i) (h4 ▸ List.mem_of_getElem? h9)
    rw [hr.len] at hl
    exact netdouble_of k i _ _ v.1 v.2.1 v.2.2 w _ (netget_yes p k.toNat i.toNat k i base X Y w h1 h2 h3 h7 v h8) (s_send base p S F k v.1 v.2.1 v.2.2 _ w h hr hl)
  · rw [if_neg h0, if_neg h0]
    obtain ⟨g1, g2⟩ := s_get_bad base p S F k i w h h0
    refine (netdouble_bad k i _ _ g1 w g2).mono ?_
    rintro e w' ⟨rfl, rfl⟩
    exact ⟨rfl, NetStep.refl h⟩

theorem flat_apart {vs : List (Option Addr × Nat × Nat)} (h : (vs.flatMap fun v => blk v.1).Nodup) : ∀ {i j : Nat} {u v : Option Addr × Nat × Nat}, i ≠ j → vs[i]? = some u → vs[j]? = some v → ∀ x ∈ blk u.1, x ∉ blk v.1 := by
  induction vs with
  | nil => intro i j u v _ hu; simp at hu
  | cons a r ih =>
    rw [List.flatMap_cons, List.nodup_append] at h
    intro i j u v hij hu hv x hx hy
    cases i with
    | zero =>
      cases j with
      | zero => exact hij rfl
      | succ j =>
        simp only [List.getElem?_cons_zero, Option.some.injEq] at hu
        subst hu
        exact h.2.2 x hx x (List.mem_flatMap.2 ⟨v, List.mem_of_getElem? (by simpa using hv), hy⟩) rfl
    | succ i =>
      cases j with
      | zero =>
        simp only [List.getElem?_cons_zero, Option.some.injEq] at hv
        subst hv
        exact h.2.2 x hy x (List.mem_flatMap.2 ⟨u, List.mem_of_getElem? (by simpa using hu), hx⟩) rfl
      | succ j => exact ih h.2.1 (i := i) (j := j) (by omega) (by simpa using hu) (by simpa using hv) x hx hy

/-- A byte turned in place. -/
theorem NetAt.spoilt {w : World} {base p k i j g n c : Nat} {X Y : RowV} {l : List Int} {x y : Int} (h : NetAt w base p k X Y) (hv : X.vs[i]? = some (some ⟨g, 0, none⟩, n, c)) (hl : X.ls[i]? = some l) (hx : 0 ≤ y ∧ y ≤ 255) :
    RowsP w base p k X Y (X.ls.set i (l.set j y)) (w.setCell ⟨g, j, none⟩ (.int .u8 y)) := by
  have hN := h.nd
  rw [List.nodup_cons, List.nodup_append] at hN
  obtain ⟨hp, hnx, hny, hxy⟩ := hN
  have hnx0 := hnx
  rw [RowV.fp, List.nodup_append] at hnx
  obtain ⟨hn1, hn2, hn3⟩ := hnx
  have hu : Upd (· = g) w (w.setCell ⟨g, j, none⟩ (.int .u8 y)) := Upd.setCell w ⟨g, j, none⟩ _ rfl
  have hgf : g ∈ X.vs.flatMap (fun v => blk v.1) := List.mem_flatMap.2 ⟨_, List.mem_of_getElem? hv, List.mem_singleton.2 rfl⟩
  have hgx : g ∈ X.fp := List.mem_append_right _ hgf
  have hpg : ¬ p = g := fun e => hp (List.mem_append_left _ (e ▸ hgx))
  refine ⟨⟨X.a, X.n, X.c, X.vs, X.ls.set i (l.set j y)⟩, rfl, ⟨⟨h.le, by simpa using h.lt, h.way, ucell hu hpg h.c0, ucell hu hpg h.c1, ufree hu h.lt hpg h.f0, ufree hu h.lt hpg h.f1, ?_, ?_, h.nd⟩, ?_, fun q hq => .inl hq⟩⟩
  · refine ⟨h.x.own.upd hu (fun z hz e => hn3 z.block (mem_blk.2 ⟨z, hz, rfl⟩) z.block (by rw [e]; exact hgf) rfl), by simpa using h.x.len, ?_⟩
    intro q v l' hv' hl'
    simp only at hv' hl'
    by_cases hq : q = i
    · subst hq
      rw [hv] at hv'
      cases hv'
      have hlq := (List.getElem?_eq_some_iff.1 hl).1
      rw [List.getElem?_set_self hlq] at hl'
      cases hl'
      have ho := h.x.all q _ l hv hl
      exact ⟨fun z hz => by
        rcases List.mem_or_eq_of_mem_set hz with hz | hz
        · exact ho.1 z hz
        · rw [hz]; exact hx, ho.2.set j y⟩
    · rw [List.getElem?_set_ne (by omega)] at hl'
      exact (h.x.all q v l' hv' hl').upd hu (fun z hz e => flat_apart hn2 (fun e' => hq e'.symm) hv hv' g (List.mem_singleton.2 rfl) (mem_blk.2 ⟨z, hz, e⟩))
  · exact h.y.upd hu (fun q hq e => hxy g hgx q hq e.symm)
  · exact hu.mono (fun q _ e => by rw [e]; exact List.mem_cons_of_mem _ (List.mem_append_left _ hgx))

theorem xor_byte (a b : Int) : 0 ≤ bits .xor .u8 a b ∧ bits .xor .u8 a b ≤ 255 := by
  have h : bits .xor .u8 a b = IntKind.u8.wrap ((BitVec.ofInt 8 a ^^^ BitVec.ofInt 8 b).toNat : Int) := rfl
  rw [h]
  have h2 : ∀ z : Int, 0 ≤ IntKind.u8.wrap z ∧ IntKind.u8.wrap z ≤ 255 := fun z => by
    rw [show IntKind.u8.wrap z = z % 256 from rfl]
    omega
  exact h2 _

theorem s_spoil (base p : Nat) (S : St) (F : Nat → Prop) (k i at_ x : Int) (w : World) (h : NetS w base p S F) :
    Calls Try.prog 19 #[.pointer (some ⟨p, 0, none⟩), .int .i64 k, .int .i64 i, .int .i64 at_, .int .u8 x] w fun e w' => e = .returned (.int .i64 (spoC S k i at_)) ∧ NetStep w base p S F (spoS S k i at_ x) w' := by
  unfold spoS spoC
  by_cases h0 : getC S k i = 0
  · rw [if_pos h0]
    obtain ⟨X, Y, v, h1, h2, h3, h4, h5, h6, h7, h8, h9⟩ := s_get_at base p S F k i w h h0
    obtain ⟨va, vn, vc⟩ := v
    have ho := h1.x.all _ _ _ h8 h9
    have hg := netget_yes p k.toNat i.toNat k i base X Y w h1 h2 h3 h7 _ h8
    have hl : (getL S k i).length = vn := ho.len
    by_cases hat : 0 ≤ at_ ∧ at_ < (getL S k i).length
    · rw [if_pos hat, if_pos rfl]
      obtain ⟨g, rfl, _, _⟩ := ho.2.at (show 0 < vn by omega)
      refine (netspoil_yes k i at_.toNat at_ _ x g vn vc _ base w (by omega) (by omega) ho hg).mono ?_
      rintro e w' ⟨rfl, rfl⟩
      refine ⟨rfl, ?_⟩
      have := h1.spoilt (j := at_.toNat) (x := x) h8 h9 (xor_byte ((getL S k i)[at_.toNat]?.getD 0) x)
      rw [h4] at this
      exact this.step h5 h6
    · rw [if_neg hat, if_neg (by decide)]
      refine (netspoil_none k i at_ _ _ va vn vc (by omega) w hg).mono ?_
      rintro e w' ⟨rfl, rfl⟩
      exact ⟨rfl, NetStep.refl h⟩
  · rw [if_neg h0]
    obtain ⟨g1, g2⟩ := s_get_bad base p S F k i w h h0
    rw [if_neg h0]
    refine (netspoil_bad k i at_ _ _ _ g1 w g2).mono ?_
    rintro e w' ⟨rfl, rfl⟩
    exact ⟨rfl, NetStep.refl h⟩
end Go.Proofs.Ytnbikaiejeclnaa
