/- Contracts and plain laws that this claim uses, each with its conditions as premises. -/
import Derived.Test.YtiobhgemjbjipaaPmG3
import Derived.Conc.BesideWords
import Derived.Conc.CompanyDraw
/- The first goroutine beside goroutines that only leave: 'from here the run ends well', whatever the tape; its rules. Conditions stand as premises. -/
namespace Go.Proofs.Ytiobhgemjbjipaa
open Go.Conc
open Go.ConcN (sumTo upd sumTo_upd upd_ne upd_same)
open Go.ConcR (deafBehind_cons deafBehind_one)
set_option linter.unusedVariables false
set_option linter.unusedSimpArgs false
def OldL (Old : Nat → Prop) (l : Loc) : Prop := ∃ a : Addr, l = .cell a ∧ Old a.block
/-- What holds of the trace between two calls that go. -/
structure Calm (Old : Nat → Prop) (B : Nat) (t : Trace) : Prop where
  past : Past (OldL Old) B t
  obj : ∀ i a c, touchAt t i = some a → a.loc = .obj c → a.kind = .atomic
/-- What an own step may list. -/
def EvO (Old : Nat → Prop) (B : Nat) (e : Event) : Prop :=
  (∃ (a : Addr) (wr sy : Bool), e = ⟨.cell a, wr, sy⟩ ∧ a.block < B ∧ ¬ Old a.block) ∨ (∃ (c : Nat) (b : Bool), e = ⟨.obj c, b, true⟩ ∧ c < B) ∨ e = ⟨.mark .noRoom, false, true⟩
section
variable {Old : Nat → Prop} {B : Nat} {t : Trace} {P : Program} {Post : Value → World → Prop} {m : Nat} {g : Goroutine} {w : World}
theorem EvO.evL {e : Event} (h : EvO Old B e) : EvL (OldL Old) B e := by
  rcases h with ⟨a, wr, sy, rfl, hb, ho⟩ | ⟨c, b, rfl, hb⟩ | rfl
  · refine ⟨fun x hx hs => ?_, by simp, by simp, ?_⟩
    · rw [ofEvent_cell0] at hx
      simp only [MemAct.touch?, Option.some.injEq] at hx
      subst hx
      obtain ⟨a', e, h⟩ := hs
      cases e
      exact absurd h ho
    · rw [ofEvent_cell0]; exact hb
  · refine ⟨fun x hx hs => ?_, by simp, by simp, ?_⟩
    · cases b
      · have : some (⟨.obj c, false, .atomic⟩ : Touch) = some x := hx
        cases this
        simp
      · cases hx
    · cases b <;> exact hb
  · exact ⟨fun x hx _ => (by cases hx), by simp, by simp, trivial⟩
theorem Calm.mono {B' : Nat} (h : Calm Old B t) (hB : B ≤ B') : Calm Old B' t := ⟨h.past.mono hB, h.obj⟩
theorem obj_app {u : Trace} (h : ∀ i a c, touchAt t i = some a → a.loc = .obj c → a.kind = .atomic) (hu : ∀ op ∈ u, ∀ a c, op.act.touch? = some a → a.loc = .obj c → a.kind = .atomic) : ∀ i a c, touchAt (t ++ u) i = some a → a.loc = .obj c → a.kind = .atomic := by
  intro i a c ha hc
  obtain ⟨op, hop, hox⟩ := touch_of ha
  rcases getElem?_append_cases hop with ⟨_, hop'⟩ | ⟨_, hou⟩
  · exact h i a c (by rw [touchAt_of hop']; exact hox) hc
  · exact hu op hou a c hox hc
theorem Calm.own (h : Calm Old B t) {fn : FuncId} {pos : String} {es : Array Event} (hes : ∀ e ∈ es, EvO Old B e) : Calm Old B (t ++ MemOp.ofEvents 0 fn pos es) := by
  refine ⟨h.past.own fun e he => (hes e he).evL, obj_app h.obj fun op hop a c ha hc => ?_⟩
  obtain ⟨e, he, rfl⟩ := Go.Conc.mem_ofEvents hop
  rcases hes e he with ⟨ad, wr, sy, rfl, hb, ho⟩ | ⟨c', b, rfl, hb⟩ | rfl
  · rw [ofEvent_cell0] at ha
    simp only [MemAct.touch?, Option.some.injEq] at ha
    subst ha
    cases hc
  · cases b
    · have : some (⟨.obj c', false, .atomic⟩ : Touch) = some a := ha
      cases this
      rfl
    · cases ha
  · cases ha
theorem Calm.mute (h : Calm Old B t) {i : Nat} (hi : i ≠ 0) {fn : FuncId} {pos : String} {es : Array Event} (hm : ∀ e ∈ es, e.mute = true) : Calm Old B (t ++ MemOp.ofEvents i fn pos es) := by
  refine ⟨h.past.mute hi hm, obj_app h.obj fun op hop a c ha hc => ?_⟩
  obtain ⟨e, he, rfl⟩ := Go.Conc.mem_ofEvents hop
  rw [touch_mute (hm e he)] at ha; cases ha
/-- FROM HERE THE RUN ENDS WELL, whatever the tape, whoever else is only leaving (m goroutines at most). -/
def Ok (P : Program) (Post : Value → World → Prop) (Old : Nat → Prop) (m : Nat) (g : Goroutine) (w : World) : Prop :=
  ∀ (gs : Array Goroutine) (sl : Option (Nat × Nat)) (t : Trace) (q : Nat → Nat) (d : Nat), gs[0]? = some g → gs.size ≤ m → Leavers P t gs q → Calm Old w.heap.size t → Ends P Post (crowd gs (w.at d) sl) t
theorem Ok.at {d : Nat} (h : Ok P Post Old m g w) : Ok P Post Old m g (w.at d) := fun gs sl t q d' h0 hm hL hC => h gs sl t q d' h0 hm hL hC
theorem Ok.rel {w₁ : World} (h : Ok P Post Old m g w) (r : AtRel w w₁) : Ok P Post Old m g w₁ := by
  obtain ⟨d, rfl⟩ := r
  exact h.at
theorem Ok.less {m' : Nat} (h : Ok P Post Old m g w) (hm : m' ≤ m) : Ok P Post Old m' g w := fun gs sl t q d h0 hs hL hC => h gs sl t q d h0 (by omega) hL hC
theorem Leavers.step0 {gs : Array Goroutine} {q : Nat → Nat} (hL : Leavers P t gs q) (hlt : 0 < gs.size) {a a' : Goroutine} {w' : World} {u : Trace} (hu : ∀ op ∈ u, op.g = 0) : Leavers P (t ++ u) ((gs.map (woken P a a' w')).setIfInBounds 0 a') q :=
  ⟨fun j x hj hx => by
    have hne : 0 ≠ j := by omega
    rw [Array.getElem?_setIfInBounds_ne hne, Array.getElem?_map] at hx
    obtain ⟨y, hy, rfl⟩ := Option.map_eq_some_iff.1 hx
    have hq := hL.old j y hj hy
    rw [woken_quitsD hq, Deaf_other t (g := j) (g' := 0) (by omega) _ hu]
    exact hq, fun j hj => by
    rw [Deaf_other t (g' := 0) (by simp at hj; omega) _ hu]
    exact hL.above j (by simpa using hj)⟩
theorem leavers_awake {gs : Array Goroutine} {q : Nat → Nat} (hL : Leavers P t gs q) (h0 : gs[0]? = some g) (hr : g.status = .running) : ∀ x ∈ gs, awake x := by
  intro x hx
  obtain ⟨i, hi, rfl⟩ := Array.mem_iff_getElem.1 hx
  rcases Nat.eq_zero_or_pos i with rfl | hpos
  · have : gs[0] = g := by simpa [Array.getElem?_eq_getElem hi] using h0
    rw [this]; exact awake_of (.inl hr)
  · exact awake_of ((hL.old i _ hpos (Array.getElem?_eq_getElem hi)).status.elim .inl fun x => .inr (.inr x))
/-- WHOEVER IS PICKED: the first, or one that leaves: then the run goes on, and at last the first is picked. -/
theorem ok_pick (hr : g.status = .running)
    (h : ∀ (gs : Array Goroutine) (sl : Option (Nat × Nat)) (t : Trace) (q : Nat → Nat) (d : Nat), gs[0]? = some g → gs.size ≤ m → Leavers P t gs q → Calm Old w.heap.size t →
      ∃ m' ops, runT P (crowd gs (w.at d) sl) 0 = (.next m', ops) ∧ Ends P Post m' (t ++ ops)) : Ok P Post Old m g w := by
  have key : ∀ (M : Nat) (gs : Array Goroutine) (sl : Option (Nat × Nat)) (t : Trace) (q : Nat → Nat) (d : Nat), sumTo gs.size q ≤ M → gs[0]? = some g → gs.size ≤ m → Leavers P t gs q → Calm Old w.heap.size t → Ends P Post (crowd gs (w.at d) sl) t := by
    intro M
    induction M with
    | zero =>
      intro gs sl t q d hM h0 hsz hL hC
      obtain ⟨i, x, d', sl', hi, hg, hst⟩ := crowd_pick (P := P) (w := w.at d) (sl := sl) (leavers_awake hL h0 hr) ⟨0, g, h0, hr⟩
      rcases Nat.eq_zero_or_pos i with rfl | hpos
      · obtain ⟨m', ops, hrun, he⟩ := h gs sl' t q d' h0 hsz hL hC
        exact Ends.step (hst.trans hrun) he
      · have hq := hL.old i x hpos hi
        have hlt : i < gs.size := (Array.getElem?_eq_some_iff.1 hi).1
        have : q i ≤ sumTo gs.size q := Go.ConcN.le_sumTo hlt
        rw [show q i = 0 by omega] at hq
        rw [hq.1] at hg; cases hg
    | succ M ih =>
      intro gs sl t q d hM h0 hsz hL hC
      obtain ⟨i, x, d', sl', hi, hg, hst⟩ := crowd_pick (P := P) (w := w.at d) (sl := sl) (leavers_awake hL h0 hr) ⟨0, g, h0, hr⟩
      rcases Nat.eq_zero_or_pos i with rfl | hpos
      · obtain ⟨m', ops, hrun, he⟩ := h gs sl' t q d' h0 hsz hL hC
        exact Ends.step (hst.trans hrun) he
      · have hq := hL.old i x hpos hi
        have hi0 : (i == 0) = false := by simp; omega
        have hlt : i < gs.size := (Array.getElem?_eq_some_iff.1 hi).1
        cases hqi : q i with
        | zero => rw [hqi] at hq; rw [hq.1] at hg; cases hg
        | succ k =>
          rw [hqi] at hq
          rcases hq with ⟨hf, _⟩ | ⟨_, g', es, hm, hstp, hq'⟩
          · rw [hf] at hg; cases hg
          have hrunT := runT_crowd_go (P := P) (sl := sl') (i := i) hi (by rw [hi0]; exact hstp ((w.at d).at d'))
          have hsz' : ((gs.map (woken P x g' ((w.at d).at d'))).setIfInBounds i g').size = gs.size := by simp
          have hsum : sumTo gs.size (upd q i k) + (k + 1) = sumTo gs.size q + k := by
            have := sumTo_upd q k id hlt
            simpa [hqi] using this
          refine Ends.step (hst.trans hrunT) (ih _ sl' _ (upd q i k) d' (by rw [hsz']; omega) ?_ (by rw [hsz']; exact hsz) ⟨fun j y hj hy => ?_, fun j hj => ?_⟩ (hC.mute (by omega) hm))
          · have hne : i ≠ 0 := by omega
            rw [Array.getElem?_setIfInBounds_ne hne, Array.getElem?_map, h0]
            simp [woken_run hr]
          · by_cases hji : i = j
            · subst hji
              rw [Array.getElem?_setIfInBounds_self_of_lt (by simpa using hlt)] at hy
              obtain rfl := Option.some.inj hy
              rw [upd_same, Deaf_own]
              exact hq'
            · rw [Array.getElem?_setIfInBounds_ne hji, Array.getElem?_map] at hy
              obtain ⟨z, hz, rfl⟩ := Option.map_eq_some_iff.1 hy
              have hqj := hL.old j z hj hz
              rw [woken_quitsD hqj, upd_ne q k (Ne.symm hji), Deaf_other t hji _ (fun op hop => by obtain ⟨e, _, rfl⟩ := Go.Conc.mem_ofEvents hop; rfl)]
              exact hqj
          · rw [Deaf_other t (g' := i) (by simp at hj; omega) _ (fun op hop => by obtain ⟨e, _, rfl⟩ := Go.Conc.mem_ofEvents hop; rfl)]
            exact hL.above j (by simpa using hj)
  exact fun gs sl t q d h0 hsz hL hC => key _ gs sl t q d (Nat.le_refl _) h0 hsz hL hC
/-- AN OWN STEP. -/
theorem Ok.step (hr : g.status = .running) (h : ∀ w₁, AtRel w w₁ → (stepG P true g w₁).goes fun g' w' es => (w₁.heap.size ≤ w'.heap.size ∧ ∀ e ∈ es, EvO Old w'.heap.size e) ∧ Ok P Post Old m g' w') : Ok P Post Old m g w := by
  refine ok_pick hr fun gs sl t q d h0 hsz hL hC => ?_
  have hs := h (w.at d) ⟨d, rfl⟩
  cases hgo : stepG P true g (w.at d) with
  | go a' w' es =>
    rw [hgo, goes_go] at hs
    obtain ⟨⟨hsz1, hev⟩, hok⟩ := hs
    have hrunT := runT_crowd_go (P := P) (sl := sl) (i := 0) h0 (show stepG P (0 == 0) g (w.at d) = _ from hgo)
    have hlt : 0 < gs.size := (Array.getElem?_eq_some_iff.1 h0).1
    exact ⟨_, _, hrunT, hok _ sl _ q w'.drawn (by simp [hlt]) (by simpa using hsz) (Leavers.step0 hL hlt fun op hop => by obtain ⟨e, _, rfl⟩ := Go.Conc.mem_ofEvents hop; rfl) (Calm.own (hC.mono hsz1) hev)⟩
  | _ => rw [hgo] at hs; exact hs.elim
/-- THE RETURN. -/
theorem Ok.ended (hr : g.status = .running) (h : ∀ w₁, AtRel w w₁ → ∃ v es, stepG P true g w₁ = .ended (.done v) w₁ es ∧ (∀ e ∈ es, EvO Old w.heap.size e) ∧ Post v w₁) : Ok P Post Old m g w := by
  intro gs sl t q d h0 hsz hL hC
  exact beside_ends (D := fun _ _ _ => False) (fun _ _ _ h => h.elim) h0 hL hC.past (n := 0) (fun w₁ h₁ => by
    obtain ⟨v, es, h1, h2, h3⟩ := h w₁ (atRel_trans _ _ _ ⟨d, rfl⟩ h₁)
    exact ⟨hr, v, es, h1, fun e he => (h2 e he).evL, h3⟩)
/-- A WALK of own steps. -/
theorem Ok.goes {D : World → World → Array Event → Prop} {Stop : Goroutine → World → Prop} (hD : ∀ w w' es, D w w' es → w.heap.size ≤ w'.heap.size ∧ ∀ e ∈ es, EvO Old w'.heap.size e) :
    ∀ {n : Nat} {g : Goroutine} {w : World}, Goes P true AtRel D Stop n g w → (∀ g w, Stop g w → Ok P Post Old m g w) → Ok P Post Old m g w
  | 0, g, w, h, hS => hS g w (h w (atRel_refl w))
  | n + 1, g, w, h, hS => by
    rcases h with h | ⟨hr, h⟩
    · exact hS g w (h w (atRel_refl w))
    · refine Ok.step hr fun w₁ h₁ => ?_
      have := h w₁ h₁
      revert this
      cases stepG P true g w₁ <;> simp only [GStep.goes, imp_self]
      exact fun ⟨d, x⟩ => ⟨hD _ _ _ d, Ok.goes hD x hS⟩
/-- A SEND INTO A BUFFER WITH ROOM. -/
theorem Ok.send (hr : g.status = .running) {g₂ : Goroutine} {c cap s r : Nat} {v z : Value} {buf : Array Value} {tm blocking : Bool} {shape : CommShape} (hst : ∀ w₁, AtRel w w₁ → stepG P true g w₁ = .comm g₂ #[scase c v z] blocking shape w₁ #[])
    (hc : w.heap[c]? = some (.chan cap buf false s r tm)) (hroom : buf.size < cap) (h : Ok P Post Old m (g₂.finishComm P #[scase c v z] shape 0 undef false) (w.setChan c cap (buf.push v) false (s + 1) r tm)) : Ok P Post Old m g w := by
  refine ok_pick hr fun gs sl t q d h0 hsz hL hC => ?_
  have hp : partners (gs.setIfInBounds 0 ph) c false = [] := by
    refine List.eq_nil_iff_forall_not_mem.2 fun ⟨j, k⟩ hm => ?_
    obtain ⟨y, hy, hk⟩ := mem_partners.1 hm
    rcases getElem?_stand gs _ j y hy with ⟨_, rfl⟩ | ⟨hji, hy'⟩
    · rw [offersAt_ph] at hk; cases hk
    · have hq := (hL.old j y (by omega) hy').status
      unfold offersAt at hk
      rcases hq with hq | hq <;> simp [hq] at hk
  have hrun := crowd_send_room (sl := sl) (i := 0) h0 (show stepG P (0 == 0) g (w.at d) = _ from hst _ ⟨d, rfl⟩) (show (w.at d).heap[c]? = _ from hc) hroom hp
  have hlt : 0 < gs.size := (Array.getElem?_eq_some_iff.1 h0).1
  have hcl : c < w.heap.size := (Array.getElem?_eq_some_iff.1 hc).1
  refine ⟨_, _, hrun, h _ sl _ q (w.at d).drawn (Array.getElem?_setIfInBounds_self_of_lt hlt) (by simpa using hsz) ⟨fun j x hj hx => ?_, fun j hj => ?_⟩ ?_⟩
  · have hne : 0 ≠ j := by omega
    rw [Array.getElem?_setIfInBounds_ne hne] at hx
    rw [Go.ConcN.Deaf_still t j _ fun op hop => by simp [MemOp.ofEvents] at hop; rcases hop with rfl | rfl <;> simp]
    exact hL.old j x hj hx
  · rw [Go.ConcN.Deaf_still t j _ fun op hop => by simp [MemOp.ofEvents] at hop; rcases hop with rfl | rfl <;> simp]
    exact hL.above j (by simpa using hj)
  · have hu : ∀ op ∈ MemOp.ofEvents 0 g.frame.fn g.frame.place #[] ++ #[({ g := 0, fn := g₂.frame.fn, pos := g₂.frame.place, act := .send c s } : MemOp), { g := 0, fn := g₂.frame.fn, pos := g₂.frame.place, act := .sendDone c s }], op.g = 0 ∧ op.act.touch? = none ∧ op.act.low w.heap.size ∧ ∀ m, op.act ≠ .mark m := fun op hop => by
      simp [MemOp.ofEvents] at hop
      rcases hop with rfl | rfl
      · exact ⟨rfl, rfl, hcl, by simp⟩
      · exact ⟨rfl, rfl, hcl, by simp⟩
    have hC' : Calm Old w.heap.size (t ++ (MemOp.ofEvents 0 g.frame.fn g.frame.place #[] ++ #[{ g := 0, fn := g₂.frame.fn, pos := g₂.frame.place, act := .send c s }, { g := 0, fn := g₂.frame.fn, pos := g₂.frame.place, act := .sendDone c s }])) :=
      ⟨hC.past.app0 (fun op hop => (hu op hop).1) (fun op hop b hb => by rw [(hu op hop).2.1] at hb; cases hb) (Go.ConcN.Deaf_still t 0 _ fun op hop => ⟨(hu op hop).2.2.2 _, (hu op hop).2.2.2 _⟩) (fun op hop => (hu op hop).2.2.1), obj_app hC.obj fun op hop a c ha _ => by rw [(hu op hop).2.1] at ha; cases ha⟩
    exact hC'.mono (by simp [World.setChan])
end
end Go.Proofs.Ytiobhgemjbjipaa

/- The first beside leavers: one operation; a region that draws its order. Conditions stand as premises. -/
set_option linter.unusedSimpArgs false
set_option linter.unusedVariables false
namespace Go.Proofs.Ytiobhgemjbjipaa
open Go.Conc Go.RowKit
variable {P : Program} {Post : Value → World → Prop} {Old : Nat → Prop} {m : Nat} {b : Frame} {a : Act} {k : List Item} {cs : List Frame} {w : World} {ops : Array Oper}
/-- ONE OPERATION by what it yields. -/
theorem Ok.opv {i : Nat} {rest : List Nat} {o : Oper} (ho : ops[i]? = some o) (hw : Region.wanted o (yielded ops a.tmps) = true) (hk : b.kind ≠ .early)
    (h : ∀ w₁, AtRel w w₁ → ∃ v w', (execOp a.eval o).run P w₁ = .ok (.value v) w' ∧ w₁.heap.size ≤ w'.heap.size ∧ (∀ e ∈ (execOp a.eval o).events P w₁ #[], EvO Old w'.heap.size e) ∧ Ok P Post Old m (G (b.at (a.put o.dst v) (.inRegion ops rest :: k)) cs) w') :
    Ok P Post Old m (G (b.at a (.inRegion ops (i :: rest) :: k)) cs) w := by
  refine Ok.step rfl fun w₁ h₁ => goes_oper ho hw hk ?_
  obtain ⟨v, w', hr, hs, he, hn⟩ := h w₁ h₁
  rw [hr]
  exact ⟨⟨hs, fun e hm => he e (mem_listed hm)⟩, hn⟩
/-- .. where it yields nothing (a store). -/
theorem Ok.opn {i : Nat} {rest : List Nat} {o : Oper} (ho : ops[i]? = some o) (hw : Region.wanted o (yielded ops a.tmps) = true) (hk : b.kind ≠ .early)
    (h : ∀ w₁, AtRel w w₁ → ∃ w', (execOp a.eval o).run P w₁ = .ok .skip w' ∧ w₁.heap.size ≤ w'.heap.size ∧ (∀ e ∈ (execOp a.eval o).events P w₁ #[], EvO Old w'.heap.size e) ∧ Ok P Post Old m (G (b.at (a.put o.dst undef) (.inRegion ops rest :: k)) cs) w') :
    Ok P Post Old m (G (b.at a (.inRegion ops (i :: rest) :: k)) cs) w := by
  refine Ok.step rfl fun w₁ h₁ => goes_oper ho hw hk ?_
  obtain ⟨w', hr, hs, he, hn⟩ := h w₁ h₁
  rw [hr]
  exact ⟨⟨hs, fun e hm => he e (mem_listed hm)⟩, hn⟩
/-- One that is not wanted. -/
theorem Ok.unwanted {i : Nat} {rest : List Nat} {o : Oper} (ho : ops[i]? = some o) (hw : Region.wanted o (yielded ops a.tmps) = false)
    (h : Ok P Post Old m (G (b.at (a.put o.dst undef) (.inRegion ops rest :: k)) cs) w) : Ok P Post Old m (G (b.at a (.inRegion ops (i :: rest) :: k)) cs) w := by
  refine Ok.step rfl fun w₁ h₁ => ?_
  rw [stepG_unwanted ho hw]
  exact ⟨⟨Nat.le_refl _, fun e he => by simp at he⟩, h.rel h₁⟩
def unl (l : Array Bool) : Nat := l.toList.count false
theorem unl_set {l : Array Bool} {i : Nat} (h : l.getD i true = false) : unl (l.setIfInBounds i true) + 1 = unl l := by
  have hi : i < l.size := by
    by_cases hi : i < l.size
    · exact hi
    · rw [Array.getD_eq_getD_getElem?, Array.getElem?_eq_none (by omega)] at h; cases h
  have hl : l.toList[i]'(by simpa using hi) = false := by
    rw [Array.getD_eq_getD_getElem?, Array.getElem?_eq_getElem hi] at h
    simpa using h
  unfold unl
  rw [Array.toList_setIfInBounds, List.count_set (h := by simpa using hi)]
  have hp : 0 < l.toList.count false := List.count_pos_iff.2 (hl ▸ List.getElem_mem _)
  rw [if_pos (by rw [hl]; rfl), if_neg (by simp)]
  omega
/-- WHATEVER ORDER IS DRAWN: an invariant of what has been done. -/
theorem ok_order {md : Region.Mode} {I : Array Bool → Act → World → Prop} (hend : ∀ l a w, I l a w → Region.ready md ops l = [] → Ok P Post Old m (G (b.at a (.inRegion ops [] :: k)) cs) w)
    (hop : ∀ l a w i rest, I l a w → i ∈ Region.ready md ops l → (∀ a' w', I (l.setIfInBounds i true) a' w' → Ok P Post Old m (G (b.at a' (.inRegion ops rest :: k)) cs) w') → Ok P Post Old m (G (b.at a (.inRegion ops (i :: rest) :: k)) cs) w) :
    ∀ (fuel t : Nat) (l : Array Bool) (a : Act) (w : World), unl l ≤ fuel → I l a w → Ok P Post Old m (G (b.at a (.inRegion ops (Region.linearise.go md ops fuel t l []) :: k)) cs) w := by
  intro fuel
  induction fuel with
  | zero =>
    intro t l a w hu hI
    have hr : Region.ready md ops l = [] := by
      refine List.eq_nil_iff_forall_not_mem.2 fun i hi => ?_
      have := unl_set (mem_ready.1 hi).1
      omega
    simpa [Region.linearise.go] using hend l a w hI hr
  | succ fuel ih =>
    intro t l a w hu hI
    simp only [Region.linearise.go]
    change Ok P Post Old m (G (b.at a (.inRegion ops (match (Region.ready md ops l)[t % (Region.ready md ops l).length]? with
      | some i => Region.linearise.go md ops fuel (t / (Region.ready md ops l).length) (l.setIfInBounds i true) [i]
      | none => [].reverse) :: k)) cs) w
    cases hi : (Region.ready md ops l)[t % (Region.ready md ops l).length]? with
    | none =>
      have hnil : Region.ready md ops l = [] := by
        cases hr : Region.ready md ops l with
        | nil => rfl
        | cons x xs =>
          rw [hr] at hi
          have hlt : t % (x :: xs).length < (x :: xs).length := Nat.mod_lt _ (by simp)
          simp at hi
          simp at hlt
          omega
      simpa using hend l a w hI hnil
    | some i =>
      simp only []
      rw [linearise_go_acc, List.reverse_singleton, List.singleton_append]
      have hm := List.mem_of_getElem? hi
      have := unl_set (mem_ready.1 hm).1
      exact hop l a w i _ hI hm fun a' w' h' => ih _ _ a' w' (by omega) h'
theorem Ok.draw {id : Nat} (hm : P.follows .mixedOrders = true) {I : Array Bool → Act → World → Prop} (h0 : ∀ w₁, AtRel w w₁ → I (Array.replicate ops.size false) a w₁) (hend : ∀ l a w, I l a w → Region.ready .any ops l = [] → Ok P Post Old m (G (b.at a (.inRegion ops [] :: k)) cs) w)
    (hop : ∀ l a w i rest, I l a w → i ∈ Region.ready .any ops l → (∀ a' w', I (l.setIfInBounds i true) a' w' → Ok P Post Old m (G (b.at a' (.inRegion ops rest :: k)) cs) w') → Ok P Post Old m (G (b.at a (.inRegion ops (i :: rest) :: k)) cs) w) :
    Ok P Post Old m (G (b.at a (.code (.region id ops true) :: k)) cs) w := by
  refine Ok.step rfl fun w₁ h₁ => ?_
  rw [stepG_region_draw]
  refine ⟨⟨Nat.le_refl _, fun e he => by simp at he⟩, ?_⟩
  simp only [Region.schedule, hm, Bool.true_or, if_true]
  have hu : unl (Array.replicate ops.size false) ≤ ops.size := by unfold unl; exact Nat.le_trans List.count_le_length (by simp)
  refine Ok.at (d := w₁.drawn + 1) ?_
  exact ok_order hend hop _ _ _ _ _ hu (h0 w₁ h₁)
theorem Ok.op_end (h : Ok P Post Old m (G (b.at a k) cs) w) : Ok P Post Old m (G (b.at a (.inRegion ops [] :: k)) cs) w := by
  refine Ok.step rfl fun w₁ h₁ => ?_
  rw [stepG_region_end]
  exact ⟨⟨Nat.le_refl _, fun e he => by simp at he⟩, h.rel h₁⟩
end Go.Proofs.Ytiobhgemjbjipaa

/- The call's beginning: from 'beside leavers' into the machine theorem's invariant, and out again. Conditions stand as premises. -/
namespace Go.Proofs.Ytiobhgemjbjipaa
open Go.Conc
open Go.ConcR (KK wgBlock WgAt stA smA rd wr mk DC0)
open Go.ConcN (WgLive upd upd_ne upd_same PermW sumTo sumTo_upd sumTo_congr sumTo_le)
set_option linter.unusedVariables false
set_option linter.unusedSimpArgs false
/-- The call's numbers, its goroutines beginning at number j. -/
def PE.to (E : PE) (j : Nat) : PE := { E with j0 := j }
/-- The ghost at the beginning. -/
def gh0 (E : PE) (t : Trace) (sz N : Nat) : Gh :=
  { tag := fun i => if i = 0 then (if E.n = 0 then .fgoT else .fdis E.n) else if i < sz then .gone (Deaf t i) else .none_, mine := fun i => if i = 0 then (fun b => ¬ E.Sh b) else fun _ => False, N := N, v := 0, wt := 0, sm := 0, cr := 0,
    oc := false, qc := false, dc := false, sc := false, dl := fun _ => [], buf := E.rows }
theorem gh0_sum {E : PE} {t : Trace} {sz N : Nat} (hz : 0 < sz) (φ : Tag → Nat) (hφ : ∀ d, φ (.gone d) = 0) : (gh0 E t sz N).sum sz φ = φ (if E.n = 0 then .fgoT else .fdis E.n) := by
  have h := sumTo_upd (fun _ : Nat => (0 : Nat)) (φ (if E.n = 0 then .fgoT else .fdis E.n)) id hz
  have e0 : sumTo sz (fun i => id ((fun _ : Nat => (0 : Nat)) i)) = 0 := by
    have : sumTo sz (fun i => id ((fun _ : Nat => (0 : Nat)) i)) ≤ 0 * sz := sumTo_le fun _ _ => Nat.le_refl 0
    omega
  have e1 : (gh0 E t sz N).sum sz φ = sumTo sz fun i => id (upd (fun _ : Nat => (0 : Nat)) 0 (φ (if E.n = 0 then .fgoT else .fdis E.n)) i) := by
    unfold Gh.sum
    refine sumTo_congr fun i hi => ?_
    by_cases h0 : i = 0
    · subst h0; rw [upd_same]; rfl
    · rw [upd_ne _ _ h0]
      simp only [gh0, if_neg h0, if_pos hi, hφ]
      rfl
  rw [e1]
  simp only [id] at h e0 ⊢
  omega
theorem gh0_abs {C : Cx} {t : Trace} {sz N : Nat} (hz : 0 < sz) (hj : C.E.j0 = sz) (hnn : toFork C.E C.E.n + 1 ≤ C.nn) : Abs C (gh0 C.E t sz N) sz := by
  have s := fun φ hφ => gh0_sum (E := C.E) (t := t) (N := N) hz φ hφ
  have i1 : (if C.iw < sz then 1 else 0) = 0 := if_neg (by unfold Cx.iw; omega)
  have i2 : (if C.ic < sz then 1 else 0) = 0 := if_neg (by unfold Cx.ic; omega)
  refine ⟨⟨by omega, by omega, by unfold Cx.ic; omega⟩, fun i => ?_, ?_, fun i vs h => ?_, fun k _ hk => by omega, fun k _ _ => ⟨rfl, rfl⟩, fun k => ?_⟩
  · unfold Role
    by_cases h0 : i = 0
    · subst h0
      rw [if_pos rfl]
      simp only [gh0, if_pos]
      by_cases hn : C.E.n = 0
      · rw [if_pos hn]; show sz = C.iw; unfold Cx.iw; omega
      · rw [if_neg hn]; exact ⟨by omega, Nat.le_refl _, by unfold Cx.iw; omega⟩
    · rw [if_neg h0]
      simp only [gh0, if_neg h0]
      by_cases hl : i < sz
      · rw [if_pos (by omega), if_pos hl]; exact ⟨_, rfl⟩
      · rw [if_neg (by omega), if_pos (by omega), if_neg hl]
  · rw [i1, i2, s _ (fun _ => rfl), s _ (fun _ => rfl), s _ (fun _ => rfl), s _ (fun _ => rfl), s _ (fun _ => rfl), s _ (fun _ => rfl), s _ (fun _ => rfl), s _ (fun _ => rfl), s _ (fun _ => rfl), s _ (fun _ => rfl), s _ (fun _ => rfl), s _ (fun _ => rfl), s _ (fun _ => rfl), s _ (fun _ => rfl), s _ (fun _ => rfl)]
    simp only [gh0, if_pos]
    unfold Nums
    by_cases hn : C.E.n = 0
    · rw [if_pos hn]
      have : toFork C.E 0 = 0 := rfl
      rw [hn] at hnn
      simp only [Tag.cnt, Tag.sem, Tag.l1, Tag.l2, Tag.l3, Tag.past, Tag.pre, Tag.tt, Tag.cc, Tag.co, Tag.cd, Tag.cq, Tag.cs, Tag.op, Tag.rest, Tag.room, Bool.toNat_false]
      simp
      omega
    · rw [if_neg hn]
      simp only [Tag.cnt, Tag.sem, Tag.l1, Tag.l2, Tag.l3, Tag.past, Tag.pre, Tag.tt, Tag.cc, Tag.co, Tag.cd, Tag.cq, Tag.cs, Tag.op, Tag.rest, Tag.room, Bool.toNat_false]
      simp
      omega
  · simp only [gh0] at h
    split at h
    · split at h <;> cases h
    · split at h <;> cases h
  · simp only [gh0, if_pos]
    split <;> rfl
theorem toFork_to (E : PE) (j : Nat) : ∀ n, toFork (E.to j) n = toFork E n
  | 0 => rfl
  | n + 1 => by
    show toFork (E.to j) n + _ = toFork E n + _
    rw [toFork_to E j n]
    rfl
/-- THE BEGINNING, AND THE END: the call runs well if what comes behind it does. -/
theorem ok_pump {P : Program} {Post : Value → World → Prop} {m nn : Nat} {b0 : Bool} {E : PE} {Exit : Nat → Bool → List (Nat × Value × Value) → Goroutine → World → Prop} {g : Goroutine} {w : World}
    (hE : ∀ j, j ≤ m → (E.to j).Ok) (hN : E.N0 = w.heap.size) (hO : ∃ s r tm, w.heap[E.O]? = some (.chan 0 #[] false s r tm)) (hQ : ∃ s r tm, w.heap[E.Q]? = some (.chan 0 #[] false s r tm)) (hDn : ∃ s r tm, w.heap[E.Dn]? = some (.chan 0 #[] false s r tm))
    (hSt : ∀ c, E.St = some c → ∃ s r tm, w.heap[c]? = some (.chan 0 #[] false s r tm)) (hCr : ∀ k, k < E.n → ∃ cap s r tm, w.heap[E.Cr k]? = some (.chan cap (E.rows k).toArray true s r tm)) (hWg : WgAt E.ty E.Wg w 0 0)
    (hnn : toFork E E.n + 1 ≤ nn) (hfork : ∀ j, j ≤ m → MFork P (E.to j) (Exit j) nn b0 E.n w.heap.size g w)
    (hexit : ∀ j b ys g' w', j ≤ m → Exit j b ys g' w' → (∀ k, k < E.n → ∃ l, E.rows k = (ys.filter (fun y => y.1 == k)).map (·.2.1) ++ l ∧ (b = true ∨ E.St = none → l = [])) → (∃ s r tm, w'.heap[E.O]? = some (.chan 0 #[] true s r tm)) → (b = true → ∀ c, E.St = some c → ∃ s r tm, w'.heap[c]? = some (.chan 0 #[] false s r tm)) → Ok P Post (fun b => E.Old b ∨ b = E.Wg) (m + E.n + 2) g' w') :
    ∀ (gs : Array Goroutine) (sl : Option (Nat × Nat)) (t : Trace) (q : Nat → Nat) (d : Nat), gs[0]? = some g → gs.size ≤ m → Leavers P t gs q → Calm E.Old E.Wg t → Ends P Post (crowd gs (w.at d) sl) t := by
  intro gs sl t q d h0 hsz hL hC
  have hlt : 0 < gs.size := (Array.getElem?_eq_some_iff.1 h0).1
  obtain ⟨C, hCx⟩ : ∃ C : Cx, C = ⟨P, E.to gs.size, nn, b0, Exit gs.size⟩ := ⟨_, rfl⟩
  have hP : C.P = P := by rw [hCx]
  have hok : C.E.Ok := by rw [hCx]; exact hE _ hsz
  have hEj : C.E.j0 = gs.size := by rw [hCx]; rfl
  have hwl : C.E.Wg < w.heap.size := by rw [hCx]; exact (Array.getElem?_eq_some_iff.1 (show w.heap[E.Wg]? = some _ from hWg)).1
  have hfk : MFork C.P C.E C.Exit C.nn C.b0 C.E.n w.heap.size g w := by rw [hCx]; exact hfork _ hsz
  have hab : Abs C (gh0 C.E t gs.size w.heap.size) gs.size := gh0_abs hlt hEj (by rw [hCx]; show toFork (E.to gs.size) E.n + 1 ≤ nn; rw [toFork_to]; exact hnn)
  obtain ⟨n1, hsit0⟩ : ∃ n1, Sit C (fun b => ¬ C.E.Sh b) w.heap.size 0 (n1 + 1) g w (if C.E.n = 0 then .fgoT else .fdis C.E.n) := by
    by_cases hn : C.E.n = 0
    · rw [if_pos hn]
      rw [hn] at hfk
      exact sit_walk (by intro e; cases e) (by intro d e; cases e) (wk_W0 rfl rfl hfk) (fun g w x => ⟨none, x⟩)
    · rw [if_neg hn]
      obtain ⟨r, hr⟩ : ∃ r, C.E.n = r + 1 := ⟨C.E.n - 1, by omega⟩
      rw [hr] at hfk ⊢
      refine sit_walk (by intro e; cases e) (by intro d e; cases e) (wk_W0 rfl rfl hfk) (fun g w x => ⟨none, ?_⟩)
      simp only [stopOf]
      rw [hr] at x
      rw [hr]
      exact x
  have hrun : g.status = .running := by
    rcases hsit0.running (by split <;> simp) (by intro d; split <;> simp) with h | ⟨_, _, h, _⟩
    · exact h
    · omega
  have hnt : ∀ (i : Nat) (a : Touch) (ad : Addr), touchAt t i = some a → a.loc = .cell ad → ad.block < C.E.Wg := by
    intro i a ad ha e
    obtain ⟨op, hop, hox⟩ := touch_of ha
    have hl := hC.past.seen op (Array.mem_of_getElem? hop)
    have hw : C.E.Wg = E.Wg := by rw [hCx]; rfl
    rw [hw]
    cases hact : op.act with
    | access ev =>
      rw [hact] at hox hl
      simp only [MemAct.touch?, Option.some.injEq] at hox
      subst hox
      simp only at e
      simp only [MemAct.low] at hl
      rw [e] at hl
      exact hl
    | mark mk =>
      rw [hact] at hox hl
      cases mk <;> simp only [MemAct.touch?, Option.some.injEq, reduceCtorEq] at hox
      · subst hox; cases e; exact hl
      · subst hox; cases e; exact hl
    | _ => rw [hact] at hox; simp [MemAct.touch?] at hox
  have hold : C.E.Old = E.Old := by rw [hCx]; rfl
  have htag : ∀ i, i ≠ 0 → (gh0 C.E t gs.size w.heap.size).tag i = if i < gs.size then .gone (Deaf t i) else .none_ := fun i hi => by simp only [gh0, if_neg hi]
  have hshl : ∀ (i : Nat) (a : Touch), touchAt t i = some a → ShL C.E a.loc → a.kind = .atomic := by
    rintro i a ha (⟨ad, e, hb⟩ | ⟨c, e⟩)
    · have := hnt i a ad ha e; omega
    · exact hC.obj i a c ha e
  have hknow : ∀ (i : Nat) (a : Touch) (ad : Addr), touchAt t i = some a → a.loc = .cell ad → ¬ C.E.Old ad.block → Knows t 0 i := by
    intro i a ad ha e hno
    rcases hC.past.known i a ha (by rw [e]; rfl) with h | ⟨⟨ad', e', h⟩, _⟩
    · exact h
    · rw [e] at e'; cases e'
      rw [hold] at hno
      exact absurd h hno
  have hfin : ∀ b ys g' gs' w' sl' t', gs'[0]? = some g' → C.Exit b ys g' w' → OutF C b ys gs' w' t' → Ends C.P Post (crowd gs' w' sl') t' := by
    intro b ys g' gs' w' sl' t' h0' hx ho
    rw [hCx] at hx ho ⊢
    obtain ⟨q', hq'⟩ := ho.leav
    have hsz' : gs'.size ≤ m + E.n + 2 := by
      have := ho.size
      have e : (⟨P, E.to gs.size, nn, b0, Exit gs.size⟩ : Cx).ic = gs.size + E.n + 1 := rfl
      rw [e] at this
      omega
    exact hexit _ b ys g' w' hsz hx (fun k hk => ho.rows k hk) ho.O ho.St gs' sl' t' q' w'.drawn h0' hsz' hq' ⟨ho.past, ho.quiet⟩
  have I : Inv C (gh0 C.E t gs.size w.heap.size) (upd q 0 (n1 + 1)) gs w t := by
    refine ⟨hok, hab, ⟨fun i x hx => ?_, fun i x hx hb => ?_, fun y0 hy0 hb0 => ?_, ⟨?_, ?_, ?_, fun c hc => ?_, fun _ => rfl, fun k hk => ?_, ?_⟩, rfl, fun i hi b hb => ?_, ⟨?_, Nat.le_refl _⟩⟩, ⟨⟨?_, fun a l hl => ?_, fun a l hl => ?_, hC.past.clean⟩, fun i => ?_, fun op hop => ?_, fun k hk => ?_, fun i a h ha hg hm => ?_, fun i x hg hne _ hc => hC.past.over i x hg hne hc, ?_, ?_⟩⟩
    · by_cases hi : i = 0
      · subst hi
        obtain rfl : x = g := by rw [h0] at hx; exact (Option.some.inj hx).symm
        rw [upd_same]
        exact hsit0
      · rw [upd_ne _ _ hi, htag i hi, if_pos (Array.getElem?_eq_some_iff.1 hx).1]
        have := hL.old i x (by omega) hx
        rw [← hP] at this
        exact this
    · by_cases hi : i = 0
      · subst hi
        obtain rfl : x = g := by rw [h0] at hx; exact (Option.some.inj hx).symm
        rw [hrun] at hb; cases hb
      · have := (hL.old i x (by omega) hx).status
        rcases this with e | e <;> rw [e] at hb <;> cases hb
    · obtain rfl : y0 = g := by rw [h0] at hy0; exact (Option.some.inj hy0).symm
      rw [hrun] at hb0; cases hb0
    · rw [hCx]; exact hO
    · rw [hCx]; exact hQ
    · rw [hCx]; exact hDn
    · rw [hCx] at hc; exact hSt c hc
    · rw [hCx] at hk ⊢; exact hCr k hk
    · rw [hCx]
      have : WgAt E.ty E.Wg w (((0 : Nat) : Int) * KK + ((0 : Nat) : Int)) ((0 : Nat) : Int) := by simpa using hWg
      exact this
    · have hb' : (gh0 C.E t gs.size w.heap.size).mine i b := hb
      simp only [gh0, if_neg hi] at hb'
    · rw [hCx]; exact Nat.le_of_eq hN
    · intro i a ha hs
      rw [hshl i a ha hs]; simp
    · obtain ⟨ad, rfl, hs, hm⟩ := hl
      unfold mayB at hm
      by_cases ha : a = 0
      · subst ha
        rw [if_pos rfl] at hm
        intro i x hx he _
        exact hknow i x ad hx he hm.2.1
      · rw [if_neg ha] at hm
        have hm' : (gh0 C.E t gs.size w.heap.size).mine a ad.block := hm
        simp only [gh0, if_neg ha] at hm'
    · obtain ⟨rfl, ad, rfl, h1, h2, h3⟩ := hl
      intro i x hx he
      have := hnt i x ad hx he
      have h1' : w.heap.size ≤ ad.block := h1
      omega
    · by_cases hi : i = 0
      · subst hi
        rw [hC.past.hears]
        simp only [gh0, if_pos]
        split <;> rfl
      · rw [htag i hi]
        by_cases hl : i < gs.size
        · rw [if_pos hl]; rfl
        · rw [if_neg hl]; exact hL.above i (by omega)
    · refine MemAct.low_mono (Nat.le_of_lt hwl) ?_
      have := hC.past.seen op hop
      rw [hCx]; exact this
    · obtain ⟨op, hop, hox⟩ := Option.map_eq_some_iff.1 hk
      have := hC.past.seen op (Array.mem_of_getElem? hop)
      rw [hox] at this
      have h' : C.E.Wg < E.Wg := this
      have hw : C.E.Wg = E.Wg := by rw [hCx]; rfl
      omega
    · by_cases hin : C.E.j0 ≤ h ∧ h ≤ C.E.j0 + C.E.n + 1
      · exact .inl hin
      · refine .inr ⟨by omega, ?_⟩
        rcases hC.past.known i a ha hm with h' | ⟨⟨ad, e, h'⟩, hk⟩
        · exact .inl h'
        · exact .inr ⟨⟨ad, e, by rw [hold]; exact h'⟩, hk⟩
    · have hnone : ∀ i, gs.size ≤ i → (gh0 C.E t gs.size w.heap.size).tag i = .none_ := fun i hi => by rw [htag i (by omega), if_neg (by omega)]
      refine ⟨fun h hr => ?_, fun h => ?_, fun h => ?_, fun h => ?_, fun h => ?_⟩
      · rw [hnone h (by omega)] at hr; cases hr.2.2
      · rw [hnone _ (by unfold Cx.iw; omega)] at h; cases h
      · cases h
      · rw [hnone _ (by unfold Cx.ic; omega)] at h; cases h
      · cases h
    · intro i a ha hk hs
      rw [hshl i a ha hs] at hk; cases hk
  have := pump_runs hfin _ _ _ gs (w.at d) sl t rfl (I.at d)
  rw [hP] at this
  exact this
/-- A step that makes the group's block, and then the call. -/
theorem Ok.pump_step {P : Program} {Post : Value → World → Prop} {Old : Nat → Prop} {m : Nat} {g g' : Goroutine} {w w' : World} (hr : g.status = .running) (hst : ∀ d, stepG P true g (w.at d) = .go g' (w'.at d) #[])
    (hp : ∀ (gs : Array Goroutine) (sl : Option (Nat × Nat)) (t : Trace) (q : Nat → Nat) (d : Nat), gs[0]? = some g' → gs.size ≤ m → Leavers P t gs q → Calm Old w.heap.size t → Ends P Post (crowd gs (w'.at d) sl) t) : Ok P Post Old m g w := by
  refine ok_pick hr fun gs sl t q d h0 hsz hL hC => ?_
  have hrunT := runT_crowd_go (P := P) (sl := sl) (i := 0) h0 (show stepG P (0 == 0) g (w.at d) = _ from hst d)
  have hlt : 0 < gs.size := (Array.getElem?_eq_some_iff.1 h0).1
  exact ⟨_, _, hrunT, hp _ sl _ q d (by simp [hlt]) (by simpa using hsz) (Leavers.step0 hL hlt fun op hop => by obtain ⟨e, _, rfl⟩ := Go.Conc.mem_ofEvents hop; rfl) (Calm.own hC fun e he => by simp at he)⟩
end Go.Proofs.Ytiobhgemjbjipaa
