/- Contracts and plain laws that this claim uses, each with its conditions as premises. -/
import Derived.Test.YtiobhgemjbjipaaPmG2
/- Who offers what; a goroutine is served, or parked; two meet. Conditions stand as premises. -/
namespace Go.Proofs.Ytiobhgemjbjipaa
open Go.Conc
open Go.ConcR (KK wgBlock WgAt stA smA rd wr mk DC0 deafBehind_one deafBehind_cons)
open Go.ConcN (WgLive upd upd_ne upd_same PermW sumTo sumTo_upd sumTo_congr sumTo_le)
set_option linter.unusedVariables false
set_option linter.unusedSimpArgs false
variable {C : Cx} {σ σ' : Gh} {f f' : Nat → Nat} {gs gs' : Array Goroutine} {w w' : World} {t u : Trace} {i sz : Nat} {g g' : Goroutine} {E : PE} {es : Array Event} {sl : Option (Nat × Nat)} {mine : Nat → Prop} {N : Nat} {tg : Tag} {o : Offers}
theorem parked_eq {y : Goroutine} {cs : Array CommCase} {sh : CommShape} (hb : y.status = .blocked) (ho : y.offers = some (cs, sh)) : y = parked (core y) cs sh := by
  cases y
  simp only at hb ho
  subst hb ho
  rfl
/-- Where it stands waiting, by its tag. -/
theorem Phys.waiting (h : Phys C σ f gs w) {j : Nat} {y : Goroutine} (hy : gs[j]? = some y) (hb : y.status = .blocked) :
    f j = 0 ∧ ((∃ v l x, σ.tag j = .got v l ∧ y = parked (core y) (C.E.cs2 x) .select ∧ stopOf C (σ.mine j) σ.N j (.got v l) (some (C.E.cs2 x, .select)) (core y) w) ∨ (σ.tag j = .tsem ∧ y.offers = none) ∨
      (σ.tag j = .csel ∧ y = parked (core y) C.E.cs3 .select) ∨ (σ.tag j = .cdone ∧ y = parked (core y) C.E.cs4 (.recv false)) ∨ (∃ m b ys, σ.tag j = .cons m b ys ∧ y = parked (core y) C.E.cs5 (.recv true) ∧ stopOf C (σ.mine j) σ.N j (.cons m b ys) (some (C.E.cs5, .recv true)) (core y) w)) := by
  have sj := h.sit j y hy
  by_cases hn : σ.tag j = .none_
  · rw [hn] at sj; exact sj.elim
  by_cases hg : ∃ d, σ.tag j = .gone d
  · obtain ⟨d, hd⟩ := hg
    rw [hd] at sj
    rcases QuitsD.status sj with x | x <;> rw [x] at hb <;> cases hb
  rcases sj.running hn (fun d e => hg ⟨d, e⟩) with hr | ⟨_, hw, h0, o, ho, hoff, hsm⟩
  · rw [hr] at hb; cases hb
  refine ⟨h0, ?_⟩
  cases e : σ.tag j <;> rw [e] at hw ho hsm <;> simp only [Tag.waits] at hw <;> first | cases hw | skip
  · rename_i v l
    obtain ⟨x, hox, _⟩ := id ho
    subst hox
    exact .inl ⟨v, l, x, rfl, parked_eq hb hoff, ho⟩
  · obtain ⟨hox, _⟩ := ho
    subst hox
    exact .inr (.inl ⟨rfl, hoff⟩)
  · obtain ⟨hox, _⟩ := ho
    subst hox
    exact .inr (.inr (.inl ⟨rfl, parked_eq hb hoff⟩))
  · obtain ⟨hox, _⟩ := ho
    subst hox
    exact .inr (.inr (.inr (.inl ⟨rfl, parked_eq hb hoff⟩)))
  · rename_i m b ys
    have hox : o = some (C.E.cs5, .recv true) := by
      by_cases hnone : o = none
      · have := hsm hnone; cases this
      · cases m with
        | zero => simp only [stopOf] at ho; unfold MRecv at ho; exact ho.1
        | succ m =>
          simp only [stopOf] at ho
          unfold MRecv at ho
          rcases ho with x | x
          · exact x.1
          · exact absurd x.2.1 hnone
    subst hox
    exact .inr (.inr (.inr (.inr ⟨m, b, ys, rfl, parked_eq hb hoff, ho⟩)))
theorem offers2 (E : PE) (g : Goroutine) (x : Value) (c : Nat) (s : Bool) : offersAt (parked g (E.cs2 x) .select) c s = (if s = true ∧ E.O = c then [0] else []) ++ (if s = false ∧ E.Q = c then [1] else []) := by
  by_cases h1 : E.O = c <;> by_cases h2 : E.Q = c <;> cases s <;> simp [offersAt, parked, PE.cs2, scase, rcase, h1, h2]
theorem offers4 (E : PE) (g : Goroutine) (sh : CommShape) (c : Nat) : offersAt (parked g E.cs4 sh) c true = [] := by
  simp [offersAt, parked, PE.cs4, rcase]
theorem offers4' (E : PE) (g : Goroutine) (sh : CommShape) (c : Nat) : offersAt (parked g E.cs4 sh) c false = if E.Dn = c then [0] else [] := by
  by_cases h1 : E.Dn = c <;> simp [offersAt, parked, PE.cs4, rcase, h1]
theorem offers5 (E : PE) (g : Goroutine) (sh : CommShape) (c : Nat) (s : Bool) : offersAt (parked g E.cs5 sh) c s = if s = false ∧ E.O = c then [0] else [] := by
  by_cases h1 : E.O = c <;> cases s <;> simp [offersAt, parked, PE.cs5, rcase, h1]
theorem offers3 (E : PE) (g : Goroutine) (sh : CommShape) (c : Nat) : offersAt (parked g E.cs3 sh) c true = [] := by
  unfold PE.cs3
  cases E.St <;> simp [offersAt, parked, rcase, rcaseNil]
theorem offers3' (E : PE) (g : Goroutine) (sh : CommShape) (c : Nat) (hd : E.Dn ≠ c) (hs : E.St ≠ some c) : offersAt (parked g E.cs3 sh) c false = [] := by
  unfold PE.cs3
  cases h : E.St with
  | none => simp [offersAt, parked, rcase, rcaseNil, hd]
  | some x =>
    have : x ≠ c := fun e => hs (by rw [h, e])
    simp [offersAt, parked, rcase, rcaseNil, hd, this]
/-- Who sends, being parked: a way at its second select, at O alone. -/
theorem Phys.senders (h : Phys C σ f gs w) (hE : C.E.Ok) {c j k : Nat} {y : Goroutine} (hy : gs[j]? = some y) (hk : k ∈ offersAt y c true) : c = C.E.O ∧ k = 0 ∧ y.status = .blocked ∧ ∃ v l x, σ.tag j = .got v l ∧ y = parked (core y) (C.E.cs2 x) .select ∧ stopOf C (σ.mine j) σ.N j (.got v l) (some (C.E.cs2 x, .select)) (core y) w := by
  by_cases hb : y.status = .blocked
  · rcases (h.waiting hy hb).2 with ⟨v, l, x, e1, e2, e3⟩ | ⟨e1, e2⟩ | ⟨e1, e2⟩ | ⟨e1, e2⟩ | ⟨m, b, ys, e1, e2, e3⟩
    · have hk' := hk
      rw [e2, offers2] at hk'
      by_cases ho : C.E.O = c
      · rw [if_pos ⟨rfl, ho⟩, if_neg (by simp)] at hk'
        exact ⟨ho.symm, by simpa using hk', hb, v, l, x, e1, e2, e3⟩
      · rw [if_neg (by simp [ho]), if_neg (by simp)] at hk'; cases hk'
    · have : offersAt y c true = [] := by unfold offersAt; rw [e2]; cases y.status <;> rfl
      rw [this] at hk; cases hk
    · rw [e2, offers3] at hk; cases hk
    · rw [e2, offers4] at hk; cases hk
    · rw [e2, offers5, if_neg (by simp)] at hk; cases hk
  · rw [offersAt_of_not_blocked hb] at hk; cases hk
/-- Who receives at O, being parked: the first alone. -/
theorem Phys.takers (h : Phys C σ f gs w) (ha : Abs C σ gs.size) (hE : C.E.Ok) {j k : Nat} {y : Goroutine} (hy : gs[j]? = some y) (hk : k ∈ offersAt y C.E.O false) : j = 0 ∧ k = 0 ∧ y.status = .blocked ∧ ∃ m b ys, σ.tag 0 = .cons m b ys ∧ y = parked (core y) C.E.cs5 (.recv true) ∧ stopOf C (σ.mine 0) σ.N 0 (.cons m b ys) (some (C.E.cs5, .recv true)) (core y) w := by
  have hlt := (Array.getElem?_eq_some_iff.1 hy).1
  by_cases hb : y.status = .blocked
  · rcases (h.waiting hy hb).2 with ⟨v, l, x, e1, e2, e3⟩ | ⟨e1, e2⟩ | ⟨e1, e2⟩ | ⟨e1, e2⟩ | ⟨m, b, ys, e1, e2, e3⟩
    · rw [e2, offers2, if_neg (by simp), if_neg (by simp [hE.oq.symm])] at hk; cases hk
    · have : offersAt y C.E.O false = [] := by unfold offersAt; rw [e2]; cases y.status <;> rfl
      rw [this] at hk; cases hk
    · rw [e2, offers3' _ _ _ _ hE.od.symm (fun e => (hE.st _ e).2.1 rfl)] at hk; cases hk
    · rw [e2, offers4', if_neg hE.od.symm] at hk; cases hk
    · obtain rfl := ha.isMain hlt (by rw [e1]; rfl) (by rw [e1]; rfl) (by rw [e1]; rfl)
      have hk' := hk
      rw [e2, offers5, if_pos ⟨rfl, rfl⟩] at hk'
      exact ⟨rfl, by simpa using hk', hb, m, b, ys, e1, e2, e3⟩
  · rw [offersAt_of_not_blocked hb] at hk; cases hk
theorem Phys.noSenders (h : Phys C σ f gs w) (hE : C.E.Ok) {c : Nat} (hc : c ≠ C.E.O) (i : Nat) : partners (gs.setIfInBounds i ph) c true = [] := by
  refine partners_nil fun j x hx => ?_
  rcases getElem?_stand gs i j x hx with ⟨_, rfl⟩ | ⟨_, hj⟩
  · exact offersAt_ph _ _
  · refine List.eq_nil_iff_forall_not_mem.2 fun k hk => hc (h.senders hE hj hk).1
/-- ONE GOROUTINE IS SERVED OR PARKED: the machine's side. -/
theorem Phys.set (h : Phys C σ f gs w) (ha : Abs C σ gs.size) (hi : gs[i]? = some g) {t' : Tag} {fi : Nat} (h1 : σ'.tag = upd σ.tag i t') (h2 : σ'.mine = σ.mine) (h3 : σ'.N = σ.N) (hw : Wst C.E σ.N w w')
    (hm : i ≠ 0 → ∀ b, ¬ C.E.Sh b → b < w.heap.size → w'.heap[b]? = w.heap[b]?) (hs : Sit C (σ.mine i) σ.N i fi g' w' t')
    (hk : ∀ j y, j ≠ i → gs[j]? = some y → y.status = .blocked → Cond σ (σ.tag j) → Cond σ' (σ.tag j)) (hb : g'.status = .blocked → Cond σ' t')
    (hmt : g'.status = .blocked → (i = 0 → ∀ j y, gs[j]? = some y → (σ.tag j).isGot = true → y.status ≠ .blocked) ∧ (t'.isGot = true → ∀ y, gs[0]? = some y → y.status ≠ .blocked)) (hz : i = 0 → t'.isGot = false) (hW : JW C.E σ' w') :
    Phys C σ' (upd f i fi) (gs.setIfInBounds i g') w' := by
  have hlt : i < gs.size := (Array.getElem?_eq_some_iff.1 hi).1
  have get : ∀ j x, (gs.setIfInBounds i g')[j]? = some x → (j = i ∧ x = g') ∨ (j ≠ i ∧ gs[j]? = some x) := by
    intro j x hx
    by_cases e : i = j
    · subst e
      rw [Array.getElem?_setIfInBounds_self_of_lt hlt] at hx
      exact .inl ⟨rfl, (Option.some.inj hx).symm⟩
    · rw [Array.getElem?_setIfInBounds_ne e] at hx
      exact .inr ⟨fun x => e x.symm, hx⟩
  refine ⟨fun j x hx => ?_, fun j x hx hb' => ?_, fun g0 hg0 hb0 j x hx hgt => ?_, hW, by rw [h2]; exact h.m0, fun j hj b hbm => ?_, by rw [h3]; exact ⟨h.nb.1, Nat.le_trans h.nb.2 hw.size⟩⟩
  · rw [h1, h2, h3]
    rcases get j x hx with ⟨rfl, rfl⟩ | ⟨hne, hy⟩
    · rw [upd_same, upd_same]; exact hs
    · rw [upd_ne _ _ hne, upd_ne _ _ hne]
      exact (h.sit j x hy).rely (h.cons0 ha j) (h.others hw hm hne)
  · rw [h1]
    rcases get j x hx with ⟨rfl, rfl⟩ | ⟨hne, hy⟩
    · rw [upd_same]; exact hb hb'
    · rw [upd_ne _ _ hne]
      exact hk j x hne hy hb' (h.cond j x hy hb')
  · rw [h1] at hgt
    intro hx'
    rcases get j x hx with ⟨rfl, rfl⟩ | ⟨hne, hy⟩
    · rw [upd_same] at hgt
      rcases get 0 g0 hg0 with ⟨e0, rfl⟩ | ⟨hne0, hy0⟩
      · rw [hz e0.symm] at hgt; cases hgt
      · exact (hmt hx').2 hgt g0 hy0 hb0
    · rw [upd_ne _ _ hne] at hgt
      rcases get 0 g0 hg0 with ⟨e0, rfl⟩ | ⟨hne0, hy0⟩
      · exact (hmt hb0).1 e0.symm j x hy hgt hx'
      · exact h.meet g0 hy0 hb0 j x hy hgt hx'
  · rw [h2] at hbm
    have := h.ro j hj b hbm
    rw [h3]
    refine ⟨this.1, this.2.1, this.2.2.1, this.2.2.2.imp id fun x hx => x ?_⟩
    obtain ⟨vs, hv⟩ := hx
    exact ⟨vs, by rw [← hw.low b this.1 this.2.1 (Nat.lt_of_lt_of_le this.1 h.nb.2)]; exact hv⟩
end Go.Proofs.Ytiobhgemjbjipaa

/- Communications: served, parked, met. Conditions stand as premises. -/
namespace Go.Proofs.Ytiobhgemjbjipaa
open Go.Conc
open Go.ConcR (KK wgBlock WgAt stA smA rd wr mk DC0 deafBehind_one deafBehind_cons)
open Go.ConcN (WgLive upd upd_ne upd_same PermW sumTo sumTo_upd sumTo_congr sumTo_le)
set_option linter.unusedVariables false
set_option linter.unusedSimpArgs false
variable {C : Cx} {σ σ' : Gh} {f f' : Nat → Nat} {gs gs' : Array Goroutine} {w w' : World} {t u : Trace} {i sz : Nat} {g g' : Goroutine} {E : PE} {es : Array Event} {sl : Option (Nat × Nat)} {mine : Nat → Prop} {N : Nat} {tg : Tag} {o : Offers}
/-- A step that turns shared blocks alone, not the group's. -/
structure ShStep (E : PE) (w w' : World) : Prop where
  size : w'.heap.size = w.heap.size
  same : ∀ b, ¬ E.Sh b → w'.heap[b]? = w.heap[b]?
  wg : w'.heap[E.Wg]? = w.heap[E.Wg]?
  oo : SO w w'
theorem ShStep.at (E : PE) (w : World) (d : Nat) : ShStep E w (w.at d) := ⟨rfl, fun _ _ => rfl, rfl, ⟨rfl, rfl⟩⟩
theorem ShStep.chan (hE : E.Ok) {c cap s r d : Nat} {buf : Array Value} {cl tm : Bool} (hc : E.Sh c) (hw : c ≠ E.Wg) (w : World) : ShStep E w ((w.at d).setChan c cap buf cl s r tm) := by
  refine ⟨by simp [World.setChan, World.at], fun b hb => ?_, ?_, ⟨rfl, rfl⟩⟩
  · have : c ≠ b := fun e => hb (e ▸ hc)
    simp only [World.setChan, World.at]
    rw [Array.getElem?_setIfInBounds_ne this]
  · simp only [World.setChan, World.at]
    rw [Array.getElem?_setIfInBounds_ne hw]
theorem setChan_at {c cap s r d : Nat} {buf : Array Value} {cl tm : Bool} (h : c < w.heap.size) : ((w.at d).setChan c cap buf cl s r tm).heap[c]? = some (.chan cap buf cl s r tm) := by
  simp only [World.setChan, World.at]
  rw [Array.getElem?_setIfInBounds_self_of_lt h]
theorem setChan_ne {c b cap s r d : Nat} {buf : Array Value} {cl tm : Bool} (h : b ≠ c) : ((w.at d).setChan c cap buf cl s r tm).heap[b]? = w.heap[b]? := by
  simp only [World.setChan, World.at]
  rw [Array.getElem?_setIfInBounds_ne (Ne.symm h)]
theorem ShStep.live (h : ShStep E w w') : WgLive E.ty E.Wg w → WgLive E.ty E.Wg w' := fun ⟨st, sm, x⟩ => ⟨st, sm, x.of_block h.wg⟩
theorem ShStep.wst (hE : E.Ok) (hw : JW E σ w) (h : ShStep E w w') {N : Nat} : Wst E N w w' :=
  ⟨by rw [h.size]; exact Nat.le_refl _, fun b _ hs _ => h.same b hs, fun b hb => h.same b fun hs => Byt.sh hE hw hs hb, h.live, h.oo⟩
theorem ShStep.rm (I : Inv C σ f gs w t) (h : ShStep C.E w w') (j : Nat) : RM C.E (σ.mine j) w w' := by
  refine ⟨by rw [h.size]; exact Nat.le_refl _, fun b hb _ => h.same b fun hs => ?_, h.live, h.oo⟩
  rcases hb with hb | hb
  · by_cases hj : j = 0
    · subst hj; rw [I.phys.m0] at hb; exact hb hs
    · exact (I.phys.ro j hj b hb).2.1 hs
  · exact Byt.sh I.ok I.phys.world hs hb
/-- ONE GOROUTINE IS SERVED OR PARKED. -/
theorem Inv.put (I : Inv C σ f gs w t) (hi : gs[i]? = some g) (hrun : runT C.P (crowd gs w sl) i = (.next (crowd (gs.setIfInBounds i g') w' sl), u)) {t' : Tag} {fi : Nat} (ab : Abs C σ' gs.size) (hless : Less (meas C σ' (upd f i fi) (gs.setIfInBounds i g')) (meas C σ f gs))
    (h1 : σ'.tag = upd σ.tag i t') (h2 : σ'.mine = σ.mine ∧ σ'.N = σ.N) (hsh : ShStep C.E w w') (hs : Sit C (σ.mine i) σ.N i fi g' w' t')
    (hk : ∀ j y, j ≠ i → gs[j]? = some y → y.status = .blocked → Cond σ (σ.tag j) → Cond σ' (σ.tag j)) (hb : g'.status = .blocked → Cond σ' t')
    (hmt : g'.status = .blocked → (i = 0 → ∀ j y, gs[j]? = some y → (σ.tag j).isGot = true → y.status ≠ .blocked) ∧ (t'.isGot = true → ∀ y, gs[0]? = some y → y.status ≠ .blocked)) (hz : i = 0 → t'.isGot = false) (hW : JW C.E σ' w')
    (hn : ∀ op ∈ u, op.act.touch? = none) (hum : ∀ op ∈ u, ∀ m, op.act ≠ .mark m) (hlow : ∀ op ∈ u, op.act.low w.heap.size) (hd : t'.dOf = (σ.tag i).dOf) (hc : PChain C σ' (t ++ u)) : Kept C σ f gs t (runT C.P (crowd gs w sl) i) := by
  have hW' := hsh.wst I.ok I.phys.world (N := σ.N)
  refine ⟨σ', _, _, w', sl, u, hrun, ⟨I.ok, by simpa using ab, I.phys.set I.abs hi h1 h2.1 h2.2 hW' (fun _ b hb _ => hsh.same b hb) hs hk hb hmt hz hW, ?_⟩, hless⟩
  refine I.tr.quiet (σ' := σ') hW'.size (by rw [h2.1, h2.2]; exact (pt_mute (S0 := True) I.ok I.phys.nb I.phys.ro hW' hsh.size I.tr.pt hn).1) (fun j => ?_) (fun op hop => by rw [hsh.size]; exact hlow op hop) hum hn hc (I.tr.sd.app (.mute hn) (I.abs.unborn ab))
  rw [h1]
  by_cases e : j = i
  · subst e; rw [upd_same]; exact hd
  · rw [upd_ne _ _ e]
theorem less_put (hA : σ'.A C gs.size < σ.A C gs.size) : Less (meas C σ' f' (gs.setIfInBounds i g')) (meas C σ f gs) := less_A (by simpa using hA)
/-- Parking costs. -/
theorem less_park (hi : gs[i]? = some g) (hr : g.status = .running) (hb : g'.status = .blocked) (hs : σ'.A C gs.size = σ.A C gs.size) : Less (meas C σ' (upd f i 0) (gs.setIfInBounds i g')) (meas C σ f gs) := by
  have hlt : i < gs.size := (Array.getElem?_eq_some_iff.1 hi).1
  have hsz : (gs.setIfInBounds i g').size = gs.size := by simp
  by_cases hf : f i = 0
  · have hu : upd f i 0 = f := by funext j; unfold upd; split <;> simp_all
    refine less_B (by rw [hsz]; exact hs) (by rw [hsz, hu]) ?_
    rw [hu]
    unfold BB
    rw [hsz]
    have := sumTo_upd (fun j => if (gs[j]?).any (fun g => g.status == .running) = true ∧ f j = 0 then 1 else 0) 0 id hlt
    simp only [id] at this
    have e1 : (if (gs[i]?).any (fun g => g.status == .running) = true ∧ f i = 0 then 1 else 0) = 1 := by rw [if_pos]; rw [hi]; simp [hr, hf]
    rw [e1] at this
    have e2 : sumTo gs.size (fun j => if ((gs.setIfInBounds i g')[j]?).any (fun g => g.status == .running) = true ∧ f j = 0 then 1 else 0) = sumTo gs.size (fun a => upd (fun j => if (gs[j]?).any (fun g => g.status == .running) = true ∧ f j = 0 then 1 else 0) i 0 a) := by
      refine sumTo_congr fun j hj => ?_
      by_cases e : j = i
      · subst e
        rw [upd_same, Array.getElem?_setIfInBounds_self_of_lt hlt]
        rw [if_neg]
        simp [hb]
      · rw [upd_ne _ _ e, Array.getElem?_setIfInBounds_ne (Ne.symm e)]
    rw [e2]
    omega
  · refine less_F (by rw [hsz]; exact hs) ?_
    rw [hsz]
    exact sum_fuel hlt (by omega)
theorem ev_nil {fn : FuncId} {pos : String} (u : Array MemOp) : MemOp.ofEvents i fn pos #[] ++ u = u := by simp [MemOp.ofEvents]
theorem cond_same (h1 : σ'.qc = σ.qc) (h2 : σ'.dc = σ.dc) (h3 : σ'.sc = σ.sc) (h4 : σ'.oc = σ.oc) (h5 : σ'.sm = σ.sm) {tg : Tag} (h : Cond σ tg) : Cond σ' tg := by
  cases tg <;> simp only [Cond] at h ⊢ <;> simp_all
theorem quiet_rc {fn : FuncId} {pos : String} {c : Nat} (hc : c < w.heap.size) : (∀ op ∈ (#[{ g := i, fn := fn, pos := pos, act := .recvClosed c }] : Array MemOp), op.act.touch? = none) ∧ (∀ op ∈ (#[{ g := i, fn := fn, pos := pos, act := .recvClosed c }] : Array MemOp), ∀ m, op.act ≠ .mark m) ∧ (∀ op ∈ (#[{ g := i, fn := fn, pos := pos, act := .recvClosed c }] : Array MemOp), op.act.low w.heap.size) := by
  refine ⟨fun op hop => ?_, fun op hop => ?_, fun op hop => ?_⟩ <;> simp only [List.mem_toArray, List.mem_cons, List.not_mem_nil, or_false] at hop <;> subst hop
  · rfl
  · intro m; simp
  · exact hc
/-- A WAY AT ITS FIRST SELECT. -/
theorem Inv.s_loop (I : Inv C σ f gs w t) (hi : gs[i]? = some g) {l : List Value} (ht : σ.tag i = .loop l) (hs : stopOf C (σ.mine i) σ.N i (.loop l) o g w) : Kept C σ f gs t (runT C.P (crowd gs w sl) i) := by
  have hlt := (Array.getElem?_eq_some_iff.1 hi).1
  have hng : ∀ d, σ.tag i ≠ .gone d := by rw [ht]; intro d e; cases e
  obtain ⟨k, hk, rfl⟩ := I.abs.isWay hlt (by rw [ht]; rfl) hng
  have h0 : C.E.j0 + k ≠ 0 := by have := I.abs.j0; omega
  have hi0 : (C.E.j0 + k == 0) = false := by simpa using h0
  simp only [stopOf, Nat.add_sub_cancel_left] at hs
  have J := I.phys.world
  have hE := I.ok
  obtain ⟨cap, s, r, tm, hcr⟩ := J.Cr k hk
  obtain ⟨sq, rq, tmq, hq⟩ := J.Q
  have hrow := I.abs.live k hk hlt
  rw [ht] at hrow
  rw [hrow.2] at hcr
  have hcrlt : C.E.Cr k < w.heap.size := (Array.getElem?_eq_some_iff.1 hcr).1
  have hqlt : C.E.Q < w.heap.size := (Array.getElem?_eq_some_iff.1 hq).1
  have p1 := I.phys.noSenders hE (hE.cr k hk).2.1 (C.E.j0 + k)
  have p2 := I.phys.noSenders hE hE.oq.symm (C.E.j0 + k)
  have hat : AtC C.P false (RM C.E (σ.mine (C.E.j0 + k))) (C.E.cs1 k) .select g w := by cases l <;> (unfold WSel1 at hs; exact hs.1)
  have hst : stepG C.P (C.E.j0 + k == 0) g w = .comm (core g) (C.E.cs1 k) true .select w #[] := by rw [hi0]; exact hat.comm w (RM.refl _ _ w)
  have hquit : ∀ w₁, RM C.E (σ.mine (C.E.j0 + k)) w w₁ → WQuit C.P C.E (σ.mine (C.E.j0 + k)) ((core g).finishComm C.P (C.E.cs1 k) .select 1 C.E.zQ false) w₁ := by cases l <;> (unfold WSel1 at hs; exact hs.2.2)
  have hill : ∀ cc ∈ C.E.cs1 k, illMade w cc = false := by
    intro cc hcc
    simp only [PE.cs1, List.mem_toArray, List.mem_cons, List.not_mem_nil, or_false] at hcc
    rcases hcc with rfl | rfl
    · exact made_recv _ hcr
    · exact made_recv _ hq
  have hw0 : ways w (gs.setIfInBounds (C.E.j0 + k) ph) (rcase (C.E.Cr k) C.E.zB) = if l = [] then [.closed] else [.buffer] := by
    cases l <;> simp [ways, rcase, hcr, p1]
  have hw1 : ways w (gs.setIfInBounds (C.E.j0 + k) ph) (rcase C.E.Q C.E.zQ) = if σ.qc = true then [.closed] else [] := by
    simp [ways, rcase, hq, p2]
  obtain ⟨k', cc, way, d, hcc, hway, T⟩ := comm_any (sl := sl) hi hst hill ⟨0, rcase (C.E.Cr k) C.E.zB, rfl, by rw [hw0]; split <;> simp⟩
  match k', hcc with
  | 0, hcc =>
    obtain rfl : rcase (C.E.Cr k) C.E.zB = cc := by simpa [PE.cs1] using hcc
    rw [hw0] at hway
    cases l with
    | nil =>
      have hwy : way = .closed := by simpa using hway
      have hr := T.shut _ _ rfl hwy
      rw [ev_nil] at hr
      unfold WSel1 at hs
      have ab := I.abs.shut1 hk hlt ht
      have hsh := ShStep.at C.E w d
      obtain ⟨n', hsit⟩ := sit_walk (C := C) (mine := σ.mine _) (N := σ.N) (tg := .quit) (by intro e; cases e) (by intro d e; cases e) (wk_WD h0 rfl (hs.2.1 _ (hsh.rm I _))) (fun g w x => ⟨none, x⟩)
      have qr := quiet_rc (i := C.E.j0 + k) (fn := (core g).frame.fn) (pos := (core g).frame.place) hcrlt
      refine I.put hi hr ab.1 (less_put ab.2) rfl ⟨rfl, rfl⟩ hsh hsit (fun _ _ _ _ _ x => cond_same rfl rfl rfl rfl rfl x) (nb_walk hsit (by intro e; cases e) (by intro d e; cases e)) (nb_walk hsit (by intro e; cases e) (by intro d e; cases e)) (fun e => absurd e h0) ?_ qr.1 qr.2.1 qr.2.2 (by rw [ht]; rfl) ?_
      · exact jw_same (σ := σ.set _ _) ⟨J.O, J.Q, J.Dn, J.St, J.Stn, J.Cr, J.Wg⟩ fun _ _ => rfl
      · exact PChain.turn (Chain.quiet I.tr.chain qr.1) rfl rfl rfl (fun _ _ e => by cases e) (fun e _ => by cases e) (fun e _ => by cases e)
    | cons v l =>
      have hwy : way = .buffer := by simpa using hway
      have hr := T.buf _ _ cap _ true s r tm rfl hwy hcr p1
      rw [ev_nil] at hr
      have e1 : ((v :: l).toArray).getD 0 undef = v := by simp
      have e2 : ((v :: l).toArray).extract 1 (v :: l).toArray.size = l.toArray := by simp
      rw [e1, e2] at hr
      unfold WSel1 at hs
      have ab := I.abs.got1 hk hlt ht
      have hsh : ShStep C.E w ((w.at d).setChan (C.E.Cr k) cap l.toArray true s (r + 1) tm) := ShStep.chan hE (.inr (.inr (.inr (.inr (.inr ⟨k, hk, rfl⟩))))) (hE.cr k hk).1 w
      obtain ⟨n', hsit⟩ := sit_walk (C := C) (i := C.E.j0 + k) (mine := σ.mine (C.E.j0 + k)) (N := σ.N) (tg := .got v l) (by intro e; cases e) (by intro d e; cases e) (wk_WD h0 rfl (hs.2.1 _ (hsh.rm I _))) (fun g w ⟨o, x⟩ => ⟨o, by simp only [stopOf, Nat.add_sub_cancel_left]; exact x⟩)
      have hq3 : ∀ op ∈ (#[{ g := C.E.j0 + k, fn := (core g).frame.fn, pos := (core g).frame.place, act := .recv (C.E.Cr k) r cap }, { g := C.E.j0 + k, fn := (core g).frame.fn, pos := (core g).frame.place, act := .recvDone (C.E.Cr k) r }] : Array MemOp), op.act.touch? = none ∧ (∀ m, op.act ≠ .mark m) ∧ op.act.low w.heap.size := by
        intro op hop
        simp only [List.mem_toArray, List.mem_cons, List.not_mem_nil, or_false] at hop
        rcases hop with rfl | rfl
        · exact ⟨rfl, by simp, hcrlt⟩
        · exact ⟨rfl, by simp, hcrlt⟩
      refine I.put hi hr ab.1 (less_put ab.2) rfl ⟨rfl, rfl⟩ hsh hsit (fun _ _ _ _ _ x => cond_same rfl rfl rfl rfl rfl x) (nb_walk hsit (by intro e; cases e) (by intro d e; cases e)) (nb_walk hsit (by intro e; cases e) (by intro d e; cases e)) (fun e => absurd e h0) ?_ (fun op hop => (hq3 op hop).1) (fun op hop => (hq3 op hop).2.1) (fun op hop => (hq3 op hop).2.2) (by rw [ht]; rfl) ?_
      · refine ⟨?_, ?_, ?_, fun c hc => ?_, J.Stn, fun k2 hk2 => ?_, J.Wg.of_block hsh.wg⟩
        · rw [setChan_ne (hE.cr k hk).2.1.symm]; exact J.O
        · rw [setChan_ne (hE.cr k hk).2.2.1.symm]; exact J.Q
        · rw [setChan_ne (hE.cr k hk).2.2.2.1.symm]; exact J.Dn
        · rw [setChan_ne (fun e => (hE.cr k hk).2.2.2.2 (by rw [hc, e]))]; exact J.St c hc
        · by_cases e : k2 = k
          · subst e
            refine ⟨cap, s, r + 1, tm, ?_⟩
            rw [setChan_at hcrlt]
            show _ = some (Obj.chan cap (upd σ.buf k2 l k2).toArray true s (r + 1) tm)
            rw [upd_same]
          · rw [setChan_ne (fun x => e (hE.crs _ _ hk2 hk x))]
            show ∃ cap s r tm, _ = some (Obj.chan cap (upd σ.buf k l k2).toArray true s r tm)
            rw [upd_ne _ _ e]
            exact J.Cr k2 hk2
      · exact PChain.turn (Chain.quiet I.tr.chain fun op hop => (hq3 op hop).1) rfl rfl rfl (fun _ _ e => by cases e) (fun e _ => by cases e) (fun e _ => by cases e)
  | 1, hcc =>
    obtain rfl : rcase C.E.Q C.E.zQ = cc := by simpa [PE.cs1] using hcc
    rw [hw1] at hway
    by_cases hqc : σ.qc = true
    · rw [if_pos hqc] at hway
      have hwy : way = .closed := by simpa using hway
      have hr := T.shut _ _ rfl hwy
      rw [ev_nil] at hr
      have ab := I.abs.quit1 hk hlt hqc ht
      have hsh := ShStep.at C.E w d
      obtain ⟨n', hsit⟩ := sit_walk (C := C) (mine := σ.mine _) (N := σ.N) (tg := .quit) (by intro e; cases e) (by intro d e; cases e) (wk_WD h0 rfl (hquit _ (hsh.rm I _))) (fun g w x => ⟨none, x⟩)
      have qr := quiet_rc (i := C.E.j0 + k) (fn := (core g).frame.fn) (pos := (core g).frame.place) hqlt
      refine I.put hi hr ab.1 (less_put ab.2) rfl ⟨rfl, rfl⟩ hsh hsit (fun _ _ _ _ _ x => cond_same rfl rfl rfl rfl rfl x) (nb_walk hsit (by intro e; cases e) (by intro d e; cases e)) (nb_walk hsit (by intro e; cases e) (by intro d e; cases e)) (fun e => absurd e h0) ?_ qr.1 qr.2.1 qr.2.2 (by rw [ht]; rfl) ?_
      · exact jw_same (σ := σ.set _ _) ⟨J.O, J.Q, J.Dn, J.St, J.Stn, J.Cr, J.Wg⟩ fun _ _ => rfl
      · exact PChain.turn (Chain.quiet I.tr.chain qr.1) rfl rfl rfl (fun _ _ e => by cases e) (fun e _ => by cases e) (fun e _ => by cases e)
    · rw [if_neg hqc] at hway; cases hway
  | k' + 2, hcc => simp [PE.cs1] at hcc
end Go.Proofs.Ytiobhgemjbjipaa

/- A way at its second select, the first at its receive: they meet, or one is parked, or all is over. Conditions stand as premises. -/
namespace Go.Proofs.Ytiobhgemjbjipaa
open Go.Conc
open Go.ConcR (KK wgBlock WgAt stA smA rd wr mk DC0 deafBehind_one deafBehind_cons)
open Go.ConcN (WgLive upd upd_ne upd_same PermW sumTo sumTo_upd sumTo_congr sumTo_le)
set_option linter.unusedVariables false
set_option linter.unusedSimpArgs false
variable {C : Cx} {σ σ' : Gh} {f f' : Nat → Nat} {gs gs' : Array Goroutine} {w w' : World} {t u : Trace} {i sz : Nat} {g g' : Goroutine} {E : PE} {es : Array Event} {sl : Option (Nat × Nat)} {mine : Nat → Prop} {N : Nat} {tg : Tag} {o : Offers}
theorem cs2_inj {x x' : Value} (h : E.cs2 x = E.cs2 x') : x = x' := by
  simpa [PE.cs2, scase] using h
/-- THE TWO OF A MESSAGE. -/
theorem Inv.meet (I : Inv C σ f gs w t) {k : Nat} (hk : k < C.E.n) {gi g0 gw gm : Goroutine} (hi : gs[C.E.j0 + k]? = some gi) (h0 : gs[0]? = some g0) {v x : Value} {l : List Value} {m : Nat} {b : Bool} {ys : List (Nat × Value × Value)} (ht : σ.tag (C.E.j0 + k) = .got v l) (hm : σ.tag 0 = .cons m b ys)
    (sw : stopOf C (σ.mine (C.E.j0 + k)) σ.N (C.E.j0 + k) (.got v l) (some (C.E.cs2 x, .select)) gw w) (sm : stopOf C (σ.mine 0) σ.N 0 (.cons m b ys) (some (C.E.cs5, .recv true)) gm w) (d s r : Nat) (tm : Bool)
    (hn : ∀ op ∈ u, op.act.touch? = none) (hum : ∀ op ∈ u, ∀ m, op.act ≠ .mark m) (hlow : ∀ op ∈ u, op.act.low w.heap.size)
    (hrun : runT C.P (crowd gs w sl) i = (.next (crowd ((gs.setIfInBounds 0 ((core gm).finishComm C.P C.E.cs5 (.recv true) 0 x true)).setIfInBounds (C.E.j0 + k) ((core gw).finishComm C.P (C.E.cs2 x) .select 0 undef false)) ((w.at d).setChan C.E.O 0 #[] σ.oc s r tm) sl), u)) : Kept C σ f gs t (runT C.P (crowd gs w sl) i) := by
  have hE := I.ok
  have J := I.phys.world
  have hlt : C.E.j0 + k < gs.size := (Array.getElem?_eq_some_iff.1 hi).1
  have hlt0 : 0 < gs.size := (Array.getElem?_eq_some_iff.1 h0).1
  have hj := I.abs.j0
  have hne : (0 : Nat) ≠ C.E.j0 + k := by omega
  obtain ⟨so, ro, to, hO⟩ := J.O
  have hOlt : C.E.O < w.heap.size := (Array.getElem?_eq_some_iff.1 hO).1
  obtain ⟨m', rfl, ab, hA⟩ := I.abs.meet (x := x) hk hlt ht hm
  have hsh : ShStep C.E w ((w.at d).setChan C.E.O 0 #[] σ.oc s r tm) := ShStep.chan hE (.inr (.inl rfl)) hE.wo.symm w
  simp only [stopOf, Nat.add_sub_cancel_left] at sw sm
  obtain ⟨x', hx', sw1, sw2, sw3, sw4⟩ := sw
  simp only [Option.some.injEq, Prod.mk.injEq, and_true] at hx'
  obtain rfl := cs2_inj hx'
  have sm' : ∀ k v x w₁, R0 C.E w w₁ → k < C.E.n → C.E.Fits k v x w₁ → W0 C.P C.E σ.N (fun g w => ∃ o, MRecv C.P C.E C.Exit m' b (ys ++ [(k, v, x)]) σ.N o g w) ((core gm).finishComm C.P C.E.cs5 (.recv true) 0 x true) w₁ := by
    unfold MRecv at sm
    rcases sm with y | y
    · exact y.2.2.2
    · have := y.2.1; cases this
  have hw' := hsh.rm I
  have hr0 : R0 C.E w ((w.at d).setChan C.E.O 0 #[] σ.oc s r tm) := by have := hw' 0; rw [I.phys.m0] at this; exact this
  obtain ⟨n1, hs1⟩ := sit_walk (C := C) (i := C.E.j0 + k) (mine := σ.mine (C.E.j0 + k)) (N := σ.N) (tg := .loop l) (by intro e; cases e) (by intro d e; cases e) (wk_WD (by omega) rfl (sw3 _ (hw' _))) (fun g w y => ⟨none, by simp only [stopOf, Nat.add_sub_cancel_left]; exact y⟩)
  obtain ⟨n2, hs2⟩ := sit_walk (C := C) (i := 0) (mine := σ.mine 0) (N := σ.N) (tg := .cons m' b (ys ++ [(k, v, x)])) (by intro e; cases e) (by intro d e; cases e) (wk_W0 I.phys.m0 rfl (sm' k v x _ hr0 hk (sw2 _ (hw' _)))) (fun g w y => y)
  generalize hgm : (core gm).finishComm C.P C.E.cs5 (.recv true) 0 x true = gm' at *
  generalize hgw : (core gw).finishComm C.P (C.E.cs2 x) .select 0 undef false = gw' at *
  generalize hww : (w.at d).setChan C.E.O 0 #[] σ.oc s r tm = w' at *
  have get : ∀ j y, ((gs.setIfInBounds 0 gm').setIfInBounds (C.E.j0 + k) gw')[j]? = some y → (j = C.E.j0 + k ∧ y = gw') ∨ (j = 0 ∧ y = gm') ∨ (j ≠ C.E.j0 + k ∧ j ≠ 0 ∧ gs[j]? = some y) := by
    intro j y hy
    by_cases e : C.E.j0 + k = j
    · subst e
      rw [Array.getElem?_setIfInBounds_self_of_lt (by simpa using hlt)] at hy
      exact .inl ⟨rfl, (Option.some.inj hy).symm⟩
    · rw [Array.getElem?_setIfInBounds_ne e] at hy
      by_cases e' : 0 = j
      · subst e'
        rw [Array.getElem?_setIfInBounds_self_of_lt hlt0] at hy
        exact .inr (.inl ⟨rfl, (Option.some.inj hy).symm⟩)
      · rw [Array.getElem?_setIfInBounds_ne e'] at hy
        exact .inr (.inr ⟨fun z => e z.symm, fun z => e' z.symm, hy⟩)
  have tg1 : (σ.meet C k v x l m' b ys).tag (C.E.j0 + k) = .loop l := by
    show upd (upd σ.tag (C.E.j0 + k) (.loop l)) 0 _ (C.E.j0 + k) = _
    rw [upd_ne _ _ hne.symm, upd_same]
  have tg2 : (σ.meet C k v x l m' b ys).tag 0 = .cons m' b (ys ++ [(k, v, x)]) := by
    show upd (upd σ.tag (C.E.j0 + k) (.loop l)) 0 (.cons m' b (ys ++ [(k, v, x)])) 0 = _
    rw [upd_same]
  have tg3 : ∀ j, j ≠ C.E.j0 + k → j ≠ 0 → (σ.meet C k v x l m' b ys).tag j = σ.tag j := fun j h1 h2 => by
    show upd (upd σ.tag (C.E.j0 + k) (.loop l)) 0 _ j = _
    rw [upd_ne _ _ h2, upd_ne _ _ h1]
  have hwst := hsh.wst hE J (N := σ.N)
  refine ⟨σ.meet C k v x l m' b ys, upd (upd f 0 (n2 + 1)) (C.E.j0 + k) (n1 + 1), _, w', sl, u, hrun, ⟨hE, by simpa using ab, ⟨fun j y hy => ?_, fun j y hy hb => ?_, fun y0 hy0 hb0 j y hy hgt => ?_, ?_, I.phys.m0, fun j hj0 b' hb' => ?_, ⟨I.phys.nb.1, by rw [hsh.size]; exact I.phys.nb.2⟩⟩, ?_⟩, less_A (by simpa using hA)⟩
  · rcases get j y hy with ⟨rfl, rfl⟩ | ⟨rfl, rfl⟩ | ⟨h1, h2, hy'⟩
    · rw [tg1, upd_same]; exact hs1
    · rw [tg2, upd_ne _ _ hne, upd_same]; exact hs2
    · rw [tg3 j h1 h2, upd_ne _ _ h1, upd_ne _ _ h2]
      exact (I.phys.sit j y hy').rely (I.phys.cons0 I.abs j) (hw' j)
  · rcases get j y hy with ⟨rfl, rfl⟩ | ⟨rfl, rfl⟩ | ⟨h1, h2, hy'⟩
    · exact nb_walk hs1 (by intro e; cases e) (by intro d e; cases e) hb
    · exact nb_walk hs2 (by intro e; cases e) (by intro d e; cases e) hb
    · rw [tg3 j h1 h2]
      exact cond_same rfl rfl rfl rfl rfl (I.phys.cond j y hy' hb)
  · rcases get 0 y0 hy0 with ⟨e, _⟩ | ⟨_, rfl⟩ | ⟨_, h2, _⟩
    · exact absurd e hne
    · exact nb_walk hs2 (by intro e; cases e) (by intro d e; cases e) hb0
    · exact absurd rfl h2
  · subst hww
    refine ⟨⟨s, r, tm, setChan_at hOlt⟩, ?_, ?_, fun c hc => ?_, J.Stn, fun k2 hk2 => ?_, J.Wg.of_block hsh.wg⟩
    · rw [setChan_ne hE.oq.symm]; exact J.Q
    · rw [setChan_ne hE.od.symm]; exact J.Dn
    · rw [setChan_ne (hE.st c hc).2.1]; exact J.St c hc
    · rw [setChan_ne (hE.cr k2 hk2).2.1]; exact J.Cr k2 hk2
  · have := I.phys.ro j hj0 b' hb'
    refine ⟨this.1, this.2.1, this.2.2.1, this.2.2.2.imp id fun y hy => y ?_⟩
    obtain ⟨vs, hv⟩ := hy
    exact ⟨vs, by rw [← hsh.same b' this.2.1]; exact hv⟩
  · refine I.tr.quiet (σ' := σ.meet C k v x l m' b ys) hwst.size (pt_mute (S0 := True) hE I.phys.nb I.phys.ro hwst hsh.size I.tr.pt hn).1 (fun j => ?_) (fun op hop => by rw [hsh.size]; exact hlow op hop) hum hn ?_ (I.tr.sd.app (.mute hn) (I.abs.unborn ab))
    · by_cases h1 : j = C.E.j0 + k
      · subst h1; rw [tg1, ht]; rfl
      · by_cases h2 : j = 0
        · subst h2; rw [tg2, hm]; rfl
        · rw [tg3 j h1 h2]
    · refine (Chain.quiet I.tr.chain hn).to (fun y hy => .inl ⟨hy.1, hy.2.1, ?_⟩) (fun hy => .inl ?_) .inl (fun hy => .inl ?_) .inl
      · have h3 := hy.2.2
        by_cases h1 : y = C.E.j0 + k
        · subst h1; rw [tg1] at h3; cases h3
        · rw [tg3 y h1 (by omega)] at h3; exact h3
      · rw [tg3 C.iw (by unfold Cx.iw; omega) (by unfold Cx.iw; omega)] at hy; exact hy
      · rw [tg3 C.ic (by unfold Cx.ic; omega) (by unfold Cx.ic; omega)] at hy; exact hy
theorem quiet4 {a b : Nat} {f1 f2 f3 f4 : FuncId} {p1 p2 p3 p4 : String} {c s r cap : Nat} (hc : c < w.heap.size) :
    ∀ op ∈ (#[{ g := a, fn := f1, pos := p1, act := .send c s }, { g := b, fn := f2, pos := p2, act := .recv c r cap }, { g := a, fn := f3, pos := p3, act := .sendDone c s }, { g := b, fn := f4, pos := p4, act := .recvDone c r }] : Array MemOp), op.act.touch? = none ∧ (∀ m, op.act ≠ .mark m) ∧ op.act.low w.heap.size := by
  intro op hop
  simp only [List.mem_toArray, List.mem_cons, List.not_mem_nil, or_false] at hop
  rcases hop with rfl | rfl | rfl | rfl <;> exact ⟨rfl, by simp, hc⟩
theorem finishPartner_set (P : Program) {gi : Goroutine} {j : Nat} {cs : Array CommCase} {sh : CommShape} {kj : Nat} {v : Value} {cc : CommCase} (hij : i ≠ j) (hj : gs[j]? = some (parked gi cs sh)) (hk : cs[kj]? = some cc) (x : Goroutine) :
    (finishPartner P (gs.setIfInBounds i ph) j kj v).setIfInBounds i x = (gs.setIfInBounds j (gi.finishComm P cs sh kj v cc.send.isNone)).setIfInBounds i x := by
  have hj' := stand_get (i := i) (Ne.symm hij) hj
  rw [finishPartner_at P (gs.setIfInBounds i ph) hj' (cs := cs) (sh := sh) rfl kj v]
  simp only [hk, Option.map_some, Option.getD_some, finishComm_parked]
  apply Array.ext_getElem?
  intro a
  simp only [Array.getElem?_setIfInBounds]
  split <;> simp_all
/-- A WAY AT ITS SECOND SELECT. -/
theorem Inv.s_got (I : Inv C σ f gs w t) (hi : gs[i]? = some g) (hr : g.status = .running) {v : Value} {l : List Value} (ht : σ.tag i = .got v l) (hs : stopOf C (σ.mine i) σ.N i (.got v l) o g w) : Kept C σ f gs t (runT C.P (crowd gs w sl) i) := by
  have hlt := (Array.getElem?_eq_some_iff.1 hi).1
  have hng : ∀ d, σ.tag i ≠ .gone d := by rw [ht]; intro d e; cases e
  obtain ⟨k, hk, rfl⟩ := I.abs.isWay hlt (by rw [ht]; rfl) hng
  have h0 : C.E.j0 + k ≠ 0 := by have := I.abs.j0; omega
  have hi0 : (C.E.j0 + k == 0) = false := by simpa using h0
  have J := I.phys.world
  have hE := I.ok
  obtain ⟨so, ro, tmo, hO⟩ := J.O
  obtain ⟨sq, rq, tmq, hq⟩ := J.Q
  have hOlt : C.E.O < w.heap.size := (Array.getElem?_eq_some_iff.1 hO).1
  have hqlt : C.E.Q < w.heap.size := (Array.getElem?_eq_some_iff.1 hq).1
  have hoc : σ.oc = false := by
    have n := I.abs.nums
    unfold Nums at n
    have p := sums_le σ ht hlt C.E
    simp only [Tag.cnt] at p
    cases e : σ.oc with
    | false => rfl
    | true => rw [e] at n; simp only [Bool.toNat_true] at n; omega
  obtain ⟨x, hox, hat, hfit, hback, hquit⟩ := id hs
  have hst : stepG C.P (C.E.j0 + k == 0) g w = .comm (core g) (C.E.cs2 x) true .select w #[] := by rw [hi0]; exact hat.comm w (RM.refl _ _ w)
  rw [hoc] at hO
  have hill : ∀ cc ∈ C.E.cs2 x, illMade w cc = false := by
    intro cc hcc
    simp only [PE.cs2, List.mem_toArray, List.mem_cons, List.not_mem_nil, or_false] at hcc
    rcases hcc with rfl | rfl
    · exact made_send _ _ hO
    · exact made_recv _ hq
  have p2 := I.phys.noSenders hE hE.oq.symm (C.E.j0 + k)
  have hw0 : ways w (gs.setIfInBounds (C.E.j0 + k) ph) (scase C.E.O x C.E.zG) = (partners (gs.setIfInBounds (C.E.j0 + k) ph) C.E.O false).map fun (h, k) => Way.partner h k := by
    simp only [ways, scase, hO]
    cases partners (gs.setIfInBounds (C.E.j0 + k) ph) C.E.O false <;> simp
  have hw1 : ways w (gs.setIfInBounds (C.E.j0 + k) ph) (rcase C.E.Q C.E.zQ) = if σ.qc = true then [.closed] else [] := by
    simp [ways, rcase, hq, p2]
  by_cases hready : partners (gs.setIfInBounds (C.E.j0 + k) ph) C.E.O false ≠ [] ∨ σ.qc = true
  · obtain ⟨k', cc, way, d, hcc, hway, T⟩ := comm_any (sl := sl) hi hst hill (by
      rcases hready with h | h
      · exact ⟨0, scase C.E.O x C.E.zG, rfl, by rw [hw0]; simpa using h⟩
      · exact ⟨1, rcase C.E.Q C.E.zQ, rfl, by rw [hw1, if_pos h]; simp⟩)
    match k', hcc with
    | 0, hcc =>
      obtain rfl : scase C.E.O x C.E.zG = cc := by simpa [PE.cs2] using hcc
      rw [hw0] at hway
      obtain ⟨⟨j, kj⟩, hpj, rfl⟩ := List.mem_map.1 hway
      obtain ⟨y, hy, hkj⟩ := mem_partners.1 hpj
      rcases getElem?_stand gs _ j y hy with ⟨_, rfl⟩ | ⟨hji, hy'⟩
      · rw [offersAt_ph] at hkj; cases hkj
      · obtain ⟨rfl, rfl, hyb, m, b, ys, hm, hyp, hsm⟩ := I.phys.takers I.abs hE hy' hkj
        have hr := T.send _ _ _ _ _ _ _ _ _ _ _ _ rfl rfl hO hy
        rw [ev_nil] at hr
        have hyg : gs[0]? = some (parked (core y) C.E.cs5 (.recv true)) := by rw [← hyp]; exact hy'
        rw [finishPartner_set C.P h0 hyg (show C.E.cs5[0]? = some (rcase C.E.O C.E.zG) from rfl)] at hr
        have q4 := quiet4 (w := w) (a := C.E.j0 + k) (b := 0) (f1 := (core g).frame.fn) (f2 := y.frame.fn) (f3 := (core g).frame.fn) (f4 := y.frame.fn) (p1 := (core g).frame.place) (p2 := y.frame.place) (p3 := (core g).frame.place) (p4 := y.frame.place) (s := so) (r := ro) (cap := 0) hOlt
        subst hox
        exact I.meet hk hi hy' ht hm hs hsm d (so + 1) (ro + 1) tmo (fun op hop => (q4 op hop).1) (fun op hop => (q4 op hop).2.1) (fun op hop => (q4 op hop).2.2) (by rw [hoc]; exact hr)
    | 1, hcc =>
      obtain rfl : rcase C.E.Q C.E.zQ = cc := by simpa [PE.cs2] using hcc
      rw [hw1] at hway
      by_cases hqc : σ.qc = true
      · rw [if_pos hqc] at hway
        have hwy : way = .closed := by simpa using hway
        have hr := T.shut _ _ rfl hwy
        rw [ev_nil] at hr
        have ab := I.abs.quit2 hk hlt hqc ht
        have hsh := ShStep.at C.E w d
        obtain ⟨n', hsit⟩ := sit_walk (C := C) (mine := σ.mine _) (N := σ.N) (tg := .quit) (by intro e; cases e) (by intro d e; cases e) (wk_WD h0 rfl (hquit _ (hsh.rm I _))) (fun g w x => ⟨none, x⟩)
        have qr := quiet_rc (i := C.E.j0 + k) (fn := (core g).frame.fn) (pos := (core g).frame.place) hqlt
        refine I.put hi hr ab.1 (less_put ab.2) rfl ⟨rfl, rfl⟩ hsh hsit (fun _ _ _ _ _ x => cond_same rfl rfl rfl rfl rfl x) (nb_walk hsit (by intro e; cases e) (by intro d e; cases e)) (nb_walk hsit (by intro e; cases e) (by intro d e; cases e)) (fun e => absurd e h0) ?_ qr.1 qr.2.1 qr.2.2 (by rw [ht]; rfl) ?_
        · exact jw_same (σ := σ.set _ _) ⟨J.O, J.Q, J.Dn, J.St, J.Stn, J.Cr, J.Wg⟩ fun _ _ => rfl
        · exact PChain.turn (Chain.quiet I.tr.chain qr.1) rfl rfl rfl (fun _ _ e => by cases e) (fun e _ => by cases e) (fun e _ => by cases e)
      · rw [if_neg hqc] at hway; cases hway
    | k' + 2, hcc => simp [PE.cs2] at hcc
  · -- it waits
    have hp : partners (gs.setIfInBounds (C.E.j0 + k) ph) C.E.O false = [] := by
      by_cases h : partners (gs.setIfInBounds (C.E.j0 + k) ph) C.E.O false = []
      · exact h
      · exact absurd (.inl h) hready
    have hqc : σ.qc = false := by
      cases e : σ.qc with
      | false => rfl
      | true => exact absurd (.inr e) hready
    have hrw := crowd_waits (sl := sl) hi hst fun cc hcc => ⟨hill cc hcc, by
      simp only [PE.cs2, List.mem_toArray, List.mem_cons, List.not_mem_nil, or_false] at hcc
      rcases hcc with rfl | rfl
      · rw [hw0, hp]; rfl
      · rw [hw1, hqc]; rfl⟩
    have hsu : (upd σ.tag (C.E.j0 + k) (.got v l)) = σ.tag := by
      funext j; unfold upd; split
      · rename_i e; rw [e, ht]
      · rfl
    have hcore := stop_core (C := C) (mine := σ.mine (C.E.j0 + k)) (N := σ.N) (i := C.E.j0 + k) (t := .got v l) rfl hs
    refine I.put (σ' := σ) (t' := .got v l) (fi := 0) hi hrw I.abs (less_park hi hr rfl rfl) hsu.symm ⟨rfl, rfl⟩ (ShStep.at C.E w w.drawn) (Sit.of (.inr ⟨rfl, rfl, .inr rfl, some (C.E.cs2 x, .select), ?_, fun _ => ⟨rfl, fun e => by cases e⟩⟩) (by intro e; cases e) (by intro d e; cases e)) (fun _ _ _ _ _ x => x) (fun _ => hqc) (fun _ => ⟨fun e => absurd e h0, fun _ y hy hyb => ?_⟩) (fun e => absurd e h0) J (by simp [MemOp.ofEvents]) (by simp [MemOp.ofEvents]) (by simp [MemOp.ofEvents]) (by rw [ht]) ?_
    · subst hox; exact hcore
    · rcases (I.phys.waiting hy hyb).2 with ⟨v', l', x', e1, e2, e3⟩ | ⟨e1, e2⟩ | ⟨e1, e2⟩ | ⟨e1, e2⟩ | ⟨m, b, ys, e1, e2, e3⟩
      · have r := I.abs.role 0; unfold Role at r; rw [if_pos rfl, e1] at r; exact r
      · have r := I.abs.role 0; unfold Role at r; rw [if_pos rfl, e1] at r; exact r
      · have r := I.abs.role 0; unfold Role at r; rw [if_pos rfl, e1] at r; exact r
      · have r := I.abs.role 0; unfold Role at r; rw [if_pos rfl, e1] at r; exact r
      · have : (0, 0) ∈ partners (gs.setIfInBounds (C.E.j0 + k) ph) C.E.O false := mem_partners.2 ⟨y, stand_get (Ne.symm h0) hy, by rw [e2, offers5, if_pos ⟨rfl, rfl⟩]; simp⟩
        rw [hp] at this; cases this
    · simp only [MemOp.ofEvents]
      simpa using I.tr.chain
end Go.Proofs.Ytiobhgemjbjipaa

/- Closes; the semaphore; the closer's communications. Conditions stand as premises. -/
namespace Go.Proofs.Ytiobhgemjbjipaa
open Go.Conc
open Go.ConcR (KK wgBlock WgAt stA smA rd wr mk DC0 deafBehind_one deafBehind_cons)
open Go.ConcN (WgLive upd upd_ne upd_same PermW sumTo sumTo_upd sumTo_congr sumTo_le)
set_option linter.unusedVariables false
set_option linter.unusedSimpArgs false
variable {C : Cx} {σ σ' : Gh} {f f' : Nat → Nat} {gs gs' : Array Goroutine} {w w' : World} {t u : Trace} {i sz : Nat} {g g' : Goroutine} {E : PE} {es : Array Event} {sl : Option (Nat × Nat)} {mine : Nat → Prop} {N : Nat} {tg : Tag} {o : Offers}
theorem woken_closed {P : Program} {y gy : Goroutine} {cs : Array CommCase} {sh : CommShape} {k c cap s r : Nat} {z : Value} {buf : Array Value} {tm : Bool} (hm : mayWake P g = true) (hg : g'.status = .running) (hy : y = parked gy cs sh) (hk : cs[k]? = some (rcase c z)) (hc : w'.heap[c]? = some (.chan cap buf true s r tm)) : (woken P g g' w' y).status = .running := by
  have : woken P g g' w' y = y.again w' := by simp [Go.Conc.woken, hm, hg]
  rw [this, hy, again_some_closed hk hc]
/-- A CLOSE. -/
theorem Inv.shut (I : Inv C σ f gs w t) (hi : gs[i]? = some g) {c s r : Nat} {tm : Bool} (hc : C.E.Sh c) (hcw : c ≠ C.E.Wg) (hcell : w.heap[c]? = some (.chan 0 #[] false s r tm)) (hst : stepG C.P (i == 0) g w = .go g' (w.setChan c 0 #[] true s r tm) (closeEvents c)) (hgr : g'.status = .running)
    {t' : Tag} {n : Nat} (ab : Abs C σ' gs.size ∧ σ'.A C gs.size < σ.A C gs.size) (h1 : σ'.tag = upd σ.tag i t') (h2 : σ'.mine = σ.mine ∧ σ'.N = σ.N) (hs : Sit C (σ.mine i) σ.N i n g' (w.setChan c 0 #[] true s r tm) t') (hW : JW C.E σ' (w.setChan c 0 #[] true s r tm))
    (hk : ∀ j y, j ≠ i → gs[j]? = some y → (woken C.P g g' (w.setChan c 0 #[] true s r tm) y).status = .blocked → Cond σ (σ.tag j) → Cond σ' (σ.tag j)) (hg : ∀ d, σ.tag i ≠ .gone d) (hd : (σ.tag i).dOf = t'.dOf) (hch : PChain C σ' (t ++ MemOp.ofEvents i g.frame.fn g.frame.place (closeEvents c))) :
    Kept C σ f gs t (runT C.P (crowd gs w sl) i) := by
  have hlt : i < gs.size := (Array.getElem?_eq_some_iff.1 hi).1
  have hclt : c < w.heap.size := (Array.getElem?_eq_some_iff.1 hcell).1
  have hsh : ShStep C.E w (w.setChan c 0 #[] true s r tm) := ShStep.chan (d := w.drawn) I.ok hc hcw w
  have hWs := hsh.wst I.ok I.phys.world (N := σ.N)
  have hev : ∀ e ∈ closeEvents c, e = ⟨.obj c, false, true⟩ ∨ e = ⟨.obj c, true, true⟩ := fun e he => by simpa [closeEvents] using he
  obtain ⟨gs', u, hsz', hgs, hr, I'⟩ := I.go (σ' := σ') (t' := t') (fi := n) (sl := sl) hi hst ab.1 h1 h2.1 h2.2 hWs (fun _ b hns _ => hsh.same b hns) hs hk (fun hb => by rw [hgr] at hb; cases hb) hW
    (pt_sync I.ok I.phys.nb I.phys.ro hWs hsh.size I.tr.pt fun op hop => by
      obtain ⟨e, he, rfl⟩ := Go.Conc.mem_ofEvents (es := closeEvents c) hop
      refine ⟨rfl, fun x hx => ?_⟩
      rcases hev e he with rfl | rfl
      · have : x = ⟨.obj c, false, .atomic⟩ := by
          have h : some (⟨.obj c, false, .atomic⟩ : Touch) = some x := hx
          exact (Option.some.inj h).symm
        subst this
        exact ⟨.inr ⟨c, rfl⟩, rfl⟩
      · cases hx) (by rw [hd]; exact deafBehind_still (fun e he => by rcases hev e he with rfl | rfl <;> simp) _) (fun e he => by
      rw [hsh.size]
      rcases hev e he with rfl | rfl
      · exact hclt
      · exact hclt) (fun e he => by
      rcases hev e he with rfl | rfl
      · show MemAct.access _ ≠ _; simp
      · show MemAct.close c ≠ _; simp) ((I.abs.notOld hlt hg).imp id .inl) hch
  exact ⟨σ', _, gs', _, sl, u, hr, I', less_A (by rw [hsz']; exact ab.2)⟩
/-- The seal that a close lays. -/
theorem seal_close {fn : FuncId} {pos : String} {c : Nat} {X : Nat → Prop} (hd : Deaf t i = 0) (h : KB E t X (Knows t i)) (hX : ∀ g, X g → g = i → False) : Seal E (t ++ MemOp.ofEvents i fn pos (closeEvents c)) (.close c) (fun g => X g ∨ g = i) := by
  have e : t ++ MemOp.ofEvents i fn pos (closeEvents c) = (t ++ #[{ g := i, fn := fn, pos := pos, act := .access ⟨.obj c, false, true⟩ }]) ++ #[{ g := i, fn := fn, pos := pos, act := .close c }] := by
    rw [closeOps, Array.append_assoc]; rfl
  rw [e]
  have hd' : Deaf (t ++ #[{ g := i, fn := fn, pos := pos, act := .access ⟨.obj c, false, true⟩ }]) i = 0 := by
    rw [Go.ConcN.Deaf_still _ _ _ (fun op hop => by
      have : op = { g := i, fn := fn, pos := pos, act := .access ⟨.obj c, false, true⟩ } := by simpa using hop
      subst this; simp)]
    exact hd
  refine seal_last (y := { g := i, fn := fn, pos := pos, act := .close c }) rfl hd' rfl ?_
  refine KB.union (h.app (g := i) (fun op hop => by
      have : op = { g := i, fn := fn, pos := pos, act := .access ⟨.obj c, false, true⟩ } := by simpa using hop
      subst this; rfl) (fun hx => (hX i hx rfl).elim) fun j hj => hj.app _) (kb_self _ _ _)
theorem Inv.s_tshut (I : Inv C σ f gs w t) (hi : gs[i]? = some g) (ht : σ.tag i = .tshut) (hs : stopOf C (σ.mine i) σ.N i (.tshut) o g w) : Kept C σ f gs t (runT C.P (crowd gs w sl) i) := by
  have hlt := (Array.getElem?_eq_some_iff.1 hi).1
  have hng : ∀ d, σ.tag i ≠ .gone d := by rw [ht]; intro d e; cases e
  obtain rfl := I.abs.isWtr hlt (by rw [ht]; rfl) hng
  have h0 : C.iw ≠ 0 := by have := I.abs.j0; unfold Cx.iw; omega
  have hi0 : (C.iw == 0) = false := by simpa using h0
  simp only [stopOf] at hs
  have n := I.abs.nums
  unfold Nums at n
  have p := sums_le σ ht hlt C.E
  simp only [Tag.cnt, Tag.sem, Tag.l1, Tag.l2, Tag.l3, Tag.past, Tag.pre, Tag.tt, Tag.cc, Tag.co, Tag.cd, Tag.cq, Tag.cs, Tag.op] at p
  have i1 : (if C.iw < gs.size then 1 else 0) ≤ 1 := by split <;> omega
  have i2 : (if C.ic < gs.size then 1 else 0) ≤ 1 := by split <;> omega
  have J := I.phys.world
  have hE := I.ok
  have hf : σ.dc = false := by
    cases e : σ.dc with
    | false => rfl
    | true => rw [e] at n; simp only [Bool.toNat_true] at n; omega
  obtain ⟨hrun, hmw, g', hgr, hs⟩ := hs
  obtain ⟨s, r, tm, hcell⟩ := J.Dn
  rw [hf] at hcell
  have hclt := (Array.getElem?_eq_some_iff.1 hcell).1
  obtain ⟨hst, hnx⟩ := hs s r tm hcell
  obtain ⟨q, hq⟩ := hnx
  refine I.shut hi (.inr (.inr (.inr (.inl rfl)))) hE.wd.symm hcell (by rw [hi0]; exact hst) hgr (I.abs.tshut hlt ht) rfl ⟨rfl, rfl⟩ (n := q) hq ?_ ?_ hng (by rw [ht]; rfl) ?_
  · refine ⟨by rw [show (w.setChan C.E.Dn 0 #[] true s r tm).heap[C.E.O]? = w.heap[C.E.O]? from setChan_ne (d := w.drawn) hE.od]; exact J.O, by rw [show (w.setChan C.E.Dn 0 #[] true s r tm).heap[C.E.Q]? = w.heap[C.E.Q]? from setChan_ne (d := w.drawn) hE.qd]; exact J.Q, ⟨s, r, tm, setChan_at (d := w.drawn) hclt⟩, fun c2 hc2 => by rw [show (w.setChan C.E.Dn 0 #[] true s r tm).heap[c2]? = w.heap[c2]? from setChan_ne (d := w.drawn) (hE.st c2 hc2).2.2.2]; exact J.St c2 hc2, J.Stn, fun k2 hk2 => by rw [show (w.setChan C.E.Dn 0 #[] true s r tm).heap[C.E.Cr k2]? = w.heap[C.E.Cr k2]? from setChan_ne (d := w.drawn) (hE.cr k2 hk2).2.2.2.1]; exact J.Cr k2 hk2, J.Wg.of_block (show _ = _ from setChan_ne (d := w.drawn) hE.wd)⟩
  · have hcl2 : (w.setChan C.E.Dn 0 #[] true s r tm).heap[C.E.Dn]? = _ := setChan_at (d := w.drawn) hclt
    intro j y hj hy hb hcd
    have hbl : y.status = .blocked := by
      rcases (I.phys.sit j y hy).alive with h | h | h
      · rw [woken_run h] at hb; rw [h] at hb; cases hb
      · exact h
      · unfold woken at hb
        split at hb
        · rw [again_running _ (.inr h)] at hb; rw [h] at hb; cases hb
        · exact hb
    rcases (I.phys.waiting hy hbl).2 with ⟨v1, l1, x1, e1, e2, e3⟩ | ⟨e1, e2⟩ | ⟨e1, e2⟩ | ⟨e1, e2⟩ | ⟨m1, b1, ys1, e1, e2, e3⟩ <;> rw [e1] at hcd ⊢
    · exact hcd
    · exact hcd
    · rw [woken_closed (k := 1) hmw hgr e2 (show C.E.cs3[1]? = some (rcase C.E.Dn C.E.zQ) from rfl) hcl2] at hb; cases hb
    · rw [woken_closed (k := 0) hmw hgr e2 (show C.E.cs4[0]? = some (rcase C.E.Dn C.E.zQ) from rfl) hcl2] at hb; cases hb
    · exact hcd
  · refine (Chain.app I.tr.chain own_ops (.inr (I.dirty hlt hng (by rw [ht]; rfl)))).to (fun x hx => .inl ⟨hx.1, hx.2.1, ?_⟩) (fun hx => ?_) (fun _ => .inr ?_) (fun hx => .inl ?_) .inl
    · have h3 := hx.2.2
      have : x ≠ C.iw := by have := hx.2.1; unfold Cx.iw; omega
      rw [show ({ σ.set C.iw (.gone 0) with dc := true } : Gh).tag x = σ.tag x from upd_ne _ _ this] at h3
      exact h3
    · rw [show ({ σ.set C.iw (.gone 0) with dc := true } : Gh).tag C.iw = .gone 0 from upd_same _ _ _] at hx; cases hx
    · have k1 := I.tr.chain.T2 ht
      have := seal_close (fn := g.frame.fn) (pos := g.frame.place) (c := C.E.Dn) (i := C.iw) (by rw [I.tr.deaf, ht]; rfl) k1 (fun g hg e => by unfold Cx.iw at e; omega)
      obtain ⟨m, a1, a2, a3⟩ := this
      exact ⟨m, a1, a2, a3.mono (fun g hg => by unfold Cx.iw; omega) fun _ x => x⟩
    · have : C.ic ≠ C.iw := by unfold Cx.ic Cx.iw; omega
      rw [show ({ σ.set C.iw (.gone 0) with dc := true } : Gh).tag C.ic = σ.tag C.ic from upd_ne _ _ this] at hx; exact hx
theorem Inv.s_cquit (I : Inv C σ f gs w t) (hi : gs[i]? = some g) (ht : σ.tag i = .cquit) (hs : stopOf C (σ.mine i) σ.N i (.cquit) o g w) : Kept C σ f gs t (runT C.P (crowd gs w sl) i) := by
  have hlt := (Array.getElem?_eq_some_iff.1 hi).1
  have hng : ∀ d, σ.tag i ≠ .gone d := by rw [ht]; intro d e; cases e
  obtain rfl := I.abs.isClo hlt (by rw [ht]; rfl) hng
  have h0 : C.ic ≠ 0 := by have := I.abs.j0; unfold Cx.ic; omega
  have hi0 : (C.ic == 0) = false := by simpa using h0
  simp only [stopOf] at hs
  have n := I.abs.nums
  unfold Nums at n
  have p := sums_le σ ht hlt C.E
  simp only [Tag.cnt, Tag.sem, Tag.l1, Tag.l2, Tag.l3, Tag.past, Tag.pre, Tag.tt, Tag.cc, Tag.co, Tag.cd, Tag.cq, Tag.cs, Tag.op] at p
  have i1 : (if C.iw < gs.size then 1 else 0) ≤ 1 := by split <;> omega
  have i2 : (if C.ic < gs.size then 1 else 0) ≤ 1 := by split <;> omega
  have J := I.phys.world
  have hE := I.ok
  have hf : σ.qc = false := by
    cases e : σ.qc with
    | false => rfl
    | true => rw [e] at n; simp only [Bool.toNat_true] at n; omega
  obtain ⟨hrun, hmw, g', hgr, hs⟩ := hs
  obtain ⟨s, r, tm, hcell⟩ := J.Q
  rw [hf] at hcell
  have hclt := (Array.getElem?_eq_some_iff.1 hcell).1
  obtain ⟨hst, hnx⟩ := hs s r tm hcell
  obtain ⟨n', hsit⟩ := sit_walk (C := C) (mine := σ.mine _) (N := σ.N) (tg := .cdone) (by intro e; cases e) (by intro d e; cases e) (wk_WD h0 rfl hnx) (fun g w x => x)
  refine I.shut hi (.inr (.inr (.inl rfl))) hE.wq.symm hcell (by rw [hi0]; exact hst) hgr (I.abs.cquit hlt ht) rfl ⟨rfl, rfl⟩ hsit ?_ ?_ hng (by rw [ht]; rfl) ?_
  · refine ⟨by rw [show (w.setChan C.E.Q 0 #[] true s r tm).heap[C.E.O]? = w.heap[C.E.O]? from setChan_ne (d := w.drawn) hE.oq]; exact J.O, ⟨s, r, tm, setChan_at (d := w.drawn) hclt⟩, by rw [show (w.setChan C.E.Q 0 #[] true s r tm).heap[C.E.Dn]? = w.heap[C.E.Dn]? from setChan_ne (d := w.drawn) hE.qd.symm]; exact J.Dn, fun c2 hc2 => by rw [show (w.setChan C.E.Q 0 #[] true s r tm).heap[c2]? = w.heap[c2]? from setChan_ne (d := w.drawn) (hE.st c2 hc2).2.2.1]; exact J.St c2 hc2, J.Stn, fun k2 hk2 => by rw [show (w.setChan C.E.Q 0 #[] true s r tm).heap[C.E.Cr k2]? = w.heap[C.E.Cr k2]? from setChan_ne (d := w.drawn) (hE.cr k2 hk2).2.2.1]; exact J.Cr k2 hk2, J.Wg.of_block (show _ = _ from setChan_ne (d := w.drawn) hE.wq)⟩
  · have hcl2 : (w.setChan C.E.Q 0 #[] true s r tm).heap[C.E.Q]? = _ := setChan_at (d := w.drawn) hclt
    intro j y hj hy hb hcd
    have hbl : y.status = .blocked := by
      rcases (I.phys.sit j y hy).alive with h | h | h
      · rw [woken_run h] at hb; rw [h] at hb; cases hb
      · exact h
      · unfold woken at hb
        split at hb
        · rw [again_running _ (.inr h)] at hb; rw [h] at hb; cases hb
        · exact hb
    rcases (I.phys.waiting hy hbl).2 with ⟨v1, l1, x1, e1, e2, e3⟩ | ⟨e1, e2⟩ | ⟨e1, e2⟩ | ⟨e1, e2⟩ | ⟨m1, b1, ys1, e1, e2, e3⟩ <;> rw [e1] at hcd ⊢
    · rw [woken_closed (k := 1) hmw hgr e2 (show (C.E.cs2 x1)[1]? = some (rcase C.E.Q C.E.zQ) from rfl) hcl2] at hb; cases hb
    · exact hcd
    · exact hcd
    · exact hcd
    · exact hcd
  · exact PChain.turn (Chain.app I.tr.chain own_ops (.inr (I.dirty hlt hng (by rw [ht]; rfl)))) rfl rfl rfl (fun _ _ e => by cases e) (fun e _ => by cases e) (fun e _ => by cases e)
theorem Inv.s_cout (I : Inv C σ f gs w t) (hi : gs[i]? = some g) (ht : σ.tag i = .cout) (hs : stopOf C (σ.mine i) σ.N i (.cout) o g w) : Kept C σ f gs t (runT C.P (crowd gs w sl) i) := by
  have hlt := (Array.getElem?_eq_some_iff.1 hi).1
  have hng : ∀ d, σ.tag i ≠ .gone d := by rw [ht]; intro d e; cases e
  obtain rfl := I.abs.isClo hlt (by rw [ht]; rfl) hng
  have h0 : C.ic ≠ 0 := by have := I.abs.j0; unfold Cx.ic; omega
  have hi0 : (C.ic == 0) = false := by simpa using h0
  simp only [stopOf] at hs
  have n := I.abs.nums
  unfold Nums at n
  have p := sums_le σ ht hlt C.E
  simp only [Tag.cnt, Tag.sem, Tag.l1, Tag.l2, Tag.l3, Tag.past, Tag.pre, Tag.tt, Tag.cc, Tag.co, Tag.cd, Tag.cq, Tag.cs, Tag.op] at p
  have i1 : (if C.iw < gs.size then 1 else 0) ≤ 1 := by split <;> omega
  have i2 : (if C.ic < gs.size then 1 else 0) ≤ 1 := by split <;> omega
  have J := I.phys.world
  have hE := I.ok
  have hf : σ.oc = false := by
    cases e : σ.oc with
    | false => rfl
    | true => rw [e] at n; simp only [Bool.toNat_true] at n; omega
  obtain ⟨hrun, hmw, g', hgr, hs⟩ := hs
  obtain ⟨s, r, tm, hcell⟩ := J.O
  rw [hf] at hcell
  have hclt := (Array.getElem?_eq_some_iff.1 hcell).1
  obtain ⟨hst, hnx⟩ := hs s r tm hcell
  obtain ⟨q, hq⟩ := hnx
  refine I.shut hi (.inr (.inl rfl)) hE.wo.symm hcell (by rw [hi0]; exact hst) hgr (I.abs.cout hlt ht) rfl ⟨rfl, rfl⟩ (n := q) hq ?_ ?_ hng (by rw [ht]; rfl) ?_
  · refine ⟨⟨s, r, tm, setChan_at (d := w.drawn) hclt⟩, by rw [show (w.setChan C.E.O 0 #[] true s r tm).heap[C.E.Q]? = w.heap[C.E.Q]? from setChan_ne (d := w.drawn) hE.oq.symm]; exact J.Q, by rw [show (w.setChan C.E.O 0 #[] true s r tm).heap[C.E.Dn]? = w.heap[C.E.Dn]? from setChan_ne (d := w.drawn) hE.od.symm]; exact J.Dn, fun c2 hc2 => by rw [show (w.setChan C.E.O 0 #[] true s r tm).heap[c2]? = w.heap[c2]? from setChan_ne (d := w.drawn) (hE.st c2 hc2).2.1]; exact J.St c2 hc2, J.Stn, fun k2 hk2 => by rw [show (w.setChan C.E.O 0 #[] true s r tm).heap[C.E.Cr k2]? = w.heap[C.E.Cr k2]? from setChan_ne (d := w.drawn) (hE.cr k2 hk2).2.1]; exact J.Cr k2 hk2, J.Wg.of_block (show _ = _ from setChan_ne (d := w.drawn) hE.wo)⟩
  · have hcl2 : (w.setChan C.E.O 0 #[] true s r tm).heap[C.E.O]? = _ := setChan_at (d := w.drawn) hclt
    intro j y hj hy hb hcd
    have hbl : y.status = .blocked := by
      rcases (I.phys.sit j y hy).alive with h | h | h
      · rw [woken_run h] at hb; rw [h] at hb; cases hb
      · exact h
      · unfold woken at hb
        split at hb
        · rw [again_running _ (.inr h)] at hb; rw [h] at hb; cases hb
        · exact hb
    rcases (I.phys.waiting hy hbl).2 with ⟨v1, l1, x1, e1, e2, e3⟩ | ⟨e1, e2⟩ | ⟨e1, e2⟩ | ⟨e1, e2⟩ | ⟨m1, b1, ys1, e1, e2, e3⟩ <;> rw [e1] at hcd ⊢
    · exact hcd
    · exact hcd
    · exact hcd
    · exact hcd
    · rw [woken_closed (k := 0) hmw hgr e2 (show C.E.cs5[0]? = some (rcase C.E.O C.E.zG) from rfl) hcl2] at hb; cases hb
  · refine (Chain.app I.tr.chain own_ops (.inr (I.dirty hlt hng (by rw [ht]; rfl)))).to (fun x hx => .inl ⟨hx.1, hx.2.1, ?_⟩) (fun hx => .inl ?_) .inl (fun hx => ?_) (fun _ => .inr ?_)
    · have h3 := hx.2.2
      have : x ≠ C.ic := by have := hx.2.1; unfold Cx.ic; omega
      rw [show ({ σ.set C.ic (.gone 0) with oc := true } : Gh).tag x = σ.tag x from upd_ne _ _ this] at h3
      exact h3
    · have : C.iw ≠ C.ic := by unfold Cx.ic Cx.iw; omega
      rw [show ({ σ.set C.ic (.gone 0) with oc := true } : Gh).tag C.iw = σ.tag C.iw from upd_ne _ _ this] at hx; exact hx
    · rw [show ({ σ.set C.ic (.gone 0) with oc := true } : Gh).tag C.ic = .gone 0 from upd_same _ _ _] at hx; cases hx
    · have k1 := I.tr.chain.T4 ht
      have := seal_close (fn := g.frame.fn) (pos := g.frame.place) (c := C.E.O) (i := C.ic) (by rw [I.tr.deaf, ht]; rfl) k1 (fun g hg e => by unfold Cx.ic at e; omega)
      obtain ⟨m, a1, a2, a3⟩ := this
      exact ⟨m, a1, a2, a3.mono (fun g hg => by unfold Cx.ic; omega) fun _ x => x⟩
theorem Inv.s_mshut (I : Inv C σ f gs w t) (hi : gs[i]? = some g) {m : Nat} {ys : List (Nat × Value × Value)} (ht : σ.tag i = .cons (m + 1) true ys) {c : Nat} (hSt : C.E.St = some c) (hs : AtClose C.P true c (W0 C.P C.E σ.N (fun g w => ∃ o, MRecv C.P C.E C.Exit m false ys σ.N o g w)) g w) : Kept C σ f gs t (runT C.P (crowd gs w sl) i) := by
  have hlt := (Array.getElem?_eq_some_iff.1 hi).1
  have hng : ∀ d, σ.tag i ≠ .gone d := by rw [ht]; intro d e; cases e
  obtain rfl := I.abs.isMain hlt (by rw [ht]; rfl) (by rw [ht]; rfl) (by rw [ht]; rfl)
  have n := I.abs.nums
  unfold Nums at n
  have p := sums_le σ ht hlt C.E
  simp only [Tag.cnt, Tag.sem, Tag.l1, Tag.l2, Tag.l3, Tag.past, Tag.pre, Tag.tt, Tag.cc, Tag.co, Tag.cd, Tag.cq, Tag.cs, Tag.op] at p
  have i1 : (if C.iw < gs.size then 1 else 0) ≤ 1 := by split <;> omega
  have i2 : (if C.ic < gs.size then 1 else 0) ≤ 1 := by split <;> omega
  have J := I.phys.world
  have hE := I.ok
  have hf : σ.sc = false := by
    cases e : σ.sc with
    | false => rfl
    | true => rw [e] at n; simp only [Bool.toNat_true] at n; omega
  obtain ⟨hrun, hmw, g', hgr, hs⟩ := hs
  obtain ⟨s, r, tm, hcell⟩ := J.St c hSt
  rw [hf] at hcell
  have hclt := (Array.getElem?_eq_some_iff.1 hcell).1
  obtain ⟨hst, hnx⟩ := hs s r tm hcell
  obtain ⟨n', hsit⟩ := sit_walk (C := C) (i := 0) (mine := σ.mine 0) (N := σ.N) (tg := .cons m false ys) (by intro e; cases e) (by intro d e; cases e) (wk_W0 I.phys.m0 rfl hnx) (fun g w x => x)
  refine I.shut hi (.inr (.inr (.inr (.inr (.inl hSt))))) (hE.st c hSt).1 hcell hst hgr (I.abs.mshut hlt ht) rfl ⟨rfl, rfl⟩ hsit ?_ ?_ hng (by rw [ht]; rfl) ?_
  · refine ⟨by rw [show (w.setChan c 0 #[] true s r tm).heap[C.E.O]? = w.heap[C.E.O]? from setChan_ne (d := w.drawn) (hE.st c hSt).2.1.symm]; exact J.O, by rw [show (w.setChan c 0 #[] true s r tm).heap[C.E.Q]? = w.heap[C.E.Q]? from setChan_ne (d := w.drawn) (hE.st c hSt).2.2.1.symm]; exact J.Q, by rw [show (w.setChan c 0 #[] true s r tm).heap[C.E.Dn]? = w.heap[C.E.Dn]? from setChan_ne (d := w.drawn) (hE.st c hSt).2.2.2.symm]; exact J.Dn, (fun c2 hc2 => by rw [hSt] at hc2; cases hc2; exact ⟨s, r, tm, setChan_at (d := w.drawn) hclt⟩), (fun e => by rw [hSt] at e; cases e), fun k2 hk2 => by rw [show (w.setChan c 0 #[] true s r tm).heap[C.E.Cr k2]? = w.heap[C.E.Cr k2]? from setChan_ne (d := w.drawn) (fun e => (hE.cr k2 hk2).2.2.2.2 (by rw [hSt, e]))]; exact J.Cr k2 hk2, J.Wg.of_block (show _ = _ from setChan_ne (d := w.drawn) (hE.st c hSt).1.symm)⟩
  · have hcl2 : (w.setChan c 0 #[] true s r tm).heap[c]? = _ := setChan_at (d := w.drawn) hclt
    intro j y hj hy hb hcd
    have hbl : y.status = .blocked := by
      rcases (I.phys.sit j y hy).alive with h | h | h
      · rw [woken_run h] at hb; rw [h] at hb; cases hb
      · exact h
      · unfold woken at hb
        split at hb
        · rw [again_running _ (.inr h)] at hb; rw [h] at hb; cases hb
        · exact hb
    rcases (I.phys.waiting hy hbl).2 with ⟨v1, l1, x1, e1, e2, e3⟩ | ⟨e1, e2⟩ | ⟨e1, e2⟩ | ⟨e1, e2⟩ | ⟨m1, b1, ys1, e1, e2, e3⟩ <;> rw [e1] at hcd ⊢
    · exact hcd
    · exact hcd
    · have hk3 : C.E.cs3[0]? = some (rcase c C.E.zQ) := by simp [PE.cs3, hSt]
      rw [woken_closed (k := 0) hmw hgr e2 hk3 hcl2] at hb; cases hb
    · exact hcd
    · exact hcd
  · exact PChain.turn (Chain.app I.tr.chain own_ops (.inr (I.dirty hlt hng (by rw [ht]; rfl)))) rfl rfl rfl (fun _ _ e => by cases e) (fun e _ => by cases e) (fun e _ => by cases e)
theorem Inv.s_tsem (I : Inv C σ f gs w t) (hi : gs[i]? = some g) (hr : g.status = .running) (ht : σ.tag i = .tsem) (hs : stopOf C (σ.mine i) σ.N i (.tsem) o g w) : Kept C σ f gs t (runT C.P (crowd gs w sl) i) := by
  have hlt := (Array.getElem?_eq_some_iff.1 hi).1
  have hng : ∀ d, σ.tag i ≠ .gone d := by rw [ht]; intro d e; cases e
  obtain rfl := I.abs.isWtr hlt (by rw [ht]; rfl) hng
  have h0 : C.iw ≠ 0 := by have := I.abs.j0; unfold Cx.iw; omega
  have hi0 : (C.iw == 0) = false := by simpa using h0
  have hs' := hs
  simp only [stopOf] at hs
  have n := I.abs.nums
  unfold Nums at n
  have p := sums_le σ ht hlt C.E
  simp only [Tag.cnt, Tag.sem, Tag.l1, Tag.l2, Tag.l3, Tag.past, Tag.pre, Tag.tt, Tag.cc, Tag.co, Tag.cd, Tag.cq, Tag.cs, Tag.op] at p
  have i1 : (if C.iw < gs.size then 1 else 0) ≤ 1 := by split <;> omega
  have i2 : (if C.ic < gs.size then 1 else 0) ≤ 1 := by split <;> omega
  have J := I.phys.world
  have hE := I.ok
  have hW := J.Wg
  obtain ⟨ho, hrun, hs⟩ := hs
  obtain ⟨hwait, hgo⟩ := hs w (RM.refl _ _ w)
  by_cases hm : σ.sm = 0
  · -- it waits
    have hst := hwait ⟨_, by rw [hm] at hW; exact hW⟩
    have hsu : (upd σ.tag C.iw .tsem) = σ.tag := by
      funext j; unfold upd; split
      · rename_i e; rw [e, ht]
      · rfl
    have hcore := stop_core (C := C) (mine := σ.mine C.iw) (N := σ.N) (i := C.iw) (t := .tsem) rfl hs'
    have hW0 : Wst C.E σ.N w w := ⟨Nat.le_refl _, fun _ _ _ _ => rfl, fun _ _ => rfl, id, .refl _⟩
    obtain ⟨gs', u, hsz', hgs, hrn, I'⟩ := I.go (σ' := σ) (g' := { core g with status := .blocked }) (w' := w) (es := #[]) (t' := .tsem) (fi := 0) (sl := sl) hi (by rw [hi0]; exact hst) I.abs hsu.symm rfl rfl hW0 (fun _ _ _ _ => rfl) (Sit.of (.inr ⟨rfl, rfl, .inr rfl, o, hcore, fun _ => ⟨ho.symm, fun _ => rfl⟩⟩) (by intro e; cases e) (by intro d e; cases e)) (fun _ _ _ _ _ x => x) (fun _ => ⟨h0, rfl, hm⟩) J
      (pt_mute I.ok I.phys.nb I.phys.ro hW0 rfl I.tr.pt (by simp [MemOp.ofEvents])) (by rw [ht]; rfl) (by simp) (by simp) (.inr (.inr (by simp))) (by simp only [MemOp.ofEvents]; simpa using I.tr.chain)
    refine ⟨σ, _, gs', w, sl, u, hrn, I', ?_⟩
    have e : gs' = gs.setIfInBounds C.iw { core g with status := .blocked } := by
      rw [hgs]
      apply Array.ext_getElem?
      intro a
      by_cases ea : C.iw = a
      · subst ea
        rw [Array.getElem?_setIfInBounds_self_of_lt (by simpa using hlt), Array.getElem?_setIfInBounds_self_of_lt hlt]
      · rw [Array.getElem?_setIfInBounds_ne ea, Array.getElem?_setIfInBounds_ne ea, Array.getElem?_map]
        cases gs[a]? with
        | none => rfl
        | some y => simp [Go.Conc.woken]
    rw [e]
    exact less_park hi hr rfl rfl
  · have a3 : σ.sm = 1 := by omega
    have a1 : σ.v = 0 := by omega
    have a2 : σ.wt = 0 := by omega
    obtain ⟨g', hst, hnx⟩ := hgo (by rw [a1, a2, a3] at hW; simpa using hW)
    have hf := setCell_facts w (smA C.E.Wg) (.int .u32 0)
    obtain ⟨n', hsit⟩ := sit_walk (C := C) (mine := σ.mine _) (N := σ.N) (tg := .tload2) (by intro e; cases e) (by intro d e; cases e) (wk_WZ h0 hnx) (fun g w x => ⟨none, x⟩)
    refine I.wg hi (by rw [hi0]; exact hst) (I.abs.tsem hlt a3 ht) rfl ⟨rfl, rfl⟩ ⟨rfl, rfl, rfl, rfl, rfl⟩ hf.1 hf.2 (by have := hW.setSm 0; exact this) hsit ev_sem (fun j y _ _ _ x => ?_) (nb_walk hsit (by intro e; cases e) (by intro d e; cases e)) hng (by rw [ht]; rfl) ?_
    · revert x
      cases σ.tag j <;> intro x <;> first | exact rfl | exact x
    · exact PChain.turn (Chain.app I.tr.chain own_ops (.inr (I.dirty hlt hng (by rw [ht]; rfl)))) rfl rfl rfl (fun _ _ e => by cases e) (fun e _ => by cases e) (fun e _ => by cases e)
theorem Inv.s_cdone (I : Inv C σ f gs w t) (hi : gs[i]? = some g) (hr : g.status = .running) (ht : σ.tag i = .cdone) (hs : stopOf C (σ.mine i) σ.N i (.cdone) o g w) : Kept C σ f gs t (runT C.P (crowd gs w sl) i) := by
  have hlt := (Array.getElem?_eq_some_iff.1 hi).1
  have hng : ∀ d, σ.tag i ≠ .gone d := by rw [ht]; intro d e; cases e
  obtain rfl := I.abs.isClo hlt (by rw [ht]; rfl) hng
  have h0 : C.ic ≠ 0 := by have := I.abs.j0; unfold Cx.ic; omega
  have hi0 : (C.ic == 0) = false := by simpa using h0
  have hs' := hs
  simp only [stopOf] at hs
  have n := I.abs.nums
  unfold Nums at n
  have p := sums_le σ ht hlt C.E
  simp only [Tag.cnt, Tag.sem, Tag.l1, Tag.l2, Tag.l3, Tag.past, Tag.pre, Tag.tt, Tag.cc, Tag.co, Tag.cd, Tag.cq, Tag.cs, Tag.op] at p
  have i1 : (if C.iw < gs.size then 1 else 0) ≤ 1 := by split <;> omega
  have i2 : (if C.ic < gs.size then 1 else 0) ≤ 1 := by split <;> omega
  have J := I.phys.world
  have hE := I.ok
  obtain ⟨ho, hat, hnx⟩ := hs
  have hst : stepG C.P (C.ic == 0) g w = .comm (core g) C.E.cs4 true (.recv false) w #[] := by rw [hi0]; exact hat.comm w (RM.refl _ _ w)
  obtain ⟨s, r, tm, hcell⟩ := J.Dn
  have hclt := (Array.getElem?_eq_some_iff.1 hcell).1
  have p2 := I.phys.noSenders hE hE.od.symm C.ic
  have hill : ∀ cc ∈ C.E.cs4, illMade w cc = false := by
    intro cc hcc
    simp only [PE.cs4, List.mem_toArray, List.mem_cons, List.not_mem_nil, or_false] at hcc
    subst hcc
    exact made_recv _ hcell
  have hw0 : ways w (gs.setIfInBounds C.ic ph) (rcase C.E.Dn C.E.zQ) = if σ.dc = true then [.closed] else [] := by
    simp [ways, rcase, hcell, p2]
  by_cases hdc : σ.dc = true
  · obtain ⟨k', cc, way, d, hcc, hway, T⟩ := comm_any (sl := sl) hi hst hill ⟨0, rcase C.E.Dn C.E.zQ, rfl, by rw [hw0, if_pos hdc]; simp⟩
    match k', hcc with
    | 0, hcc =>
      obtain rfl : rcase C.E.Dn C.E.zQ = cc := by simpa [PE.cs4] using hcc
      rw [hw0, if_pos hdc] at hway
      have hr' := T.shut _ _ rfl (by simpa using hway)
      rw [ev_nil] at hr'
      have ab := I.abs.cdone2 hlt hdc ht
      have hsh := ShStep.at C.E w d
      obtain ⟨n', hsit⟩ := sit_walk (C := C) (mine := σ.mine _) (N := σ.N) (tg := .cout) (by intro e; cases e) (by intro d e; cases e) (wk_WD h0 rfl (hnx _ (hsh.rm I _))) (fun g w x => ⟨none, x⟩)
      have qr := quiet_rc (i := C.ic) (fn := (core g).frame.fn) (pos := (core g).frame.place) hclt
      refine I.put hi hr' ab.1 (less_put ab.2) rfl ⟨rfl, rfl⟩ hsh hsit (fun _ _ _ _ _ x => cond_same rfl rfl rfl rfl rfl x) (nb_walk hsit (by intro e; cases e) (by intro d e; cases e)) (nb_walk hsit (by intro e; cases e) (by intro d e; cases e)) (fun e => absurd e h0) (jw_same (σ := σ.set _ _) ⟨J.O, J.Q, J.Dn, J.St, J.Stn, J.Cr, J.Wg⟩ fun _ _ => rfl) qr.1 qr.2.1 qr.2.2 (by rw [ht]; rfl) (PChain.turn (Chain.quiet I.tr.chain qr.1) rfl rfl rfl (fun _ _ e => by cases e) (fun e _ => by cases e) (fun _ _ => ?_))
      have := seal_seen (y := { g := C.ic, fn := (core g).frame.fn, pos := (core g).frame.place, act := .recvClosed C.E.Dn }) (I.tr.chain.T3 hdc) (fun m hm => notices_closed hm rfl) (by show Deaf t C.ic = 0; rw [I.tr.deaf, ht]; rfl) rfl
      exact this
    | k' + 1, hcc => simp [PE.cs4] at hcc
  · have hdc' : σ.dc = false := by simpa using hdc
    have hrw := crowd_waits (sl := sl) hi hst fun cc hcc => ⟨hill cc hcc, by
      simp only [PE.cs4, List.mem_toArray, List.mem_cons, List.not_mem_nil, or_false] at hcc
      subst hcc
      rw [hw0, if_neg hdc]⟩
    have hsu : (upd σ.tag C.ic .cdone) = σ.tag := by
      funext j; unfold upd; split
      · rename_i e; rw [e, ht]
      · rfl
    have hcore := stop_core (C := C) (mine := σ.mine C.ic) (N := σ.N) (i := C.ic) (t := .cdone) rfl hs'
    refine I.put (σ' := σ) (t' := .cdone) (fi := 0) hi hrw I.abs (less_park hi hr rfl rfl) hsu.symm ⟨rfl, rfl⟩ (ShStep.at C.E w w.drawn) (Sit.of (.inr ⟨rfl, rfl, .inr rfl, o, hcore, fun _ => ⟨ho.symm, fun e => by rw [ho] at e; cases e⟩⟩) (by intro e; cases e) (by intro d e; cases e)) (fun _ _ _ _ _ x => x) (fun _ => hdc') (fun _ => ⟨fun e => absurd e h0, fun e => by cases e⟩) (fun e => absurd e h0) J (by simp [MemOp.ofEvents]) (by simp [MemOp.ofEvents]) (by simp [MemOp.ofEvents]) (by rw [ht]) (by simp only [MemOp.ofEvents]; simpa using I.tr.chain)
theorem Inv.s_csel (I : Inv C σ f gs w t) (hi : gs[i]? = some g) (hr : g.status = .running) (ht : σ.tag i = .csel) (hs : stopOf C (σ.mine i) σ.N i (.csel) o g w) : Kept C σ f gs t (runT C.P (crowd gs w sl) i) := by
  have hlt := (Array.getElem?_eq_some_iff.1 hi).1
  have hng : ∀ d, σ.tag i ≠ .gone d := by rw [ht]; intro d e; cases e
  obtain rfl := I.abs.isClo hlt (by rw [ht]; rfl) hng
  have h0 : C.ic ≠ 0 := by have := I.abs.j0; unfold Cx.ic; omega
  have hi0 : (C.ic == 0) = false := by simpa using h0
  have hs' := hs
  simp only [stopOf] at hs
  have n := I.abs.nums
  unfold Nums at n
  have p := sums_le σ ht hlt C.E
  simp only [Tag.cnt, Tag.sem, Tag.l1, Tag.l2, Tag.l3, Tag.past, Tag.pre, Tag.tt, Tag.cc, Tag.co, Tag.cd, Tag.cq, Tag.cs, Tag.op] at p
  have i1 : (if C.iw < gs.size then 1 else 0) ≤ 1 := by split <;> omega
  have i2 : (if C.ic < gs.size then 1 else 0) ≤ 1 := by split <;> omega
  have J := I.phys.world
  have hE := I.ok
  obtain ⟨ho, hat, hstop, hnx⟩ := hs
  have hst : stepG C.P (C.ic == 0) g w = .comm (core g) C.E.cs3 true .select w #[] := by rw [hi0]; exact hat.comm w (RM.refl _ _ w)
  obtain ⟨s, r, tm, hcell⟩ := J.Dn
  have hclt := (Array.getElem?_eq_some_iff.1 hcell).1
  have p2 := I.phys.noSenders hE hE.od.symm C.ic
  have hw1 : ways w (gs.setIfInBounds C.ic ph) (rcase C.E.Dn C.E.zQ) = if σ.dc = true then [.closed] else [] := by
    simp [ways, rcase, hcell, p2]
  obtain ⟨c0, hc0, hill0, hwy0, hc0s⟩ : ∃ c0, C.E.cs3 = #[c0, rcase C.E.Dn C.E.zQ] ∧ illMade w c0 = false ∧ (σ.sc = false → ways w (gs.setIfInBounds C.ic ph) c0 = []) ∧ (σ.sc = true → ∃ c, C.E.St = some c ∧ c < w.heap.size ∧ c0 = rcase c C.E.zQ ∧ ways w (gs.setIfInBounds C.ic ph) c0 = [.closed]) := by
    cases hSt : C.E.St with
    | none => exact ⟨rcaseNil C.E.zQ, by unfold PE.cs3; rw [hSt], rfl, fun _ => rfl, fun x => by rw [J.Stn hSt] at x; cases x⟩
    | some c =>
      obtain ⟨s2, r2, tm2, hc2⟩ := J.St c hSt
      have p3 := I.phys.noSenders hE (hE.st c hSt).2.1 C.ic
      exact ⟨rcase c C.E.zQ, by unfold PE.cs3; rw [hSt], made_recv _ hc2, fun x => by simp [ways, rcase, hc2, p3, x], fun x => ⟨c, rfl, (Array.getElem?_eq_some_iff.1 hc2).1, rfl, by simp [ways, rcase, hc2, p3, x]⟩⟩
  have hill : ∀ cc ∈ C.E.cs3, illMade w cc = false := by
    intro cc hcc
    rw [hc0] at hcc
    simp only [List.mem_toArray, List.mem_cons, List.not_mem_nil, or_false] at hcc
    rcases hcc with rfl | rfl
    · exact hill0
    · exact made_recv _ hcell
  by_cases hready : σ.dc = true ∨ σ.sc = true
  · obtain ⟨k', cc, way, d, hcc, hway, T⟩ := comm_any (sl := sl) hi hst hill (by
      rcases hready with h | h
      · exact ⟨1, rcase C.E.Dn C.E.zQ, by rw [hc0]; rfl, by rw [hw1, if_pos h]; simp⟩
      · obtain ⟨c, _, _, _, h3⟩ := hc0s h
        exact ⟨0, c0, by rw [hc0]; rfl, by rw [h3]; simp⟩)
    match k', hcc with
    | 0, hcc =>
      obtain rfl : c0 = cc := by rw [hc0] at hcc; simpa using hcc
      by_cases hsc : σ.sc = true
      · obtain ⟨c, hSt, hcl, rfl, h3⟩ := hc0s hsc
        rw [h3] at hway
        have hr' := T.shut _ _ rfl (by simpa using hway)
        rw [ev_nil] at hr'
        have ab := I.abs.cstop hlt hsc ht
        have hsh := ShStep.at C.E w d
        obtain ⟨n', hsit⟩ := sit_walk (C := C) (mine := σ.mine _) (N := σ.N) (tg := .cquit) (by intro e; cases e) (by intro d e; cases e) (wk_WD h0 rfl (hstop (by rw [hSt]; simp) _ (hsh.rm I _))) (fun g w x => ⟨none, x⟩)
        have qr := quiet_rc (i := C.ic) (fn := (core g).frame.fn) (pos := (core g).frame.place) hcl
        refine I.put hi hr' ab.1 (less_put ab.2) rfl ⟨rfl, rfl⟩ hsh hsit (fun _ _ _ _ _ x => cond_same rfl rfl rfl rfl rfl x) (nb_walk hsit (by intro e; cases e) (by intro d e; cases e)) (nb_walk hsit (by intro e; cases e) (by intro d e; cases e)) (fun e => absurd e h0) (jw_same (σ := σ.set _ _) ⟨J.O, J.Q, J.Dn, J.St, J.Stn, J.Cr, J.Wg⟩ fun _ _ => rfl) qr.1 qr.2.1 qr.2.2 (by rw [ht]; rfl) (PChain.turn (Chain.quiet I.tr.chain qr.1) rfl rfl rfl (fun _ _ e => by cases e) (fun e _ => by cases e) (fun e _ => by cases e))
      · rw [hwy0 (by simpa using hsc)] at hway; cases hway
    | 1, hcc =>
      obtain rfl : rcase C.E.Dn C.E.zQ = cc := by rw [hc0] at hcc; simpa using hcc
      by_cases hdc : σ.dc = true
      · rw [hw1, if_pos hdc] at hway
        have hr' := T.shut _ _ rfl (by simpa using hway)
        rw [ev_nil] at hr'
        have ab := I.abs.cdone1 hlt hdc ht
        have hsh := ShStep.at C.E w d
        obtain ⟨n', hsit⟩ := sit_walk (C := C) (mine := σ.mine _) (N := σ.N) (tg := .cout) (by intro e; cases e) (by intro d e; cases e) (wk_WD h0 rfl (hnx _ (hsh.rm I _))) (fun g w x => ⟨none, x⟩)
        have qr := quiet_rc (i := C.ic) (fn := (core g).frame.fn) (pos := (core g).frame.place) hclt
        refine I.put hi hr' ab.1 (less_put ab.2) rfl ⟨rfl, rfl⟩ hsh hsit (fun _ _ _ _ _ x => cond_same rfl rfl rfl rfl rfl x) (nb_walk hsit (by intro e; cases e) (by intro d e; cases e)) (nb_walk hsit (by intro e; cases e) (by intro d e; cases e)) (fun e => absurd e h0) (jw_same (σ := σ.set _ _) ⟨J.O, J.Q, J.Dn, J.St, J.Stn, J.Cr, J.Wg⟩ fun _ _ => rfl) qr.1 qr.2.1 qr.2.2 (by rw [ht]; rfl) (PChain.turn (Chain.quiet I.tr.chain qr.1) rfl rfl rfl (fun _ _ e => by cases e) (fun e _ => by cases e) (fun _ _ => ?_))
        have := seal_seen (y := { g := C.ic, fn := (core g).frame.fn, pos := (core g).frame.place, act := .recvClosed C.E.Dn }) (I.tr.chain.T3 hdc) (fun m hm => notices_closed hm rfl) (by show Deaf t C.ic = 0; rw [I.tr.deaf, ht]; rfl) rfl
        exact this
      · rw [hw1, if_neg hdc] at hway; cases hway
    | k' + 2, hcc => rw [hc0] at hcc; simp at hcc
  · have hdc' : σ.dc = false := by
      cases e : σ.dc with
      | false => rfl
      | true => exact absurd (.inl e) hready
    have hsc' : σ.sc = false := by
      cases e : σ.sc with
      | false => rfl
      | true => exact absurd (.inr e) hready
    have hrw := crowd_waits (sl := sl) hi hst fun cc hcc => ⟨hill cc hcc, by
      rw [hc0] at hcc
      simp only [List.mem_toArray, List.mem_cons, List.not_mem_nil, or_false] at hcc
      rcases hcc with rfl | rfl
      · exact hwy0 hsc'
      · rw [hw1, hdc']; rfl⟩
    have hsu : (upd σ.tag C.ic .csel) = σ.tag := by
      funext j; unfold upd; split
      · rename_i e; rw [e, ht]
      · rfl
    have hcore := stop_core (C := C) (mine := σ.mine C.ic) (N := σ.N) (i := C.ic) (t := .csel) rfl hs'
    refine I.put (σ' := σ) (t' := .csel) (fi := 0) hi hrw I.abs (less_park hi hr rfl rfl) hsu.symm ⟨rfl, rfl⟩ (ShStep.at C.E w w.drawn) (Sit.of (.inr ⟨rfl, rfl, .inr rfl, o, hcore, fun _ => ⟨ho.symm, fun e => by rw [ho] at e; cases e⟩⟩) (by intro e; cases e) (by intro d e; cases e)) (fun _ _ _ _ _ x => x) (fun _ => ⟨hdc', hsc'⟩) (fun _ => ⟨fun e => absurd e h0, fun e => by cases e⟩) (fun e => absurd e h0) J (by simp [MemOp.ofEvents]) (by simp [MemOp.ofEvents]) (by simp [MemOp.ofEvents]) (by rw [ht]) (by simp only [MemOp.ofEvents]; simpa using I.tr.chain)
end Go.Proofs.Ytiobhgemjbjipaa

/- The starts; the first at its receive. Conditions stand as premises. -/
namespace Go.Proofs.Ytiobhgemjbjipaa
open Go.Conc
open Go.ConcR (KK wgBlock WgAt stA smA rd wr mk DC0 deafBehind_one deafBehind_cons)
open Go.ConcN (WgLive upd upd_ne upd_same PermW sumTo sumTo_upd sumTo_congr sumTo_le fork_knows)
set_option linter.unusedVariables false
set_option linter.unusedSimpArgs false
variable {C : Cx} {σ σ' : Gh} {f f' : Nat → Nat} {gs gs' : Array Goroutine} {w w' : World} {t u : Trace} {i sz : Nat} {g g' : Goroutine} {E : PE} {es : Array Event} {sl : Option (Nat × Nat)} {mine : Nat → Prop} {N : Nat} {tg : Tag} {o : Offers}
theorem Sit.newN {N' fi : Nat} (hi : i ≠ 0) (hm : tg.way = true ∨ tg.wtr = true ∨ tg.clo = true) (h : Sit C mine N i fi g w tg) : Sit C mine N' i fi g w tg := by
  have hD : ∀ t, C.D mine N i t = C.D mine N' i t := fun t => by unfold Cx.D; rw [if_neg hi, if_neg hi]
  have hS : tg ≠ .none_ → (∀ d, tg ≠ .gone d) → stopOf C mine N i tg = stopOf C mine N' i tg := by
    intro h1 h2
    cases tg <;> simp only [Tag.way, Tag.wtr, Tag.clo, Bool.false_eq_true, or_self] at hm <;> rfl
  by_cases hn : tg = .none_
  · subst hn; exact h.elim
  by_cases hg : ∃ d, tg = .gone d
  · obtain ⟨d, rfl⟩ := hg; exact h
  have hg' : ∀ d, tg ≠ .gone d := fun d e => hg ⟨d, e⟩
  have := h.stage hn hg'
  rw [hD, hS hn hg'] at this
  exact Sit.of this hn hg'
/-- A CHILD IS STARTED. -/
theorem Inv.spawn (I : Inv C σ f gs w t) (hi : gs[0]? = some g) {child : Goroutine} (hst : stepG C.P true g w = .spawn g' child w #[]) (hch : child.status = .running) {t0 tn : Tag} {n0 nn : Nat} (ab : Abs C (σ.spawn gs.size t0 tn) (gs.size + 1) ∧ (σ.spawn gs.size t0 tn).A C (gs.size + 1) < σ.A C gs.size)
    (h0 : Sit C (σ.mine 0) w.heap.size 0 (n0 + 1) g' w t0) (h0n : t0 ≠ .none_ ∧ ∀ d, t0 ≠ .gone d) (hn : Sit C (Rd0 C.E w.heap.size w) w.heap.size gs.size (nn + 1) child w tn) (hnn : tn ≠ .none_ ∧ ∀ d, tn ≠ .gone d) (hd0 : (σ.tag 0).dOf = 0 ∧ t0.dOf = 0 ∧ tn.dOf = 0) (hrel : tn.rel = false) (hts : tn ≠ .tshut ∧ tn ≠ .cout ∧ t0 ≠ .tshut ∧ t0 ≠ .cout) :
    Kept C σ f gs t (runT C.P (crowd gs w sl) 0) := by
  have hlt : 0 < gs.size := (Array.getElem?_eq_some_iff.1 hi).1
  have hj := I.abs.j0
  have hne : gs.size ≠ 0 := by omega
  have J := I.phys.world
  have hrun := runT_crowd_spawn (P := C.P) (sl := sl) hi (show stepG C.P (0 == 0) g w = _ from hst)
  have hsz : (gs.setIfInBounds 0 g').size = gs.size := by simp
  have get : ∀ j y, ((gs.setIfInBounds 0 g').push child)[j]? = some y → (j = gs.size ∧ y = child) ∨ (j = 0 ∧ y = g') ∨ (j ≠ gs.size ∧ j ≠ 0 ∧ gs[j]? = some y) := by
    intro j y hy
    rw [Array.getElem?_push, hsz] at hy
    by_cases e : j = gs.size
    · rw [if_pos e] at hy
      exact .inl ⟨e, (Option.some.inj hy).symm⟩
    · rw [if_neg e] at hy
      by_cases e' : 0 = j
      · subst e'
        rw [Array.getElem?_setIfInBounds_self_of_lt hlt] at hy
        exact .inr (.inl ⟨rfl, (Option.some.inj hy).symm⟩)
      · rw [Array.getElem?_setIfInBounds_ne e'] at hy
        exact .inr (.inr ⟨e, fun z => e' z.symm, hy⟩)
  have tg1 : (σ.spawn gs.size t0 tn).tag gs.size = tn := upd_same _ _ _
  have tg2 : (σ.spawn gs.size t0 tn).tag 0 = t0 := by
    show upd (upd σ.tag 0 t0) gs.size tn 0 = _
    rw [upd_ne _ _ (Ne.symm hne), upd_same]
  have tg3 : ∀ j, j ≠ gs.size → j ≠ 0 → (σ.spawn gs.size t0 tn).tag j = σ.tag j := fun j h1 h2 => by
    show upd (upd σ.tag 0 t0) gs.size tn j = _
    rw [upd_ne _ _ h1, upd_ne _ _ h2]
  let σ' : Gh := { σ.spawn gs.size t0 tn with mine := upd σ.mine gs.size (Rd0 C.E w.heap.size w), N := w.heap.size }
  have hx : ∀ j, j ≠ 0 → j < gs.size → (σ.tag j).way = true ∨ (σ.tag j).wtr = true ∨ (σ.tag j).clo = true := by
    intro j h0 hl
    rcases I.abs.kind hl with rfl | ⟨_, _, d, hd⟩ | ⟨_, _, h⟩ | ⟨_, h⟩ | ⟨_, h⟩
    · exact absurd rfl h0
    · rw [hd]; exact .inl rfl
    · exact .inl h
    · exact .inr (.inl h)
    · exact .inr (.inr h)
  have hnt : ∀ op ∈ ((MemOp.ofEvents 0 g.frame.fn g.frame.place #[]).push { g := 0, fn := g.frame.fn, pos := g.frame.place, act := .go gs.size } |>.push { g := gs.size, fn := child.frame.fn, pos := g.frame.place, act := .start }), op.act.touch? = none ∧ (∀ m, op.act ≠ .mark m) ∧ op.act.low w.heap.size := by
    intro op hop
    simp only [MemOp.ofEvents, Array.mem_push] at hop
    rcases hop with (hop | rfl) | rfl
    · simp at hop
    · exact ⟨rfl, by simp, trivial⟩
    · exact ⟨rfl, by simp, trivial⟩
  refine ⟨σ', upd (upd f 0 (n0 + 1)) gs.size (nn + 1), _, w, sl, _, hrun, ⟨I.ok, ?_, ⟨fun j y hy => ?_, fun j y hy hb => ?_, fun y0 hy0 hb0 j y hy hgt => ?_, ⟨J.O, J.Q, J.Dn, J.St, J.Stn, J.Cr, J.Wg⟩, ?_, fun j hj0 b hb => ?_, ⟨Nat.le_trans I.phys.nb.1 I.phys.nb.2, Nat.le_refl _⟩⟩, ?_⟩, less_A ?_⟩
  · have a := ab.1
    have e : ((gs.setIfInBounds 0 g').push child).size = gs.size + 1 := by simp
    rw [e]
    exact ⟨a.j0, a.role, a.nums, a.cas, a.live, a.idle, a.had⟩
  · show Sit C (upd σ.mine gs.size _ j) w.heap.size j (upd (upd f 0 (n0 + 1)) gs.size (nn + 1) j) y w ((σ.spawn gs.size t0 tn).tag j)
    rcases get j y hy with ⟨rfl, rfl⟩ | ⟨rfl, rfl⟩ | ⟨h1, h2, hy'⟩
    · rw [tg1, upd_same, upd_same]; exact hn
    · rw [tg2, upd_ne _ _ (Ne.symm hne), upd_ne _ _ (Ne.symm hne), upd_same]; exact h0
    · rw [tg3 j h1 h2, upd_ne _ _ h1, upd_ne _ _ h1, upd_ne _ _ h2]
      exact (I.phys.sit j y hy').newN h2 (hx j h2 (Array.getElem?_eq_some_iff.1 hy').1)
  · show Cond σ' ((σ.spawn gs.size t0 tn).tag j)
    rcases get j y hy with ⟨rfl, rfl⟩ | ⟨rfl, rfl⟩ | ⟨h1, h2, hy'⟩
    · rw [hch] at hb; cases hb
    · exact nb_walk h0 h0n.1 h0n.2 hb
    · rw [tg3 j h1 h2]
      exact cond_same rfl rfl rfl rfl rfl (I.phys.cond j y hy' hb)
  · rcases get 0 y0 hy0 with ⟨e, _⟩ | ⟨_, rfl⟩ | ⟨_, h2, _⟩
    · exact absurd e.symm hne
    · exact nb_walk h0 h0n.1 h0n.2 hb0
    · exact absurd rfl h2
  · show upd σ.mine gs.size _ 0 = _
    rw [upd_ne _ _ (Ne.symm hne)]; exact I.phys.m0
  · have hb' : upd σ.mine gs.size (Rd0 C.E w.heap.size w) j b := hb
    show b < w.heap.size ∧ _
    by_cases e : j = gs.size
    · subst e
      rw [upd_same] at hb'
      exact hb'
    · rw [upd_ne _ _ e] at hb'
      have := I.phys.ro j hj0 b hb'
      exact ⟨Nat.lt_of_lt_of_le this.1 I.phys.nb.2, this.2⟩
  · have e2 : ((MemOp.ofEvents 0 g.frame.fn g.frame.place #[]).push { g := 0, fn := g.frame.fn, pos := g.frame.place, act := .go gs.size } |>.push { g := gs.size, fn := child.frame.fn, pos := g.frame.place, act := .start }) = #[{ g := 0, fn := g.frame.fn, pos := g.frame.place, act := .go gs.size }, { g := gs.size, fn := child.frame.fn, pos := g.frame.place, act := .start }] := by simp [MemOp.ofEvents]
    have hdeaf0 : Deaf t 0 = 0 := by rw [I.tr.deaf]; exact hd0.1
    have hnone : σ.tag gs.size = .none_ := by
      have r := I.abs.role gs.size
      unfold Role at r
      rw [if_neg hne, if_neg (by omega), if_pos (Nat.le_refl _)] at r
      exact r
    have hdeafn : Deaf t gs.size = 0 := by rw [I.tr.deaf, hnone]; rfl
    refine I.tr.quiet (σ' := σ') (Nat.le_refl _) ?_ (fun j => ?_) (fun op hop => (hnt op hop).2.2) (fun op hop => (hnt op hop).2.1) (fun op hop => (hnt op hop).1) ?_ ?_
    · have p := I.tr.pt.mute (fun op hop => (hnt op hop).1)
      refine p.to (fun a l hl => ?_) (fun a l hl => ?_)
      · obtain ⟨ad, rfl, hs, hm⟩ := hl
        by_cases e : a = gs.size
        · subst e
          have hm' : Rd0 C.E w.heap.size w ad.block := by
            unfold mayB at hm
            rw [if_neg hne] at hm
            have hm2 : upd σ.mine gs.size (Rd0 C.E w.heap.size w) gs.size ad.block := hm
            rw [upd_same] at hm2
            exact hm2
          have hp := I.tr.pt.red 0 (.cell ad) ⟨ad, rfl, hs, by unfold mayB; rw [if_pos rfl]; exact hm'.2⟩
          intro j x hx he hw
          obtain ⟨op, hop, hox⟩ := touch_of hx
          rcases getElem?_append_cases hop with ⟨hjl, hop'⟩ | ⟨_, hou⟩
          · have := hp j x (by rw [touchAt_of hop']; exact hox) he hw
            rw [e2]
            exact fork_knows ⟨rfl, rfl⟩ ⟨rfl, rfl⟩ hdeaf0 hdeafn this
          · rw [(hnt op hou).1] at hox; cases hox
        · refine p.red a _ ⟨ad, rfl, hs, ?_⟩
          unfold mayB at hm ⊢
          split
          · rename_i h; rw [if_pos h] at hm; exact hm
          · rename_i h
            rw [if_neg h] at hm
            have hm2 : upd σ.mine gs.size (Rd0 C.E w.heap.size w) a ad.block := hm
            rw [upd_ne _ _ e] at hm2
            exact hm2
      · obtain ⟨_, ad, _, h1, h2, _⟩ := hl
        have : w.heap.size ≤ ad.block := h1
        omega
    · show ((σ.spawn gs.size t0 tn).tag j).dOf = _
      by_cases h1 : j = gs.size
      · subst h1; rw [tg1, hnone]; exact hd0.2.2
      · by_cases h2 : j = 0
        · subst h2; rw [tg2, hd0.1]; exact hd0.2.1
        · rw [tg3 j h1 h2]
    · refine (Chain.quiet I.tr.chain fun op hop => (hnt op hop).1).to (fun x hx => .inl ⟨hx.1, hx.2.1, ?_⟩) (fun hx => .inl ?_) .inl (fun hx => .inl ?_) .inl
      · have h3 : ((σ.spawn gs.size t0 tn).tag x).rel = true := hx.2.2
        by_cases h1 : x = gs.size
        · subst h1; rw [tg1, hrel] at h3; cases h3
        · rw [tg3 x h1 (by omega)] at h3; exact h3
      · have hx' : (σ.spawn gs.size t0 tn).tag C.iw = .tshut := hx
        by_cases h1 : C.iw = gs.size
        · rw [h1, tg1] at hx'; exact absurd hx' hts.1
        · rw [tg3 C.iw h1 (by unfold Cx.iw; omega)] at hx'; exact hx'
      · have hx' : (σ.spawn gs.size t0 tn).tag C.ic = .cout := hx
        by_cases h1 : C.ic = gs.size
        · rw [h1, tg1] at hx'; exact absurd hx' hts.2.1
        · rw [tg3 C.ic h1 (by unfold Cx.ic; omega)] at hx'; exact hx'
    · show SdT C.E C.iw ((σ.spawn gs.size t0 tn).tag C.iw = .none_) _
      by_cases h1 : C.iw = gs.size
      · intro j a ha hk hs'
        obtain ⟨op, hop, hox⟩ := touch_of ha
        rcases getElem?_append_cases hop with ⟨_, hop'⟩ | ⟨_, hou⟩
        · refine ⟨fun x => ?_, fun _ => ?_⟩
          · rw [h1, tg1] at x; exact absurd x hnn.1
          · have := (I.tr.sd j a (by rw [touchAt_of hop']; exact hox) hk hs').1 (by rw [h1]; exact hnone)
            rw [e2, h1]
            exact fork_knows ⟨rfl, rfl⟩ ⟨rfl, rfl⟩ hdeaf0 hdeafn this.1
        · rw [(hnt op hou).1] at hox; cases hox
      · exact I.tr.sd.app (.mute fun op hop => (hnt op hop).1) (by rw [tg3 C.iw h1 (by unfold Cx.iw; omega)])
  · have e : ((gs.setIfInBounds 0 g').push child).size = gs.size + 1 := by simp
    rw [e]
    exact ab.2
theorem born_sit {S : (Nat → Prop) → Goroutine → World → Prop} (h : Born E S g w) : S (Rd0 E w.heap.size w) g w := h _ fun _ => Iff.rfl
theorem Inv.s_fgo (I : Inv C σ f gs w t) (hi : gs[i]? = some g) {r : Nat} (ht : σ.tag i = .fgo r) (hs : stopOf C (σ.mine i) σ.N i (.fgo r) o g w) : Kept C σ f gs t (runT C.P (crowd gs w sl) i) := by
  have hlt := (Array.getElem?_eq_some_iff.1 hi).1
  have hj := I.abs.j0
  obtain rfl := I.abs.isMain hlt (by rw [ht]; rfl) (by rw [ht]; rfl) (by rw [ht]; rfl)
  simp only [stopOf] at hs
  obtain ⟨hrun, g', child, hst, hch, hc, hnx⟩ := hs
  have hr := I.abs.role 0
  unfold Role at hr
  rw [if_pos rfl, ht] at hr
  have hr' : 1 ≤ r ∧ r ≤ C.E.n ∧ gs.size + r = C.iw := hr
  have hc' := born_sit hc
  have hsz0 : gs.size ≠ 0 := by omega
  match r, hr' with
  | 1, hr' =>
    obtain ⟨⟨hz, hk⟩, ab⟩ := I.abs.born1 ht
    have hc2 : WD C.P C.E (Rd0 C.E w.heap.size w) (WSel1 C.P C.E (Rd0 C.E w.heap.size w) (C.E.n - 1) (C.E.rows (C.E.n - 1))) child w := hc'
    obtain ⟨n1, hs1⟩ := sit_walk (C := C) (i := gs.size) (mine := Rd0 C.E w.heap.size w) (N := w.heap.size) (tg := .loop (C.E.rows (C.E.n - 1))) (by intro e; cases e) (by intro d e; cases e) (wk_WD hsz0 rfl hc2) (fun g w y => ⟨none, by simp only [stopOf]; rw [show gs.size - C.E.j0 = C.E.n - 1 by omega]; exact y⟩)
    have hnx' : W0 C.P C.E w.heap.size (MGoT C.P C.E C.Exit C.nn C.b0) g' w := hnx
    obtain ⟨n2, hs2⟩ := sit_walk (C := C) (i := 0) (mine := σ.mine 0) (N := w.heap.size) (tg := .fgoT) (by intro e; cases e) (by intro d e; cases e) (wk_W0 I.phys.m0 rfl hnx') (fun g w y => ⟨none, y⟩)
    exact I.spawn hi hst hch ab hs2 ⟨(by intro e; cases e), (by intro d e; cases e)⟩ hs1 ⟨(by intro e; cases e), (by intro d e; cases e)⟩ ⟨(by rw [ht]; rfl), rfl, rfl⟩ rfl ⟨(by intro e; cases e), (by intro e; cases e), (by intro e; cases e), (by intro e; cases e)⟩
  | r + 2, hr' =>
    obtain ⟨⟨hz, hk⟩, ab⟩ := I.abs.bornW ht
    have hc2 : WD C.P C.E (Rd0 C.E w.heap.size w) (WSel1 C.P C.E (Rd0 C.E w.heap.size w) (C.E.n - (r + 2)) (C.E.rows (C.E.n - (r + 2)))) child w := hc'
    obtain ⟨n1, hs1⟩ := sit_walk (C := C) (i := gs.size) (mine := Rd0 C.E w.heap.size w) (N := w.heap.size) (tg := .loop (C.E.rows (C.E.n - (r + 2)))) (by intro e; cases e) (by intro d e; cases e) (wk_WD hsz0 rfl hc2) (fun g w y => ⟨none, by simp only [stopOf]; rw [show gs.size - C.E.j0 = C.E.n - (r + 2) by omega]; exact y⟩)
    have hnx' : W0 C.P C.E w.heap.size (MDis C.P C.E w.heap.size (C.E.n - (r + 1)) (fun N' => MFork C.P C.E C.Exit C.nn C.b0 r N')) g' w := hnx
    obtain ⟨n2, hs2⟩ := sit_walk (C := C) (i := 0) (mine := σ.mine 0) (N := w.heap.size) (tg := .fdis (r + 1)) (by intro e; cases e) (by intro d e; cases e) (wk_W0 I.phys.m0 rfl hnx') (fun g w y => ⟨none, y⟩)
    exact I.spawn hi hst hch ab hs2 ⟨(by intro e; cases e), (by intro d e; cases e)⟩ hs1 ⟨(by intro e; cases e), (by intro d e; cases e)⟩ ⟨(by rw [ht]; rfl), rfl, rfl⟩ rfl ⟨(by intro e; cases e), (by intro e; cases e), (by intro e; cases e), (by intro e; cases e)⟩
theorem Inv.s_fgoT (I : Inv C σ f gs w t) (hi : gs[i]? = some g) (ht : σ.tag i = .fgoT) (hs : stopOf C (σ.mine i) σ.N i .fgoT o g w) : Kept C σ f gs t (runT C.P (crowd gs w sl) i) := by
  have hlt := (Array.getElem?_eq_some_iff.1 hi).1
  have hj := I.abs.j0
  obtain rfl := I.abs.isMain hlt (by rw [ht]; rfl) (by rw [ht]; rfl) (by rw [ht]; rfl)
  simp only [stopOf] at hs
  obtain ⟨hrun, g', child, hst, hch, hc, hnx⟩ := hs
  have hsz0 : gs.size ≠ 0 := by omega
  obtain ⟨hz, ab⟩ := I.abs.bornT ht
  obtain ⟨A, hA, hc'⟩ := born_sit hc
  obtain ⟨n1, hs1⟩ := sit_walk (C := C) (i := gs.size) (mine := Rd0 C.E w.heap.size w) (N := w.heap.size) (tg := .tdis) (by intro e; cases e) (by intro d e; cases e) (wk_WD hsz0 rfl hc') (fun g w y => ⟨none, A, hA, y⟩)
  obtain ⟨n2, hs2⟩ := sit_walk (C := C) (i := 0) (mine := σ.mine 0) (N := w.heap.size) (tg := .fgoC) (by intro e; cases e) (by intro d e; cases e) (wk_W0 I.phys.m0 rfl hnx) (fun g w y => ⟨none, y⟩)
  exact I.spawn hi hst hch ab hs2 ⟨(by intro e; cases e), (by intro d e; cases e)⟩ hs1 ⟨(by intro e; cases e), (by intro d e; cases e)⟩ ⟨(by rw [ht]; rfl), rfl, rfl⟩ rfl ⟨(by intro e; cases e), (by intro e; cases e), (by intro e; cases e), (by intro e; cases e)⟩
theorem Inv.s_fgoC (I : Inv C σ f gs w t) (hi : gs[i]? = some g) (ht : σ.tag i = .fgoC) (hs : stopOf C (σ.mine i) σ.N i .fgoC o g w) : Kept C σ f gs t (runT C.P (crowd gs w sl) i) := by
  have hlt := (Array.getElem?_eq_some_iff.1 hi).1
  have hj := I.abs.j0
  obtain rfl := I.abs.isMain hlt (by rw [ht]; rfl) (by rw [ht]; rfl) (by rw [ht]; rfl)
  simp only [stopOf] at hs
  obtain ⟨hrun, g', child, hst, hch, hc, hnx⟩ := hs
  have hsz0 : gs.size ≠ 0 := by omega
  obtain ⟨hz, ab⟩ := I.abs.bornC ht
  have hc' : WD C.P C.E (Rd0 C.E w.heap.size w) (fun g2 w2 => ∃ o, CSel C.P C.E (Rd0 C.E w.heap.size w) o g2 w2) child w := born_sit hc
  obtain ⟨n1, hs1⟩ := sit_walk (C := C) (i := gs.size) (mine := Rd0 C.E w.heap.size w) (N := w.heap.size) (tg := .csel) (by intro e; cases e) (by intro d e; cases e) (wk_WD hsz0 rfl hc') (fun g w y => y)
  obtain ⟨n2, hs2⟩ := sit_walk (C := C) (i := 0) (mine := σ.mine 0) (N := w.heap.size) (tg := .cons C.nn C.b0 []) (by intro e; cases e) (by intro d e; cases e) (wk_W0 I.phys.m0 rfl hnx) (fun g w y => y)
  exact I.spawn hi hst hch ab hs2 ⟨(by intro e; cases e), (by intro d e; cases e)⟩ hs1 ⟨(by intro e; cases e), (by intro d e; cases e)⟩ ⟨(by rw [ht]; rfl), rfl, rfl⟩ rfl ⟨(by intro e; cases e), (by intro e; cases e), (by intro e; cases e), (by intro e; cases e)⟩
/-- What holds as the first comes out. -/
structure OutF (C : Cx) (b : Bool) (ys : List (Nat × Value × Value)) (gs : Array Goroutine) (w : World) (t : Trace) : Prop where
  leav : ∃ q, Leavers C.P t gs q
  past : Past (fun l => ∃ a, l = .cell a ∧ (C.E.Old a.block ∨ a.block = C.E.Wg)) w.heap.size t
  quiet : ∀ i a c, touchAt t i = some a → a.loc = .obj c → a.kind = .atomic
  O : ∃ s r tm, w.heap[C.E.O]? = some (.chan 0 #[] true s r tm)
  St : b = true → ∀ c, C.E.St = some c → ∃ s r tm, w.heap[c]? = some (.chan 0 #[] false s r tm)
  rows : ∀ k, k < C.E.n → ∃ l, C.E.rows k = (ys.filter (fun y => y.1 == k)).map (·.2.1) ++ l ∧ (b = true ∨ C.E.St = none → l = [])
  size : gs.size = C.ic + 1
def Finished (C : Cx) (t : Trace) (r : Stepped × Array MemOp) : Prop :=
  ∃ b ys g' gs' w' sl' u, r = (.next (crowd gs' w' sl'), u) ∧ gs'[0]? = some g' ∧ C.Exit b ys g' w' ∧ OutF C b ys gs' w' (t ++ u)
theorem Abs.over (h : Abs C σ sz) (ho : σ.oc = true) {m : Nat} {b : Bool} {ys : List (Nat × Value × Value)} (h0 : σ.tag 0 = .cons m b ys) : ∀ j, j ≠ 0 → j < sz → ∃ d, σ.tag j = .gone d := by
  intro j hj hl
  have n := h.nums
  unfold Nums at n
  rw [ho] at n
  simp only [Bool.toNat_true] at n
  have i1 : (if C.iw < sz then 1 else 0) ≤ 1 := by split <;> omega
  have i2 : (if C.ic < sz then 1 else 0) ≤ 1 := by split <;> omega
  have p1 := le_sum σ Tag.cnt hl
  have p2 := le_sum σ Tag.l1 hl
  have p3 := le_sum σ Tag.l2 hl
  have p4 := le_sum σ Tag.l3 hl
  have p5 := le_sum σ Tag.tt hl
  have p6 := le_sum σ Tag.cc hl
  have q1 : (σ.tag j).cnt = 0 := by omega
  have q2 : (σ.tag j).l1 = 0 := by omega
  have q3 : (σ.tag j).l2 = 0 := by omega
  have q4 : (σ.tag j).l3 = 0 := by omega
  have q5 : (σ.tag j).tt = 0 := by omega
  have q6 : (σ.tag j).cc = 0 := by omega
  rcases h.kind hl with rfl | ⟨_, _, d, hd⟩ | ⟨_, _, h⟩ | ⟨_, h⟩ | ⟨_, h⟩
  · exact absurd rfl hj
  · exact ⟨d, hd⟩
  · revert h q1 q2 q3 q4
    cases σ.tag j <;> simp [Tag.way, Tag.cnt, Tag.l1, Tag.l2, Tag.l3]
  · revert h q5
    cases σ.tag j <;> simp [Tag.wtr, Tag.tt]
  · revert h q6
    cases σ.tag j <;> simp [Tag.clo, Tag.cc]
/-- ALL IS OVER: out is closed, and the first has seen it. -/
theorem Inv.out (I : Inv C σ f gs w t) (ho : σ.oc = true) {m : Nat} {b : Bool} {ys : List (Nat × Value × Value)} (ht : σ.tag 0 = .cons m b ys) {fn : FuncId} {pos : String} (d : Nat) (g' : Goroutine) :
    OutF C b ys (gs.setIfInBounds 0 g') (w.at d) (t ++ #[{ g := 0, fn := fn, pos := pos, act := .recvClosed C.E.O }]) := by
  have hE := I.ok
  have J := I.phys.world
  have hj := I.abs.j0
  obtain ⟨s, r, tm, hO⟩ := J.O
  have hOlt : C.E.O < w.heap.size := (Array.getElem?_eq_some_iff.1 hO).1
  have hov := I.abs.over ho ht
  have hd0 : Deaf t 0 = 0 := by rw [I.tr.deaf, ht]; rfl
  have qr := quiet_rc (i := 0) (fn := fn) (pos := pos) hOlt
  have hkb := seal_seen (y := { g := 0, fn := fn, pos := pos, act := .recvClosed C.E.O }) (I.tr.chain.T5 ho) (fun m hm => notices_closed hm rfl) hd0 rfl
  have hsize : gs.size = C.ic + 1 := by
    have r := I.abs.role 0
    unfold Role at r
    rw [if_pos rfl, ht] at r
    exact r
  have hsz : (gs.setIfInBounds 0 g').size = gs.size := by simp
  have hdf : ∀ j, Deaf (t ++ #[{ g := 0, fn := fn, pos := pos, act := .recvClosed C.E.O }]) j = Deaf t j := fun j => Go.ConcN.Deaf_still t j _ fun op hop => ⟨qr.2.1 op hop _, qr.2.1 op hop _⟩
  have T : Tr C σ w (t ++ #[{ g := 0, fn := fn, pos := pos, act := .recvClosed C.E.O }]) := I.tr.quiet (σ' := σ) (Nat.le_refl _) (I.tr.pt.mute qr.1) (fun _ => rfl) qr.2.2 qr.2.1 qr.1 (Chain.quiet I.tr.chain qr.1) (I.tr.sd.app (.mute qr.1) Iff.rfl)
  generalize hT : t ++ #[{ g := 0, fn := fn, pos := pos, act := .recvClosed C.E.O }] = t' at *
  refine ⟨⟨f, fun j y hj0 hy => ?_, fun j hjs => ?_⟩, ⟨T.pt.nr, fun j a ha hm => ?_, fun j h hh h0 hc => ?_, by rw [hdf]; exact hd0, T.low⟩, fun j a c ha he => ?_, ⟨s, r, tm, by rw [← ho]; exact hO⟩, fun hb c hc => ?_, fun k hk => ?_, by rw [hsz]; exact hsize⟩
  · have hne : 0 ≠ j := by omega
    rw [Array.getElem?_setIfInBounds_ne hne] at hy
    obtain ⟨e, he⟩ := hov j (by omega) (Array.getElem?_eq_some_iff.1 hy).1
    have := I.phys.sit j y hy
    rw [he] at this
    rw [hdf, I.tr.deaf, he]
    exact this
  · rw [hdf, I.tr.deaf]
    rw [hsz] at hjs
    have r := I.abs.role j
    unfold Role at r
    rw [if_neg (by omega), if_neg (by omega), if_pos hjs] at r
    rw [r]; rfl
  · obtain ⟨op, hop, hox⟩ := touch_of ha
    have hg : t'.g? j = some op.g := by simp [Trace.g?, hop]
    rcases T.old j a op.g ha hg hm with h | ⟨_, h | h⟩
    · rcases hkb j a op.g ha hg h with ⟨h1, ⟨ad, h2, h3⟩, _⟩ | h
      · exact .inr ⟨⟨ad, h2, .inr h3⟩, h1⟩
      · exact .inl h
    · exact .inl h
    · obtain ⟨⟨ad, h1, h2⟩, h3⟩ := h
      exact .inr ⟨⟨ad, h1, .inl h2⟩, h3⟩
  · by_cases hlt : h < C.E.j0 ∨ C.E.j0 + C.E.n + 1 < h
    · exact T.over j h hh h0 hlt hc
    · obtain ⟨x, hx, hm, hk⟩ := hc
      rcases T.old j x h hx hh hm with h1 | ⟨h1, _⟩
      · rcases hkb j x h hx hh h1 with ⟨k1, _, k3⟩ | ⟨q, z, hz, hz0, hb⟩
        · rcases hk with hk | hk
          · exact absurd k1 hk
          · exact absurd hk k3
        · refine ⟨q, by simp [Trace.g?, hz, hz0], ?_⟩
          rcases hb with rfl | hb
          · rw [show t'.g? j = some z.g by simp [Trace.g?, hz]] at hh
            rw [hz0] at hh; cases hh; exact absurd rfl h0
          · exact hb
      · exact absurd h1 hlt
  · obtain ⟨op, hop, hox⟩ := touch_of ha
    have := T.pt.quiet j a ha (.inr ⟨c, he⟩)
    cases hact : op.act with
    | access ev =>
      rw [hact] at hox
      simp only [MemAct.touch?, Option.some.injEq] at hox
      subst hox
      revert this
      cases ev.sync <;> simp
    | mark m =>
      rw [hact] at hox
      cases m <;> simp only [MemAct.touch?, Option.some.injEq, reduceCtorEq] at hox
      · subst hox; cases he
      · subst hox; cases he
    | _ => rw [hact] at hox; simp [MemAct.touch?] at hox
  · obtain ⟨s2, r2, tm2, h2⟩ := J.St c hc
    have hsc : σ.sc = false := by
      have n := I.abs.nums
      unfold Nums at n
      have p := le_sum σ Tag.op (show 0 < gs.size by omega)
      rw [ht, hb] at p
      simp only [Tag.op] at p
      cases e : σ.sc with
      | false => rfl
      | true => rw [e] at n; simp only [Bool.toNat_true] at n; omega
    rw [hsc] at h2
    exact ⟨s2, r2, tm2, h2⟩
  · have hl := I.abs.live k hk (by rw [hsize]; unfold Cx.ic; omega)
    obtain ⟨e, he⟩ := hov (C.E.j0 + k) (by omega) (by rw [hsize]; unfold Cx.ic; omega)
    rw [he] at hl
    obtain ⟨l, h1, h2⟩ := hl
    have hh := I.abs.had k
    rw [ht] at hh
    refine ⟨l, by rw [h1, ← hh]; rfl, fun hb => ?_⟩
    rcases h2 with h2 | h2
    · exact h2
    · exfalso
      have n := I.abs.nums
      unfold Nums at n
      rw [h2] at n
      simp only [Bool.toNat_true] at n
      rcases hb with hb | hb
      · have p := le_sum σ Tag.op (show 0 < gs.size by omega)
        rw [ht, hb] at p
        simp only [Tag.op] at p
        omega
      · have := J.Stn hb
        rw [this] at n
        simp only [Bool.toNat_false] at n
        omega
end Go.Proofs.Ytiobhgemjbjipaa

/- The first at its receive; somebody can always go on; the whole call runs to its end on every tape. Conditions stand as premises. -/
namespace Go.Proofs.Ytiobhgemjbjipaa
open Go.Conc
open Go.ConcR (KK wgBlock WgAt stA smA rd wr mk DC0 deafBehind_one deafBehind_cons)
open Go.ConcN (WgLive upd upd_ne upd_same PermW sumTo sumTo_upd sumTo_congr sumTo_le fork_knows)
set_option linter.unusedVariables false
set_option linter.unusedSimpArgs false
variable {C : Cx} {σ σ' : Gh} {f f' : Nat → Nat} {gs gs' : Array Goroutine} {w w' : World} {t u : Trace} {i sz : Nat} {g g' : Goroutine} {E : PE} {es : Array Event} {sl : Option (Nat × Nat)} {mine : Nat → Prop} {N : Nat} {tg : Tag} {o : Offers}
theorem set_comm {x y : Goroutine} {a b : Nat} (h : a ≠ b) : (gs.setIfInBounds a x).setIfInBounds b y = (gs.setIfInBounds b y).setIfInBounds a x := by
  apply Array.ext_getElem?
  intro j
  simp only [Array.getElem?_setIfInBounds]
  split <;> split <;> simp_all
theorem atClose_core {P : Program} {c : Nat} {Next : Goroutine → World → Prop} (h : AtClose P true c Next (core g) w) (hr : g.status = .running) : AtClose P true c Next g w := by
  obtain ⟨_, hm, g', hg, hs⟩ := h
  refine ⟨hr, hm, g', hg, fun s r tm hc => ?_⟩
  rw [show stepG P true g w = stepG P true (core g) w from stepG_same rfl rfl rfl w]
  exact hs s r tm hc
/-- THE FIRST AT ITS RECEIVE. -/
theorem Inv.s_cons (I : Inv C σ f gs w t) (hi : gs[i]? = some g) (hr : g.status = .running) {m : Nat} {b : Bool} {ys : List (Nat × Value × Value)} (ht : σ.tag i = .cons m b ys) (hs : stopOf C (σ.mine i) σ.N i (.cons m b ys) o g w) : Kept C σ f gs t (runT C.P (crowd gs w sl) i) ∨ Finished C t (runT C.P (crowd gs w sl) i) := by
  have hlt := (Array.getElem?_eq_some_iff.1 hi).1
  have hng : ∀ d, σ.tag i ≠ .gone d := by rw [ht]; intro d e; cases e
  obtain rfl := I.abs.isMain hlt (by rw [ht]; rfl) (by rw [ht]; rfl) (by rw [ht]; rfl)
  have J := I.phys.world
  have hE := I.ok
  have hcases : (o = some (C.E.cs5, .recv true) ∧ AtC C.P true (R0 C.E) C.E.cs5 (.recv true) g w ∧ (∀ w₁, R0 C.E w w₁ → C.Exit b ys ((core g).finishComm C.P C.E.cs5 (.recv true) 0 C.E.zG false) w₁)) ∨
      (∃ m', m = m' + 1 ∧ b = true ∧ ∀ w₁, R0 C.E w w₁ → ∃ c, C.E.St = some c ∧ AtClose C.P true c (W0 C.P C.E σ.N (fun g w => ∃ o, MRecv C.P C.E C.Exit m' false ys σ.N o g w)) (core g) w₁) := by
    cases m with
    | zero =>
      simp only [stopOf] at hs
      unfold MRecv at hs
      exact .inl hs
    | succ m =>
      simp only [stopOf] at hs
      unfold MRecv at hs
      rcases hs with x | x
      · exact .inl ⟨x.1, x.2.1, x.2.2.1⟩
      · exact .inr ⟨m, rfl, x.1, x.2.2.2⟩
  rcases hcases with ⟨hox, hat, hexit⟩ | ⟨m', rfl, rfl, hshut⟩
  · subst hox
    obtain ⟨so, ro, tmo, hO⟩ := J.O
    have hOlt : C.E.O < w.heap.size := (Array.getElem?_eq_some_iff.1 hO).1
    have hst : stepG C.P (0 == 0) g w = .comm (core g) C.E.cs5 true (.recv true) w #[] := hat.comm w (RM.refl _ _ w)
    have hill : ∀ cc ∈ C.E.cs5, illMade w cc = false := by
      intro cc hcc
      simp only [PE.cs5, List.mem_toArray, List.mem_cons, List.not_mem_nil, or_false] at hcc
      subst hcc
      exact made_recv _ hO
    have hw0 : ways w (gs.setIfInBounds 0 ph) (rcase C.E.O C.E.zG) = if partners (gs.setIfInBounds 0 ph) C.E.O true = [] then (if σ.oc = true then [.closed] else []) else (partners (gs.setIfInBounds 0 ph) C.E.O true).map fun (h, k) => Way.partner h k := by
      simp only [ways, rcase, hO]
      cases partners (gs.setIfInBounds 0 ph) C.E.O true <;> simp
    by_cases hready : partners (gs.setIfInBounds 0 ph) C.E.O true ≠ [] ∨ σ.oc = true
    · obtain ⟨k', cc, way, d, hcc, hway, T⟩ := comm_any (sl := sl) hi hst hill ⟨0, rcase C.E.O C.E.zG, rfl, by
        rw [hw0]
        by_cases hp : partners (gs.setIfInBounds 0 ph) C.E.O true = []
        · rw [if_pos hp]
          rcases hready with h | h
          · exact absurd hp h
          · rw [if_pos h]; simp
        · rw [if_neg hp]; simpa using hp⟩
      match k', hcc with
      | 0, hcc =>
        obtain rfl : rcase C.E.O C.E.zG = cc := by simpa [PE.cs5] using hcc
        rw [hw0] at hway
        by_cases hp : partners (gs.setIfInBounds 0 ph) C.E.O true = []
        · rw [if_pos hp] at hway
          by_cases hoc : σ.oc = true
          · rw [if_pos hoc] at hway
            have hrn := T.shut _ _ rfl (by simpa using hway)
            rw [ev_nil] at hrn
            exact .inr ⟨b, ys, (core g).finishComm C.P C.E.cs5 (.recv true) 0 C.E.zG false, _, _, sl, _, hrn, Array.getElem?_setIfInBounds_self_of_lt hlt, hexit _ (RM.at _ _ w d), I.out hoc ht d _⟩
          · rw [if_neg hoc] at hway; cases hway
        · rw [if_neg hp] at hway
          obtain ⟨⟨j, kj⟩, hpj, rfl⟩ := List.mem_map.1 hway
          obtain ⟨y, hy, hkj⟩ := mem_partners.1 hpj
          rcases getElem?_stand gs _ j y hy with ⟨_, rfl⟩ | ⟨hji, hy'⟩
          · rw [offersAt_ph] at hkj; cases hkj
          · obtain ⟨_, rfl, hyb, v, l, x, hgt, hyp, hsw⟩ := I.phys.senders hE hy' hkj
            have hjlt := (Array.getElem?_eq_some_iff.1 hy').1
            obtain ⟨k, hk, rfl⟩ := I.abs.isWay hjlt (by rw [hgt]; rfl) (by rw [hgt]; intro d e; cases e)
            have hrn := T.recv _ _ _ _ _ _ _ _ _ _ _ rfl rfl hO hy
            rw [ev_nil] at hrn
            have hyg : gs[C.E.j0 + k]? = some (parked (core y) (C.E.cs2 x) .select) := by rw [← hyp]; exact hy'
            have hov : offeredValue (gs.setIfInBounds 0 ph) (C.E.j0 + k) 0 = x := by
              have := stand_get (i := 0) hji hyg
              simp [offeredValue, this, parked, PE.cs2, scase]
            rw [finishPartner_set C.P (Ne.symm hji) hyg (show (C.E.cs2 x)[0]? = some (scase C.E.O x C.E.zG) from rfl), hov, set_comm hji] at hrn
            have q4 := quiet4 (w := w) (a := C.E.j0 + k) (b := 0) (f1 := y.frame.fn) (f2 := (core g).frame.fn) (f3 := y.frame.fn) (f4 := (core g).frame.fn) (p1 := y.frame.place) (p2 := (core g).frame.place) (p3 := y.frame.place) (p4 := (core g).frame.place) (s := so) (r := ro) (cap := 0) hOlt
            exact .inl (I.meet (i := 0) hk hy' hi hgt ht hsw hs d (so + 1) (ro + 1) tmo (fun op hop => (q4 op hop).1) (fun op hop => (q4 op hop).2.1) (fun op hop => (q4 op hop).2.2) hrn)
      | k' + 1, hcc => simp [PE.cs5] at hcc
    · have hp : partners (gs.setIfInBounds 0 ph) C.E.O true = [] := by
        by_cases h : partners (gs.setIfInBounds 0 ph) C.E.O true = []
        · exact h
        · exact absurd (.inl h) hready
      have hoc : σ.oc = false := by
        cases e : σ.oc with
        | false => rfl
        | true => exact absurd (.inr e) hready
      have hrw := crowd_waits (sl := sl) hi hst fun cc hcc => ⟨hill cc hcc, by
        simp only [PE.cs5, List.mem_toArray, List.mem_cons, List.not_mem_nil, or_false] at hcc
        subst hcc
        rw [hw0, if_pos hp, hoc]; rfl⟩
      have hsu : (upd σ.tag 0 (.cons m b ys)) = σ.tag := by
        funext j; unfold upd; split
        · rename_i e; rw [e, ht]
        · rfl
      have hcore := stop_core (C := C) (mine := σ.mine 0) (N := σ.N) (i := 0) (t := .cons m b ys) rfl hs
      refine .inl (I.put (σ' := σ) (t' := .cons m b ys) (fi := 0) hi hrw I.abs (less_park hi hr rfl rfl) hsu.symm ⟨rfl, rfl⟩ (ShStep.at C.E w w.drawn) (Sit.of (.inr ⟨rfl, rfl, .inr rfl, _, hcore, fun _ => ⟨rfl, fun e => by cases e⟩⟩) (by intro e; cases e) (by intro d e; cases e)) (fun _ _ _ _ _ x => x) (fun _ => hoc) (fun _ => ⟨fun _ j y hy hgt hyb => ?_, fun e => by cases e⟩) (fun _ => rfl) J (by simp [MemOp.ofEvents]) (by simp [MemOp.ofEvents]) (by simp [MemOp.ofEvents]) (by rw [ht]) (by simp only [MemOp.ofEvents]; simpa using I.tr.chain))
      rcases (I.phys.waiting hy hyb).2 with ⟨v', l', x', e1, e2, e3⟩ | ⟨e1, e2⟩ | ⟨e1, e2⟩ | ⟨e1, e2⟩ | ⟨m2, b2, ys2, e1, e2, e3⟩
      · have hj0 : j ≠ 0 := by intro e; subst e; rw [ht] at e1; cases e1
        have : (j, 0) ∈ partners (gs.setIfInBounds 0 ph) C.E.O true := mem_partners.2 ⟨y, stand_get hj0 hy, by rw [e2, offers2, if_pos ⟨rfl, rfl⟩]; simp⟩
        rw [hp] at this; cases this
      · rw [e1] at hgt; cases hgt
      · rw [e1] at hgt; cases hgt
      · rw [e1] at hgt; cases hgt
      · rw [e1] at hgt; cases hgt
  · obtain ⟨c, hSt, hcl⟩ := hshut w (RM.refl _ _ w)
    exact .inl (I.s_mshut hi ht hSt (atClose_core hcl hr))
theorem sum_zero {φ : Tag → Nat} (h : ∀ j, j < sz → φ (σ.tag j) = 0) : σ.sum sz φ = 0 := by
  have : σ.sum sz φ ≤ 0 * sz := sumTo_le fun j hj => by rw [h j hj]; exact Nat.le_refl 0
  omega
/-- SOMEBODY CAN GO ON. -/
theorem Inv.lively (I : Inv C σ f gs w t) : ∃ (i : Nat) (g : Goroutine), gs[i]? = some g ∧ g.status = .running := by
  refine Classical.byContradiction fun hno => ?_
  have hnr : ∀ (i : Nat) (g : Goroutine), gs[i]? = some g → g.status ≠ .running := fun i g hg hr => hno ⟨i, g, hg, hr⟩
  have hj := I.abs.j0
  have n := I.abs.nums
  unfold Nums at n
  have hblk : ∀ (i : Nat) (g : Goroutine), gs[i]? = some g → (∃ d, σ.tag i = .gone d) ∨ g.status = .blocked := by
    intro i g hg
    by_cases hgo : ∃ d, σ.tag i = .gone d
    · exact .inl hgo
    · have s := I.phys.sit i g hg
      by_cases hn : σ.tag i = .none_
      · rw [hn] at s; exact s.elim
      · exact .inr ((s.running hn fun d e => hgo ⟨d, e⟩).elim (fun x => absurd x (hnr i g hg)) fun x => x.1)
  -- the first
  have h0lt : 0 < gs.size := by omega
  obtain ⟨g0, hg0⟩ : ∃ g0, gs[0]? = some g0 := ⟨_, Array.getElem?_eq_getElem h0lt⟩
  have r0 := I.abs.role 0
  unfold Role at r0
  rw [if_pos rfl] at r0
  have hb0 : g0.status = .blocked := by
    rcases hblk 0 g0 hg0 with ⟨d, hd⟩ | h
    · rw [hd] at r0; exact r0.elim
    · exact h
  obtain ⟨m, b, ys, ht0⟩ : ∃ m b ys, σ.tag 0 = .cons m b ys := by
    rcases (I.phys.waiting hg0 hb0).2 with ⟨v', l', x', e1, e2, e3⟩ | ⟨e1, e2⟩ | ⟨e1, e2⟩ | ⟨e1, e2⟩ | ⟨m2, b2, ys2, e1, e2, e3⟩
    · rw [e1] at r0; exact r0.elim
    · rw [e1] at r0; exact r0.elim
    · rw [e1] at r0; exact r0.elim
    · rw [e1] at r0; exact r0.elim
    · exact ⟨m2, b2, ys2, e1⟩
  have hsize : gs.size = C.ic + 1 := by rw [ht0] at r0; exact r0
  have hoc : σ.oc = false := by have := I.phys.cond 0 g0 hg0 hb0; rw [ht0] at this; exact this
  have hi1 : (if C.iw < gs.size then 1 else 0) = 1 := if_pos (by unfold Cx.ic at hsize; unfold Cx.iw; omega)
  have hi2 : (if C.ic < gs.size then 1 else 0) = 1 := if_pos (by omega)
  rw [hi1, hi2, hoc] at n
  simp only [Bool.toNat_false] at n
  -- each of the others is gone, or waits at the semaphore or as the closer
  have hothers : ∀ j, j < gs.size → j ≠ 0 → (∃ d, σ.tag j = .gone d) ∨ (σ.tag j = .tsem ∧ j = C.iw ∧ σ.sm = 0) ∨ (σ.tag j = .csel ∧ σ.dc = false) ∨ (σ.tag j = .cdone ∧ σ.dc = false) := by
    intro j hjl hj0
    obtain ⟨y, hy⟩ : ∃ y, gs[j]? = some y := ⟨_, Array.getElem?_eq_getElem hjl⟩
    rcases hblk j y hy with h | hb
    · exact .inl h
    · have hc := I.phys.cond j y hy hb
      rcases (I.phys.waiting hy hb).2 with ⟨v', l', x', e1, e2, e3⟩ | ⟨e1, e2⟩ | ⟨e1, e2⟩ | ⟨e1, e2⟩ | ⟨m2, b2, ys2, e1, e2, e3⟩
      · exact absurd hb (I.phys.meet g0 hg0 hb0 j y hy (by rw [e1]; rfl))
      · rw [e1] at hc
        exact .inr (.inl ⟨e1, I.abs.isWtr hjl (by rw [e1]; rfl) (by rw [e1]; intro d e; cases e), hc⟩)
      · rw [e1] at hc; exact .inr (.inr (.inl ⟨e1, hc.1⟩))
      · rw [e1] at hc; exact .inr (.inr (.inr ⟨e1, hc⟩))
      · exact absurd (I.abs.isMain hjl (by rw [e1]; rfl) (by rw [e1]; rfl) (by rw [e1]; rfl)) hj0
  have z : ∀ φ : Tag → Nat, (∀ d, φ (.gone d) = 0) → φ .tsem = 0 → φ .csel = 0 → φ .cdone = 0 → φ (.cons m b ys) = 0 → σ.sum gs.size φ = 0 := by
    intro φ h1 h2 h3 h4 h5
    refine sum_zero fun j hjl => ?_
    by_cases hj0 : j = 0
    · subst hj0; rw [ht0]; exact h5
    · rcases hothers j hjl hj0 with ⟨d, hd⟩ | ⟨h, _⟩ | ⟨h, _⟩ | ⟨h, _⟩
      · rw [hd]; exact h1 d
      · rw [h]; exact h2
      · rw [h]; exact h3
      · rw [h]; exact h4
  have z1 := z Tag.cnt (fun _ => rfl) rfl rfl rfl rfl
  have z2 := z Tag.l1 (fun _ => rfl) rfl rfl rfl rfl
  have z3 := z Tag.l2 (fun _ => rfl) rfl rfl rfl rfl
  have z4 := z Tag.l3 (fun _ => rfl) rfl rfl rfl rfl
  have z5 := z Tag.past (fun _ => rfl) rfl rfl rfl rfl
  have z6 := z Tag.pre (fun _ => rfl) rfl rfl rfl rfl
  have hsem : σ.sum gs.size Tag.sem = 0 := by
    by_cases hx : σ.sm = 0
    · omega
    · refine sum_zero fun j hjl => ?_
      by_cases hj0 : j = 0
      · subst hj0; rw [ht0]; rfl
      · rcases hothers j hjl hj0 with ⟨d, hd⟩ | ⟨h, _, h2⟩ | ⟨h, _⟩ | ⟨h, _⟩
        · rw [hd]; rfl
        · exact absurd h2 hx
        · rw [h]; rfl
        · rw [h]; rfl
  have hdc : σ.dc.toNat = 1 := by omega
  have hdc' : σ.dc = true := by
    cases e : σ.dc with
    | true => rfl
    | false => rw [e] at hdc; cases hdc
  have hcc : σ.sum gs.size Tag.cc = 0 := by
    refine sum_zero fun j hjl => ?_
    by_cases hj0 : j = 0
    · subst hj0; rw [ht0]; rfl
    · rcases hothers j hjl hj0 with ⟨d, hd⟩ | ⟨h, _⟩ | ⟨h, h2⟩ | ⟨h, h2⟩
      · rw [hd]; rfl
      · rw [h]; rfl
      · rw [hdc'] at h2; cases h2
      · rw [hdc'] at h2; cases h2
  omega
/-- EVERY STEP KEEPS ALL, OR ALL IS OVER. -/
theorem Inv.step (I : Inv C σ f gs w t) : Kept C σ f gs t (stepT C.P (crowd gs w sl)) ∨ Finished C t (stepT C.P (crowd gs w sl)) := by
  have haw : ∀ g ∈ gs, awake g := by
    intro g hg
    obtain ⟨i, hi, rfl⟩ := Array.mem_iff_getElem.1 hg
    rcases (I.phys.sit i _ (Array.getElem?_eq_getElem hi)).alive with h | h | h
    · exact awake_of (.inl h)
    · exact awake_of (.inr (.inl h))
    · exact awake_of (.inr (.inr h))
  obtain ⟨i, g, d, sl', hi, hr, hst⟩ := crowd_pick (P := C.P) (w := w) (sl := sl) haw I.lively
  rw [hst]
  have I' := I.at d
  have s := I'.phys.sit i g hi
  by_cases hn : σ.tag i = .none_
  · rw [hn] at s; exact s.elim
  by_cases hg : ∃ d, σ.tag i = .gone d
  · obtain ⟨d', hd⟩ := hg
    exact .inl (I'.gone hi hd hr)
  have hg' : ∀ d, σ.tag i ≠ .gone d := fun d e => hg ⟨d, e⟩
  rcases s.pick hn hg' hr with ⟨o, hs⟩ | ⟨n, g', w', es, hf, hst', hD, hs⟩
  · cases ht : σ.tag i with
    | none_ => exact absurd ht hn
    | gone d => exact absurd ht (hg' d)
    | loop l => rw [ht] at hs; exact .inl (I'.s_loop hi ht hs)
    | got v l => rw [ht] at hs; exact .inl (I'.s_got hi hr ht hs)
    | quit => rw [ht] at hs; exact .inl (I'.s_wrel hi ht hs)
    | wdis => rw [ht] at hs; exact .inl (I'.s_wdis hi ht hs)
    | wadd => rw [ht] at hs; exact .inl (I'.s_wadd hi ht hs)
    | last1 => rw [ht] at hs; exact .inl (I'.s_wlast1 hi ht hs)
    | last2 => rw [ht] at hs; exact .inl (I'.s_wlast2 hi ht hs)
    | last3 => rw [ht] at hs; exact .inl (I'.s_wlast3 hi ht hs)
    | tdis => rw [ht] at hs; exact .inl (I'.s_tdis hi ht hs)
    | tload => rw [ht] at hs; exact .inl (I'.s_tload hi ht hs)
    | tcas vs => rw [ht] at hs; exact .inl (I'.s_tcas hi ht hs)
    | tsem => rw [ht] at hs; exact .inl (I'.s_tsem hi hr ht hs)
    | tload2 => rw [ht] at hs; exact .inl (I'.s_tload2 hi ht hs)
    | tena => rw [ht] at hs; exact .inl (I'.s_tena hi ht hs)
    | tacq => rw [ht] at hs; exact .inl (I'.s_tacq hi ht hs)
    | tshut => rw [ht] at hs; exact .inl (I'.s_tshut hi ht hs)
    | csel => rw [ht] at hs; exact .inl (I'.s_csel hi hr ht hs)
    | cquit => rw [ht] at hs; exact .inl (I'.s_cquit hi ht hs)
    | cdone => rw [ht] at hs; exact .inl (I'.s_cdone hi hr ht hs)
    | cout => rw [ht] at hs; exact .inl (I'.s_cout hi ht hs)
    | fdis r => rw [ht] at hs; exact .inl (I'.s_mdis hi ht hs)
    | fadd r => rw [ht] at hs; exact .inl (I'.s_madd hi ht hs)
    | fena r => rw [ht] at hs; exact .inl (I'.s_mena hi ht hs)
    | fgo r => rw [ht] at hs; exact .inl (I'.s_fgo hi ht hs)
    | fgoT => rw [ht] at hs; exact .inl (I'.s_fgoT hi ht hs)
    | fgoC => rw [ht] at hs; exact .inl (I'.s_fgoC hi ht hs)
    | cons m b ys => rw [ht] at hs; exact I'.s_cons hi hr ht hs
  · exact .inl (I'.own hi hn hg' hf hst' hD hs)
/-- The run from here ends, as it should. -/
def Ends (P : Program) (Post : Value → World → Prop) (m : Machine) (t : Trace) : Prop :=
  ∃ N last o w' t', runNT P (N + 1) m t = (.ended o w', t') ∧ runN P N m = .next last ∧ step P last = .ended o w' ∧ Go.Conc.Good P Post last o w' t'
theorem Ends.step {P : Program} {Post : Value → World → Prop} {m m' : Machine} {t : Trace} {ops : Array MemOp} (hs : stepT P m = (.next m', ops)) (h : Ends P Post m' (t ++ ops)) : Ends P Post m t := by
  obtain ⟨n, last, o, w, t', h1, h2, h3, h4⟩ := h
  exact ⟨n + 1, last, o, w, t', by rw [runNT_succ_next hs]; exact h1, by rw [runN_succ_next hs]; exact h2, h3, h4⟩
theorem less_wf : WellFounded Less := (Prod.lex Nat.lt_wfRel (Prod.lex Nat.lt_wfRel Nat.lt_wfRel)).wf
/-- ████ THE CALL RUNS TO ITS END, ON WHATEVER TAPE. ████ -/
theorem pump_runs {Post : Value → World → Prop} (hfin : ∀ b ys g' gs' w' sl' t', gs'[0]? = some g' → C.Exit b ys g' w' → OutF C b ys gs' w' t' → Ends C.P Post (crowd gs' w' sl') t') :
    ∀ (μ : Nat × Nat × Nat) (σ : Gh) (f : Nat → Nat) (gs : Array Goroutine) (w : World) (sl : Option (Nat × Nat)) (t : Trace), meas C σ f gs = μ → Inv C σ f gs w t → Ends C.P Post (crowd gs w sl) t := by
  intro μ
  induction μ using less_wf.induction with
  | _ μ ih =>
    intro σ f gs w sl t hμ I
    rcases I.step (sl := sl) with ⟨σ', f', gs', w', sl', u, hr, I', hl⟩ | ⟨b, ys, g', gs', w', sl', u, hr, h0, hx, ho⟩
    · exact Ends.step hr (ih _ (hμ ▸ hl) σ' f' gs' w' sl' _ rfl I')
    · exact Ends.step hr (hfin b ys g' gs' w' sl' _ h0 hx ho)
end Go.Proofs.Ytiobhgemjbjipaa
