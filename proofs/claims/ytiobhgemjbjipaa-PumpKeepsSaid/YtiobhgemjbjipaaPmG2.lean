/- Contracts and plain laws that this claim uses, each with its conditions as premises. -/
import Derived.Test.YtiobhgemjbjipaaPmG1
import Derived.Conc.WrWorld
/- What holds of the machine and of the trace at every moment of one call; how a step keeps it. Conditions stand as premises. -/
namespace Go.Proofs.Ytiobhgemjbjipaa
open Go.Conc
open Go.ConcR (KK wgBlock WgAt stA smA rd wr mk DC0)
open Go.ConcN (WgLive upd upd_ne upd_same PermW)
set_option linter.unusedVariables false
set_option linter.unusedSimpArgs false
/-- The numbers of the call are what they should be. -/
structure PE.Ok (E : PE) : Prop where
  low : ∀ b, E.Sh b → b < E.N0
  old : ∀ b, E.Old b → b < E.N0
  ty : E.ty ≠ E.by_
  wo : E.Wg ≠ E.O
  wq : E.Wg ≠ E.Q
  wd : E.Wg ≠ E.Dn
  oq : E.O ≠ E.Q
  od : E.O ≠ E.Dn
  qd : E.Q ≠ E.Dn
  st : ∀ c, E.St = some c → c ≠ E.Wg ∧ c ≠ E.O ∧ c ≠ E.Q ∧ c ≠ E.Dn
  cr : ∀ k, k < E.n → E.Cr k ≠ E.Wg ∧ E.Cr k ≠ E.O ∧ E.Cr k ≠ E.Q ∧ E.Cr k ≠ E.Dn ∧ E.St ≠ some (E.Cr k)
  crs : ∀ k k', k < E.n → k' < E.n → E.Cr k = E.Cr k' → k = k'
  big : E.j0 + E.n < 1000000
/-- What the shared blocks hold. -/
structure JW (E : PE) (σ : Gh) (w : World) : Prop where
  O : ∃ s r tm, w.heap[E.O]? = some (.chan 0 #[] σ.oc s r tm)
  Q : ∃ s r tm, w.heap[E.Q]? = some (.chan 0 #[] σ.qc s r tm)
  Dn : ∃ s r tm, w.heap[E.Dn]? = some (.chan 0 #[] σ.dc s r tm)
  St : ∀ c, E.St = some c → ∃ s r tm, w.heap[c]? = some (.chan 0 #[] σ.sc s r tm)
  Stn : E.St = none → σ.sc = false
  Cr : ∀ k, k < E.n → ∃ cap s r tm, w.heap[E.Cr k]? = some (.chan cap (σ.buf k).toArray true s r tm)
  Wg : WgAt E.ty E.Wg w ((σ.v : Int) * KK + σ.wt) σ.sm
/-- What must hold where it stands waiting. -/
def Cond (σ : Gh) : Tag → Prop
  | .got _ _ => σ.qc = false
  | .tsem => σ.sm = 0
  | .csel => σ.dc = false ∧ σ.sc = false
  | .cdone => σ.dc = false
  | .cons _ _ _ => σ.oc = false
  | _ => True
structure Phys (C : Cx) (σ : Gh) (f : Nat → Nat) (gs : Array Goroutine) (w : World) : Prop where
  sit : ∀ i g, gs[i]? = some g → Sit C (σ.mine i) σ.N i (f i) g w (σ.tag i)
  cond : ∀ i g, gs[i]? = some g → g.status = .blocked → Cond σ (σ.tag i)
  meet : ∀ g0, gs[0]? = some g0 → g0.status = .blocked → ∀ i g, gs[i]? = some g → (σ.tag i).isGot = true → g.status ≠ .blocked
  world : JW C.E σ w
  m0 : σ.mine 0 = fun b => ¬ C.E.Sh b
  ro : ∀ i, i ≠ 0 → ∀ b, σ.mine i b → b < σ.N ∧ ¬ C.E.Sh b ∧ ¬ C.E.Old b ∧ (b < C.E.N0 ∨ ¬ Byt C.E w b)
  nb : C.E.N0 ≤ σ.N ∧ σ.N ≤ w.heap.size
def PChain (C : Cx) (σ : Gh) (t : Trace) : Prop := Chain C.E t (fun g => C.E.j0 ≤ g ∧ g < C.E.j0 + C.E.n ∧ (σ.tag g).rel = true) (σ.tag C.iw = .tshut) (σ.dc = true) (σ.tag C.ic = .cout) (σ.oc = true)
/-- What is said of the group's cells: the first alone says until the one that waits is born, and reads; then that one knows all. -/
def SdT (E : PE) (iw : Nat) (nb : Prop) (t : Trace) : Prop := ∀ i a, touchAt t i = some a → a.kind = .said → ShL E a.loc → (nb → Knows t 0 i ∧ a.write = false) ∧ (¬ nb → Knows t iw i)
/-- Nothing is said. -/
def NS (u : Trace) : Prop := ∀ op ∈ u, ∀ x, op.act.touch? = some x → x.kind ≠ .said
theorem SdT.app {E : PE} {iw : Nat} {nb nb' : Prop} {t u : Trace} (h : SdT E iw nb t) (hn : NS u) (e : nb' ↔ nb) : SdT E iw nb' (t ++ u) := by
  intro i a ha hk hs
  obtain ⟨op, hop, hox⟩ := touch_of ha
  rcases getElem?_append_cases hop with ⟨_, hop'⟩ | ⟨_, hou⟩
  · have := h i a (by rw [touchAt_of hop']; exact hox) hk hs
    exact ⟨fun x => ⟨(this.1 (e.1 x)).1.app u, (this.1 (e.1 x)).2⟩, fun x => (this.2 fun y => x (e.2 y)).app u⟩
  · exact absurd hk (hn op hou a hox)
theorem NS.mute {u : Trace} (h : ∀ op ∈ u, op.act.touch? = none) : NS u := fun op hop x hx => by rw [h op hop] at hx; cases hx
theorem SdT.to {E : PE} {iw : Nat} {nb nb' : Prop} {t : Trace} (h : SdT E iw nb t) (e : nb' ↔ nb) : SdT E iw nb' t := fun i a ha hk hs => ⟨fun x => (h i a ha hk hs).1 (e.1 x), fun x => (h i a ha hk hs).2 fun y => x (e.2 y)⟩
structure Tr (C : Cx) (σ : Gh) (w : World) (t : Trace) : Prop where
  pt : PT (ShL C.E) (mayL C.E σ.mine w) (ownL C.E σ.N w) t
  deaf : ∀ i, Deaf t i = (σ.tag i).dOf
  low : ∀ op ∈ t, op.act.low w.heap.size
  norel : ∀ k, t.act? k ≠ some (.mark (.release (stA C.E.Wg)))
  old : ∀ i a h, touchAt t i = some a → t.g? i = some h → a.loc.isMemory = true → (C.E.j0 ≤ h ∧ h ≤ C.E.j0 + C.E.n + 1) ∨ ((h < C.E.j0 ∨ C.E.j0 + C.E.n + 1 < h) ∧ (Knows t 0 i ∨ ((∃ ad, a.loc = .cell ad ∧ C.E.Old ad.block) ∧ a.kind = .atomic)))
  over : ∀ i g, t.g? i = some g → g ≠ 0 → (g < C.E.j0 ∨ C.E.j0 + C.E.n + 1 < g) → t.counts i → ∃ j, t.g? j = some 0 ∧ HappensBefore t i j
  chain : PChain C σ t
  sd : SdT C.E C.iw (σ.tag C.iw = .none_) t
structure Inv (C : Cx) (σ : Gh) (f : Nat → Nat) (gs : Array Goroutine) (w : World) (t : Trace) : Prop where
  ok : C.E.Ok
  abs : Abs C σ gs.size
  phys : Phys C σ f gs w
  tr : Tr C σ w t
section
variable {C : Cx} {σ σ' : Gh} {f : Nat → Nat} {gs : Array Goroutine} {w w' : World} {t u : Trace} {i : Nat} {g g' : Goroutine} {E : PE}
/-- What any step does to the blocks that are not shared. -/
structure Wst (E : PE) (N : Nat) (w w' : World) : Prop where
  size : w.heap.size ≤ w'.heap.size
  low : ∀ b, b < N → ¬ E.Sh b → b < w.heap.size → w'.heap[b]? = w.heap[b]?
  byt : ∀ b, Byt E w b → w'.heap[b]? = w.heap[b]?
  live : WgLive E.ty E.Wg w → WgLive E.ty E.Wg w'
  oo : SO w w'
theorem byt_lt {b : Nat} (h : Byt E w b) : b < w.heap.size := by
  obtain ⟨vs, h⟩ := h
  exact (Array.getElem?_eq_some_iff.1 h).1
theorem Byt.sh (hE : E.Ok) (hw : JW E σ w) {b : Nat} (hb : E.Sh b) : ¬ Byt E w b := by
  rintro ⟨vs, hv⟩
  rcases hb with rfl | rfl | rfl | rfl | h | ⟨k, hk, rfl⟩
  · have := hw.Wg
    unfold WgAt wgBlock at this
    rw [this] at hv
    simp only [Option.some.injEq, Obj.cells.injEq] at hv
    exact hE.ty hv.2.1
  · obtain ⟨s, r, tm, h⟩ := hw.O; rw [h] at hv; cases hv
  · obtain ⟨s, r, tm, h⟩ := hw.Q; rw [h] at hv; cases hv
  · obtain ⟨s, r, tm, h⟩ := hw.Dn; rw [h] at hv; cases hv
  · obtain ⟨s, r, tm, h⟩ := hw.St b h; rw [h] at hv; cases hv
  · obtain ⟨cap, s, r, tm, h⟩ := hw.Cr k hk; rw [h] at hv; cases hv
/-- The others suffer no more than they rely on. -/
theorem Phys.others (h : Phys C σ f gs w) (hw : Wst C.E σ.N w w') (hm : i ≠ 0 → ∀ b, ¬ C.E.Sh b → b < w.heap.size → w'.heap[b]? = w.heap[b]?) {j : Nat} (hj : j ≠ i) : RM C.E (σ.mine j) w w' := by
  refine ⟨hw.size, fun b hb hl => ?_, hw.live, hw.oo⟩
  rcases hb with hb | hb
  · by_cases j0 : j = 0
    · subst j0
      rw [h.m0] at hb
      exact hm (Ne.symm hj) b hb hl
    · have := h.ro j j0 b hb
      exact hw.low b this.1 this.2.1 hl
  · exact hw.byt b hb
theorem Phys.cons0 (h : Phys C σ f gs w) (ha : Abs C σ gs.size) (j : Nat) : ∀ m b ys, σ.tag j = .cons m b ys → σ.mine j = fun b => ¬ C.E.Sh b := by
  intro m b ys e
  have r := ha.role j
  unfold Role at r
  rw [e] at r
  by_cases hj : j = 0
  · subst hj; exact h.m0
  · rw [if_neg hj] at r
    split at r
    · obtain ⟨d, hd⟩ := r; cases hd
    · split at r
      · cases r
      · split at r
        · cases r
        · split at r <;> cases r
/-- ONE GOROUTINE STEPS: the machine's side. -/
theorem Phys.go (h : Phys C σ f gs w) (ha : Abs C σ gs.size) (hi : gs[i]? = some g) {t' : Tag} {fi : Nat} (h1 : σ'.tag = upd σ.tag i t') (h2 : σ'.mine = σ.mine) (h3 : σ'.N = σ.N) (hw : Wst C.E σ.N w w')
    (hm : i ≠ 0 → ∀ b, ¬ C.E.Sh b → b < w.heap.size → w'.heap[b]? = w.heap[b]?) (hs : Sit C (σ.mine i) σ.N i fi g' w' t')
    (hk : ∀ j y, j ≠ i → gs[j]? = some y → (woken C.P g g' w' y).status = .blocked → Cond σ (σ.tag j) → Cond σ' (σ.tag j)) (hb : g'.status = .blocked → i ≠ 0 ∧ t'.isGot = false ∧ Cond σ' t') (hW : JW C.E σ' w') :
    Phys C σ' (upd f i fi) ((gs.map (woken C.P g g' w')).setIfInBounds i g') w' := by
  have hlt : i < gs.size := (Array.getElem?_eq_some_iff.1 hi).1
  have get : ∀ j x, ((gs.map (woken C.P g g' w')).setIfInBounds i g')[j]? = some x → (j = i ∧ x = g') ∨ (j ≠ i ∧ ∃ y, gs[j]? = some y ∧ x = woken C.P g g' w' y) := by
    intro j x hx
    by_cases e : i = j
    · subst e
      rw [Array.getElem?_setIfInBounds_self_of_lt (by simpa using hlt)] at hx
      exact .inl ⟨rfl, (Option.some.inj hx).symm⟩
    · rw [Array.getElem?_setIfInBounds_ne e, Array.getElem?_map] at hx
      obtain ⟨y, hy, rfl⟩ := Option.map_eq_some_iff.1 hx
      exact .inr ⟨fun x => e x.symm, y, hy, rfl⟩
  have blk : ∀ y, (woken C.P g g' w' y).status = .blocked → (y.status = .running ∨ y.status = .blocked ∨ y.status = .finished) → y.status = .blocked := by
    intro y hy hs
    rcases hs with hs | hs | hs
    · rw [woken_run hs] at hy; exact hy
    · exact hs
    · unfold woken at hy
      split at hy
      · rw [again_running _ (.inr hs)] at hy; exact hy
      · exact hy
  refine ⟨fun j x hx => ?_, fun j x hx hb' => ?_, fun g0 hg0 hb0 j x hx hgt => ?_, hW, by rw [h2]; exact h.m0, fun j hj b hbm => ?_, by rw [h3]; exact ⟨h.nb.1, Nat.le_trans h.nb.2 hw.size⟩⟩
  · rw [h1, h2, h3]
    rcases get j x hx with ⟨rfl, rfl⟩ | ⟨hne, y, hy, rfl⟩
    · rw [upd_same, upd_same]; exact hs
    · rw [upd_ne _ _ hne, upd_ne _ _ hne]
      exact ((h.sit j y hy).rely (h.cons0 ha j) (h.others hw hm hne)).woken g g' w'
  · rw [h1]
    rcases get j x hx with ⟨rfl, rfl⟩ | ⟨hne, y, hy, rfl⟩
    · rw [upd_same]; exact (hb hb').2.2
    · rw [upd_ne _ _ hne]
      exact hk j y hne hy hb' (h.cond j y hy (blk y hb' (h.sit j y hy).alive))
  · rw [h1] at hgt
    intro hx'
    rcases get j x hx with ⟨rfl, rfl⟩ | ⟨hne, y, hy, rfl⟩
    · rw [upd_same] at hgt
      rw [(hb hx').2.1] at hgt; cases hgt
    · rw [upd_ne _ _ hne] at hgt
      rcases get 0 g0 hg0 with ⟨e0, rfl⟩ | ⟨hne0, y0, hy0, rfl⟩
      · exact absurd e0.symm (hb hb0).1
      · exact h.meet y0 hy0 (blk y0 hb0 (h.sit 0 y0 hy0).alive) j y hy hgt (blk y hx' (h.sit j y hy).alive)
  · rw [h2] at hbm
    have := h.ro j hj b hbm
    rw [h3]
    refine ⟨this.1, this.2.1, this.2.2.1, this.2.2.2.imp id fun x hx => x ?_⟩
    obtain ⟨vs, hv⟩ := hx
    exact ⟨vs, by rw [← hw.low b this.1 this.2.1 (Nat.lt_of_lt_of_le this.1 h.nb.2)]; exact hv⟩
/-! ### the trace's side -/
theorem soleL (hE : E.Ok) {mine : Nat → Nat → Prop} {N : Nat} (hN : E.N0 ≤ N) (hr : ∀ i, i ≠ 0 → ∀ b, mine i b → b < N ∧ ¬ E.Sh b ∧ ¬ E.Old b ∧ (b < E.N0 ∨ ¬ Byt E w b)) : Sole (ShL E) (mayL E mine w) (ownL E N w) := by
  refine ⟨fun a b l ⟨h0, ad, hl, hn, _, _⟩ ⟨ad', hl', _, hm⟩ => ?_, fun a l ⟨h0, ad, hl, hn, hs, hb⟩ => ?_, fun a l ⟨ad, hl, _, hm⟩ hs => ?_⟩
  · subst h0
    rw [hl] at hl'
    cases hl'
    unfold mayB at hm
    by_cases hb : b = 0
    · exact hb
    · rw [if_neg hb] at hm
      have := (hr b hb _ hm).1
      omega
  · subst h0
    refine ⟨ad, hl, hs, ?_⟩
    unfold mayB
    rw [if_pos rfl]
    exact ⟨fun x => by have := hE.low _ x; omega, fun x => by have := hE.old _ x; omega, .inr hb⟩
  · have hns : ¬ E.Sh ad.block := by
      unfold mayB at hm
      split at hm
      · exact hm.1
      · rename_i h0; exact (hr a h0 _ hm).2.1
    rcases hs with ⟨ad', e, hb⟩ | ⟨c, e⟩
    · rw [hl] at e; cases e
      exact hns (.inl hb)
    · rw [hl] at e; cases e
/-- What may be touched behind a step was so ahead of it, or is new. -/
theorem may_back (hE : E.Ok) {mine : Nat → Nat → Prop} {N : Nat} (hN : E.N0 ≤ N ∧ N ≤ w.heap.size) (hr : ∀ i, i ≠ 0 → ∀ b, mine i b → b < N ∧ ¬ E.Sh b ∧ ¬ E.Old b ∧ (b < E.N0 ∨ ¬ Byt E w b)) (hw : Wst E N w w') {g : Nat} {l : Loc} (h : mayL E mine w' g l) :
    mayL E mine w g l ∨ (g = 0 ∧ ∃ a, l = .cell a ∧ w.heap.size ≤ a.block ∧ a.block < w'.heap.size ∧ ¬ Byt E w' a.block) := by
  obtain ⟨a, rfl, hs, hm⟩ := h
  unfold mayB at hm
  split at hm
  · rename_i h0
    subst h0
    by_cases hl : a.block < w.heap.size
    · refine .inl ⟨a, rfl, hl, ?_⟩
      unfold mayB
      rw [if_pos rfl]
      exact ⟨hm.1, hm.2.1, hm.2.2.imp id fun x ⟨vs, hv⟩ => x ⟨vs, by rw [hw.byt _ ⟨vs, hv⟩]; exact hv⟩⟩
    · exact .inr ⟨rfl, a, rfl, by omega, hs, hm.2.2.resolve_left (by omega)⟩
  · rename_i h0
    have := hr g h0 _ hm
    exact .inl ⟨a, rfl, by omega, by unfold mayB; rw [if_neg h0]; exact hm⟩
theorem own_back {N : Nat} (hw : Wst E N w w') {g : Nat} {l : Loc} (h : ownL E N w' g l) : ownL E N w g l ∨ (g = 0 ∧ ∃ a, l = .cell a ∧ w.heap.size ≤ a.block ∧ a.block < w'.heap.size ∧ ¬ Byt E w' a.block) := by
  obtain ⟨h0, a, rfl, hn, hs, hb⟩ := h
  by_cases hl : a.block < w.heap.size
  · exact .inl ⟨h0, a, rfl, hn, hl, fun ⟨vs, hv⟩ => hb ⟨vs, by rw [hw.byt _ ⟨vs, hv⟩]; exact hv⟩⟩
  · exact .inr ⟨h0, a, rfl, by omega, hs, hb⟩
theorem touch_noRoom : (MemAct.ofEvent (⟨.mark .noRoom, false, true⟩ : Event)).touch? = none := rfl
/-- An own step's world. -/
theorem wst_own (hE : E.Ok) {N : Nat} {M F : World → Nat → Prop} {es : Array Event} (hN : E.N0 ≤ N) (hF : ∀ b, F w b → N ≤ b ∧ ¬ Byt E w b) (hl : E.Wg < w.heap.size) (h : DG E M F w w' es) : Wst E N w w' := by
  refine ⟨h.1.size, fun b hb _ hs => h.1.block b hs fun x => by have := (hF b x).1; omega, fun b hb => h.1.block b (byt_lt hb) fun x => (hF b x).2 hb, fun ⟨st, sm, x⟩ => ⟨st, sm, ?_⟩, ⟨h.1.os, h.1.output⟩⟩
  have : w'.heap[E.Wg]? = w.heap[E.Wg]? := h.1.block _ hl fun x => by have := (hF _ x).1; have := hE.low _ (.inl rfl); omega
  exact x.of_block this
theorem jw_same {σ : Gh} (h : JW E σ w) (hs : ∀ b, E.Sh b → w'.heap[b]? = w.heap[b]?) : JW E σ w' := by
  refine ⟨?_, ?_, ?_, fun c hc => ?_, h.Stn, fun k hk => ?_, h.Wg.of_block (hs _ (.inl rfl))⟩
  · rw [hs _ (.inr (.inl rfl))]; exact h.O
  · rw [hs _ (.inr (.inr (.inl rfl)))]; exact h.Q
  · rw [hs _ (.inr (.inr (.inr (.inl rfl))))]; exact h.Dn
  · rw [hs _ (.inr (.inr (.inr (.inr (.inl hc)))))]; exact h.St c hc
  · rw [hs _ (.inr (.inr (.inr (.inr (.inr ⟨k, hk, rfl⟩)))))]; exact h.Cr k hk
/-- The permissions behind an own step. -/
theorem pt_own (hE : E.Ok) {mine : Nat → Nat → Prop} {N : Nat} (hN : E.N0 ≤ N ∧ N ≤ w.heap.size) (hr : ∀ i, i ≠ 0 → ∀ b, mine i b → b < N ∧ ¬ E.Sh b ∧ ¬ E.Old b ∧ (b < E.N0 ∨ ¬ Byt E w b)) (hw : Wst E N w w')
    (h : PT (ShL E) (mayL E mine w) (ownL E N w) t) (hlow : ∀ op ∈ t, op.act.low w.heap.size) {M F : World → Nat → Prop} {es : Array Event} {fn : FuncId} {pos : String} (hd : DG E M F w w' es)
    (hM : ∀ b, M w b → b < w.heap.size → mayB E mine w i b) (hF : ∀ b, F w b → i = 0 ∧ N ≤ b ∧ ¬ Byt E w b) (hnew : i ≠ 0 → ∀ b, w.heap.size ≤ b → b < w'.heap.size → Byt E w' b) {S0 : Prop} :
    PT (ShL E) (mayL E mine w') (ownL E N w') (t ++ MemOp.ofEvents i fn pos es) ∧ (NS (MemOp.ofEvents i fn pos es) ∨ S0) := by
  have hnt : ∀ (j : Nat) a, touchAt t j = some a → ¬ ∃ ad : Addr, a.loc = .cell ad ∧ w.heap.size ≤ ad.block := by
    rintro j a ha ⟨ad, e, hs⟩
    obtain ⟨op, hop, hox⟩ := touch_of ha
    have hl := hlow op (Array.mem_of_getElem? hop)
    cases hact : op.act with
    | access ev =>
      rw [hact] at hox hl
      simp only [MemAct.touch?, Option.some.injEq] at hox
      subst hox
      simp only at e
      simp only [MemAct.low] at hl
      rw [e] at hl
      have : ad.block < w.heap.size := hl
      omega
    | mark m =>
      rw [hact] at hox hl
      cases m <;> simp only [MemAct.touch?, Option.some.injEq, reduceCtorEq] at hox
      · subst hox
        cases e
        have : ad.block < w.heap.size := hl
        omega
      · subst hox
        cases e
        have : ad.block < w.heap.size := hl
        omega
    | _ => rw [hact] at hox; simp [MemAct.touch?] at hox
  have S := soleL hE hN.1 hr
  have p := PT.step (New := fun l => ∃ ad : Addr, l = .cell ad ∧ w.heap.size ≤ ad.block) (g := i) (u := MemOp.ofEvents i fn pos es) S h hnt (fun g' l ⟨ad, e, hs⟩ ⟨ad', e', hs', _⟩ => by
      rw [e] at e'; cases e'; omega) (fun l ⟨ad, e, hs⟩ hsh => by
      rcases hsh with ⟨ad', e', hb⟩ | ⟨c, e'⟩
      · rw [e] at e'; cases e'
        have := hE.low _ (.inl hb)
        omega
      · rw [e] at e'; cases e') (fun op hop => by
      obtain ⟨e, he, rfl⟩ := Go.Conc.mem_ofEvents (g := i) (fn := fn) (pos := pos) (es := es) hop
      refine ⟨rfl, fun x hx => ?_⟩
      rcases hd.2 e he with ⟨a, wr', sy, rfl, hlt, hc⟩ | rfl
      · rw [ofEvent_cell0] at hx
        simp only [MemAct.touch?, Option.some.injEq, Bool.false_eq_true, if_false] at hx
        subst hx
        by_cases hs : w.heap.size ≤ a.block
        · exact .inr (.inr (.inl ⟨a, rfl, hs⟩))
        · rcases hc with hc | hc | ⟨hc, hwr⟩
          · exact absurd hc hs
          · have := hF _ hc
            exact .inr (.inl ⟨this.1, a, rfl, this.2.1, by omega, this.2.2⟩)
          · exact .inr (.inr (.inr ⟨⟨a, rfl, by omega, hM _ hc (by omega)⟩, hwr⟩))
      · rw [touch_noRoom] at hx; cases hx)
  refine ⟨?_, .inl fun op hop x hx => ?_⟩
  rotate_left
  · obtain ⟨e, he, rfl⟩ := Go.Conc.mem_ofEvents (g := i) (fn := fn) (pos := pos) (es := es) hop
    rcases hd.2 e he with ⟨a, wr', sy, rfl, hlt, hc⟩ | rfl
    · rw [ofEvent_cell0] at hx
      simp only [MemAct.touch?, Option.some.injEq] at hx
      subst hx
      dsimp only
      split <;> simp
    · rw [touch_noRoom] at hx; cases hx
  refine p.to (fun g' l hl => ?_) (fun g' l hl => ?_)
  · refine p.red g' l ?_
    rcases may_back hE hN hr hw hl with x | ⟨rfl, a, rfl, h1, h2, h3⟩
    · exact .inl x
    · by_cases h0 : i = 0
      · exact .inr ⟨h0.symm, a, rfl, h1⟩
      · exact absurd (hnew h0 _ h1 h2) h3
  · refine p.wr g' l ?_
    rcases own_back hw hl with x | ⟨rfl, a, rfl, h1, h2, h3⟩
    · exact .inl x
    · by_cases h0 : i = 0
      · exact .inr ⟨h0.symm, a, rfl, h1⟩
      · exact absurd (hnew h0 _ h1 h2) h3
/-- .. behind a step by sync operations: the heap is as long as it was. -/
theorem pt_sync (hE : E.Ok) {mine : Nat → Nat → Prop} {N : Nat} (hN : E.N0 ≤ N ∧ N ≤ w.heap.size) (hr : ∀ i, i ≠ 0 → ∀ b, mine i b → b < N ∧ ¬ E.Sh b ∧ ¬ E.Old b ∧ (b < E.N0 ∨ ¬ Byt E w b)) (hw : Wst E N w w') (hs : w'.heap.size = w.heap.size)
    (h : PT (ShL E) (mayL E mine w) (ownL E N w) t) (hu : ∀ op ∈ u, op.g = i ∧ ∀ x, op.act.touch? = some x → ShL E x.loc ∧ x.kind = .atomic) {S0 : Prop} : PT (ShL E) (mayL E mine w') (ownL E N w') (t ++ u) ∧ (NS u ∨ S0) := by
  have p := PT.app (soleL hE hN.1 hr) h (g := i) (u := u) fun op hop => ⟨(hu op hop).1, fun x hx => .inl ⟨((hu op hop).2 x hx).1, by rw [((hu op hop).2 x hx).2]; simp, fun e => by rw [((hu op hop).2 x hx).2] at e; cases e⟩⟩
  refine ⟨?_, .inl fun op hop x hx => by rw [((hu op hop).2 x hx).2]; simp⟩
  refine p.to (fun g' l hl => p.red g' l ?_) (fun g' l hl => p.wr g' l ?_)
  · rcases may_back hE hN hr hw hl with x | ⟨_, a, _, h1, h2, _⟩
    · exact x
    · omega
  · rcases own_back hw hl with x | ⟨_, a, _, h1, h2, _⟩
    · exact x
    · omega
theorem pt_mute (hE : E.Ok) {mine : Nat → Nat → Prop} {N : Nat} (hN : E.N0 ≤ N ∧ N ≤ w.heap.size) (hr : ∀ i, i ≠ 0 → ∀ b, mine i b → b < N ∧ ¬ E.Sh b ∧ ¬ E.Old b ∧ (b < E.N0 ∨ ¬ Byt E w b)) (hw : Wst E N w w') (hs : w'.heap.size = w.heap.size)
    (h : PT (ShL E) (mayL E mine w) (ownL E N w) t) (hu : ∀ op ∈ u, op.act.touch? = none) {S0 : Prop} : PT (ShL E) (mayL E mine w') (ownL E N w') (t ++ u) ∧ (NS u ∨ S0) := by
  have p := h.mute hu
  refine ⟨?_, .inl (.mute hu)⟩
  refine p.to (fun g' l hl => p.red g' l ?_) (fun g' l hl => p.wr g' l ?_)
  · rcases may_back hE hN hr hw hl with x | ⟨_, a, _, h1, h2, _⟩
    · exact x
    · omega
  · rcases own_back hw hl with x | ⟨_, a, _, h1, h2, _⟩
    · exact x
    · omega
end
end Go.Proofs.Ytiobhgemjbjipaa

/- How the invariant is kept: by an own step, by a step of one that leaves, by a special step. Conditions stand as premises. -/
namespace Go.Proofs.Ytiobhgemjbjipaa
open Go.Conc
open Go.ConcR (KK wgBlock WgAt stA smA rd wr mk DC0 deafBehind_one deafBehind_cons)
open Go.ConcN (WgLive upd upd_ne upd_same PermW sumTo sumTo_upd sumTo_congr)
set_option linter.unusedVariables false
set_option linter.unusedSimpArgs false
variable {C : Cx} {σ σ' : Gh} {f : Nat → Nat} {gs : Array Goroutine} {w w' : World} {t u : Trace} {i : Nat} {g g' : Goroutine} {E : PE} {es : Array Event} {sl : Option (Nat × Nat)}
/-- One goroutine's operations are appended. -/
theorem Tr.app (h : Tr C σ w t) (hj0 : 0 < C.E.j0) (hu : ∀ op ∈ u, op.g = i) (hsz : w.heap.size ≤ w'.heap.size) (pt : PT (ShL C.E) (mayL C.E σ'.mine w') (ownL C.E σ'.N w') (t ++ u)) (hd : ∀ j, j ≠ i → (σ'.tag j).dOf = (σ.tag j).dOf) (hdi : Deaf (t ++ u) i = (σ'.tag i).dOf)
    (hl : ∀ op ∈ u, op.act.low w'.heap.size) (hr : ∀ op ∈ u, op.act ≠ .mark (.release (stA C.E.Wg))) (ho : i = 0 ∨ (C.E.j0 ≤ i ∧ i ≤ C.E.j0 + C.E.n + 1) ∨ ∀ op ∈ u, op.act.touch? = none) (hc : PChain C σ' (t ++ u)) (hsd : SdT C.E C.iw (σ'.tag C.iw = .none_) (t ++ u)) : Tr C σ' w' (t ++ u) := by
  refine ⟨pt, fun j => ?_, seen_app (fun op hop => MemAct.low_mono hsz (h.low op hop)) hl, fun k hk => ?_, fun k a h' ha hg hm => ?_, fun k g hg h0 hj hcnt => ?_, hc, hsd⟩
  · by_cases e : j = i
    · subst e; exact hdi
    · rw [Deaf_other t (Ne.symm e) u hu, h.deaf, hd j e]
  · obtain ⟨op, hop, hox⟩ := Option.map_eq_some_iff.1 hk
    rcases getElem?_append_cases hop with ⟨_, hop'⟩ | ⟨_, hou⟩
    · exact h.norel k (by rw [act?_of hop', hox])
    · exact hr op hou hox
  · obtain ⟨op, hop, hox⟩ := touch_of ha
    rcases getElem?_append_cases hop with ⟨hi, hop'⟩ | ⟨_, hou⟩
    · rw [g?_old hi] at hg
      exact (h.old k a h' (by rw [touchAt_of hop']; exact hox) hg hm).imp id fun x => ⟨x.1, x.2.imp (·.app u) id⟩
    · have e : op.g = h' := by simpa [Trace.g?, hop] using hg
      rw [hu op hou] at e
      subst e
      rcases ho with rfl | ho | ho
      · exact .inr ⟨.inl hj0, .inl (by have := knows_own hop; rwa [hu op hou] at this)⟩
      · exact .inl ho
      · rw [ho op hou] at hox; cases hox
  · obtain ⟨x, hx, hm, hk⟩ := hcnt
    obtain ⟨op, hop, hox⟩ := touch_of hx
    rcases getElem?_append_cases hop with ⟨hi, hop'⟩ | ⟨_, hou⟩
    · rw [g?_old hi] at hg
      obtain ⟨j, hj0, hb⟩ := h.over k g hg h0 hj ⟨x, by simp only [Trace.act?, hop']; exact hox, hm, hk.imp id fun y => (heard_iff_old hi).1 y⟩
      have hjl : j < t.size := by
        unfold Trace.g? at hj0
        obtain ⟨z, hz, _⟩ := Option.map_eq_some_iff.1 hj0
        exact lt_size_of_getElem? hz
      exact ⟨j, by rw [g?_old hjl]; exact hj0, hb_app u hb⟩
    · have e : op.g = g := by simpa [Trace.g?, hop] using hg
      rw [hu op hou] at e
      subst e
      rcases ho with rfl | ho | ho
      · exact absurd rfl h0
      · omega
      · rw [ho op hou] at hox; cases hox
/-- Operations that touch nothing and are no marks, of whomever. -/
theorem Tr.quiet (h : Tr C σ w t) (hsz : w.heap.size ≤ w'.heap.size) (pt : PT (ShL C.E) (mayL C.E σ'.mine w') (ownL C.E σ'.N w') (t ++ u)) (hd : ∀ j, (σ'.tag j).dOf = (σ.tag j).dOf)
    (hl : ∀ op ∈ u, op.act.low w'.heap.size) (hr : ∀ op ∈ u, ∀ m, op.act ≠ .mark m) (hn : ∀ op ∈ u, op.act.touch? = none) (hc : PChain C σ' (t ++ u)) (hsd : SdT C.E C.iw (σ'.tag C.iw = .none_) (t ++ u)) : Tr C σ' w' (t ++ u) := by
  refine ⟨pt, fun j => ?_, seen_app (fun op hop => MemAct.low_mono hsz (h.low op hop)) hl, fun k hk => ?_, fun k a h' ha hg hm => ?_, fun k g hg h0 hj hcnt => ?_, hc, hsd⟩
  · rw [Go.ConcN.Deaf_still t j u fun op hop => ⟨hr op hop _, hr op hop _⟩, h.deaf, hd]
  · obtain ⟨op, hop, hox⟩ := Option.map_eq_some_iff.1 hk
    rcases getElem?_append_cases hop with ⟨_, hop'⟩ | ⟨_, hou⟩
    · exact h.norel k (by rw [act?_of hop', hox])
    · exact hr op hou _ hox
  · obtain ⟨op, hop, hox⟩ := touch_of ha
    rcases getElem?_append_cases hop with ⟨hi, hop'⟩ | ⟨_, hou⟩
    · rw [g?_old hi] at hg
      exact (h.old k a h' (by rw [touchAt_of hop']; exact hox) hg hm).imp id fun x => ⟨x.1, x.2.imp (·.app u) id⟩
    · rw [hn op hou] at hox; cases hox
  · obtain ⟨x, hx, hm, hk⟩ := hcnt
    obtain ⟨op, hop, hox⟩ := touch_of hx
    rcases getElem?_append_cases hop with ⟨hi, hop'⟩ | ⟨_, hou⟩
    · rw [g?_old hi] at hg
      obtain ⟨j, hj0, hb⟩ := h.over k g hg h0 hj ⟨x, by simp only [Trace.act?, hop']; exact hox, hm, hk.imp id fun y => (heard_iff_old hi).1 y⟩
      have hjl : j < t.size := by
        unfold Trace.g? at hj0
        obtain ⟨z, hz, _⟩ := Option.map_eq_some_iff.1 hj0
        exact lt_size_of_getElem? hz
      exact ⟨j, by rw [g?_old hjl]; exact hj0, hb_app u hb⟩
    · rw [hn op hou] at hox; cases hox
theorem KB.quiet {X Z Z' : Nat → Prop} (h : KB E t X Z) (hn : ∀ op ∈ u, op.act.touch? = none) (hZ : ∀ i, Z i → Z' i) : KB E (t ++ u) X Z' := by
  intro i a h' ha hg hX
  obtain ⟨op, hop, hox⟩ := touch_of ha
  rcases getElem?_append_cases hop with ⟨hi, hop'⟩ | ⟨hi, hou⟩
  · rw [g?_old hi] at hg
    rcases h i a h' (by rw [touchAt_of hop']; exact hox) hg hX with ⟨h1, h2, h3⟩ | hz
    · exact .inl ⟨h1, h2, fun x => h3 ((heard_iff_old hi).1 x)⟩
    · exact .inr (hZ i hz)
  · rw [hn op hou] at hox; cases hox
theorem Seal.quiet {x : MemAct} {X : Nat → Prop} (h : Seal E t x X) (hn : ∀ op ∈ u, op.act.touch? = none) : Seal E (t ++ u) x X := by
  obtain ⟨m, h1, h2, h3⟩ := h
  have hm := act_lt h1
  exact ⟨m, by rw [act_old hm]; exact h1, heard_old hm h2, h3.quiet hn fun i hi => hi.app u⟩
theorem Chain.quiet {rl : Nat → Prop} {ts dn co oc : Prop} (h : Chain E t rl ts dn co oc) (hn : ∀ op ∈ u, op.act.touch? = none) : Chain E (t ++ u) rl ts dn co oc :=
  ⟨fun h' hr => (h.T1 h' hr).quiet hn, fun x => (h.T2 x).quiet hn fun i hi => hi.app u, fun x => (h.T3 x).quiet hn, fun x => (h.T4 x).quiet hn fun i hi => hi.app u, fun x => (h.T5 x).quiet hn⟩
/-- Who is not born is so by the number of goroutines. -/
theorem Abs.none_iff {sz : Nat} (h : Abs C σ sz) : σ.tag C.iw = .none_ ↔ sz ≤ C.iw := by
  have r := h.role C.iw
  have := h.j0
  unfold Role at r
  rw [if_neg (by unfold Cx.iw; omega), if_neg (by unfold Cx.iw; omega)] at r
  by_cases hz : sz ≤ C.iw
  · rw [if_pos hz] at r; exact ⟨fun _ => hz, fun _ => r⟩
  · rw [if_neg hz, if_neg (Nat.lt_irrefl _), if_pos rfl] at r
    refine ⟨fun e => ?_, fun e => absurd e hz⟩
    rw [e] at r; cases r
theorem Abs.unborn {sz : Nat} (h : Abs C σ sz) (h' : Abs C σ' sz) : σ'.tag C.iw = .none_ ↔ σ.tag C.iw = .none_ := h'.none_iff.trans h.none_iff.symm
/-- The scheduler's questions turn nothing. -/
theorem Inv.at (I : Inv C σ f gs w t) (d : Nat) : Inv C σ f gs (w.at d) t := by
  refine ⟨I.ok, I.abs, ⟨fun j x hx => (I.phys.sit j x hx).rely (I.phys.cons0 I.abs j) (RM.at _ _ w d), I.phys.cond, I.phys.meet, jw_same I.phys.world fun _ _ => rfl, I.phys.m0, I.phys.ro, I.phys.nb⟩, ?_⟩
  exact ⟨I.tr.pt, I.tr.deaf, I.tr.low, I.tr.norel, I.tr.old, I.tr.over, I.tr.chain, I.tr.sd⟩
/-- A SPECIAL STEP of one goroutine: all that is to be shown. -/
theorem Inv.go (I : Inv C σ f gs w t) (hi : gs[i]? = some g) (hst : stepG C.P (i == 0) g w = .go g' w' es) {t' : Tag} {fi : Nat} (ab : Abs C σ' gs.size) (h1 : σ'.tag = upd σ.tag i t') (h2 : σ'.mine = σ.mine) (h3 : σ'.N = σ.N) (hw : Wst C.E σ.N w w')
    (hm : i ≠ 0 → ∀ b, ¬ C.E.Sh b → b < w.heap.size → w'.heap[b]? = w.heap[b]?) (hs : Sit C (σ.mine i) σ.N i fi g' w' t')
    (hk : ∀ j y, j ≠ i → gs[j]? = some y → (woken C.P g g' w' y).status = .blocked → Cond σ (σ.tag j) → Cond σ' (σ.tag j)) (hb : g'.status = .blocked → i ≠ 0 ∧ t'.isGot = false ∧ Cond σ' t') (hW : JW C.E σ' w')
    (pt : PT (ShL C.E) (mayL C.E σ.mine w') (ownL C.E σ.N w') (t ++ MemOp.ofEvents i g.frame.fn g.frame.place es) ∧ (NS (MemOp.ofEvents i g.frame.fn g.frame.place es) ∨ SdT C.E C.iw (σ.tag C.iw = .none_) (t ++ MemOp.ofEvents i g.frame.fn g.frame.place es))) (hd : deafBehind (σ.tag i).dOf es = t'.dOf) (hl : ∀ e ∈ es, (MemAct.ofEvent e).low w'.heap.size)
    (hr : ∀ e ∈ es, MemAct.ofEvent e ≠ .mark (.release (stA C.E.Wg))) (ho : i = 0 ∨ (C.E.j0 ≤ i ∧ i ≤ C.E.j0 + C.E.n + 1) ∨ ∀ e ∈ es, (MemAct.ofEvent e).touch? = none) (hc : PChain C σ' (t ++ MemOp.ofEvents i g.frame.fn g.frame.place es)) :
    ∃ gs' u, gs'.size = gs.size ∧ gs' = (gs.map (woken C.P g g' w')).setIfInBounds i g' ∧ runT C.P (crowd gs w sl) i = (.next (crowd gs' w' sl), u) ∧ Inv C σ' (upd f i fi) gs' w' (t ++ u) := by
  refine ⟨(gs.map (woken C.P g g' w')).setIfInBounds i g', MemOp.ofEvents i g.frame.fn g.frame.place es, by simp, rfl, runT_crowd_go hi hst, ⟨I.ok, by simpa using ab, I.phys.go I.abs hi h1 h2 h3 hw hm hs hk hb hW, ?_⟩⟩
  refine I.tr.app (σ' := σ') (i := i) I.abs.j0.1 (fun op hop => by obtain ⟨e, _, rfl⟩ := Go.Conc.mem_ofEvents (es := es) hop; rfl) hw.size (by rw [h2, h3]; exact pt.1) (fun j hj => by rw [h1, upd_ne _ _ hj]) (by rw [Deaf_own, I.tr.deaf, h1, upd_same]; exact hd)
    (fun op hop => by obtain ⟨e, he, rfl⟩ := Go.Conc.mem_ofEvents (es := es) hop; exact hl e he) (fun op hop => by obtain ⟨e, he, rfl⟩ := Go.Conc.mem_ofEvents (es := es) hop; exact hr e he) (ho.imp id fun x => x.imp id fun y op hop => by obtain ⟨e, he, rfl⟩ := Go.Conc.mem_ofEvents (es := es) hop; exact y e he) hc (pt.2.elim (fun x => I.tr.sd.app x (I.abs.unborn ab)) (·.to (I.abs.unborn ab)))
theorem wg_lt (I : Inv C σ f gs w t) : C.E.Wg < w.heap.size := (Array.getElem?_eq_some_iff.1 (show w.heap[C.E.Wg]? = some _ from I.phys.world.Wg)).1
/-- The roles by their places. -/
theorem Abs.kind {sz : Nat} (h : Abs C σ sz) (hi : i < sz) : i = 0 ∨ (i ≠ 0 ∧ i < C.E.j0 ∧ ∃ d, σ.tag i = .gone d) ∨ (C.E.j0 ≤ i ∧ i < C.iw ∧ (σ.tag i).way = true) ∨ (i = C.iw ∧ (σ.tag i).wtr = true) ∨ (i = C.ic ∧ (σ.tag i).clo = true) := by
  have r := h.role i
  have := h.j0
  unfold Role at r
  by_cases h0 : i = 0
  · exact .inl h0
  rw [if_neg h0] at r
  by_cases h1 : i < C.E.j0
  · rw [if_pos h1] at r; exact .inr (.inl ⟨h0, h1, r⟩)
  rw [if_neg h1, if_neg (by omega)] at r
  by_cases h2 : i < C.iw
  · rw [if_pos h2] at r; exact .inr (.inr (.inl ⟨by omega, h2, r⟩))
  rw [if_neg h2] at r
  by_cases h3 : i = C.iw
  · rw [if_pos h3] at r; exact .inr (.inr (.inr (.inl ⟨h3, r⟩)))
  rw [if_neg h3] at r
  have : i = C.ic := by unfold Cx.ic Cx.iw at *; omega
  exact .inr (.inr (.inr (.inr ⟨this, r⟩)))
/-- Whose touches are not in the chain. -/
theorem Inv.dirty (I : Inv C σ f gs w t) (hi : i < gs.size) (hn : ∀ d, σ.tag i ≠ .gone d) (hr : (σ.tag i).rel = false) : (¬ (C.E.j0 ≤ i ∧ i < C.E.j0 + C.E.n ∧ (σ.tag i).rel = true)) ∧ (σ.tag C.iw = .tshut → ¬ (C.E.j0 ≤ i ∧ i < C.E.j0 + C.E.n)) ∧ (σ.dc = true → ¬ (C.E.j0 ≤ i ∧ i ≤ C.E.j0 + C.E.n)) ∧
    (σ.tag C.ic = .cout → ¬ (C.E.j0 ≤ i ∧ i ≤ C.E.j0 + C.E.n)) ∧ (σ.oc = true → ¬ (C.E.j0 ≤ i ∧ i ≤ C.E.j0 + C.E.n + 1)) := by
  have n := I.abs.nums
  unfold Nums at n
  have i1 : (if C.iw < gs.size then 1 else 0) ≤ 1 := by split <;> omega
  have i2 : (if C.ic < gs.size then 1 else 0) ≤ 1 := by split <;> omega
  have e1 : σ.dc = true → σ.dc.toNat = 1 := fun x => by rw [x]; rfl
  have e2 : σ.oc = true → σ.oc.toNat = 1 := fun x => by rw [x]; rfl
  have hp : σ.tag C.iw = .tshut → 1 ≤ σ.sum gs.size Tag.past := fun x => by
    have hlt : C.iw < gs.size := by
      have r := I.abs.role C.iw
      unfold Role at r
      rw [x] at r
      have := I.abs.j0
      by_cases hz : gs.size ≤ C.iw
      · rw [if_neg (by unfold Cx.iw; omega), if_neg (by unfold Cx.iw; omega), if_pos hz] at r; cases r
      · omega
    have := le_sum σ Tag.past hlt
    rw [x] at this
    exact this
  have hco : σ.tag C.ic = .cout → 1 ≤ σ.sum gs.size Tag.co := fun x => by
    have hlt : C.ic < gs.size := by
      have r := I.abs.role C.ic
      unfold Role at r
      rw [x] at r
      have := I.abs.j0
      by_cases hz : gs.size ≤ C.ic
      · rw [if_neg (by unfold Cx.ic; omega), if_neg (by unfold Cx.ic; omega), if_pos hz] at r; cases r
      · omega
    have := le_sum σ Tag.co hlt
    rw [x] at this
    exact this
  have hcnt : ∀ φ, φ (σ.tag i) ≤ σ.sum gs.size φ := fun φ => le_sum σ φ hi
  have c1 := hcnt Tag.cnt
  have c2 := hcnt Tag.tt
  have c3 := hcnt Tag.cc
  refine ⟨by rw [hr]; simp, ?_⟩
  rcases I.abs.kind hi with rfl | ⟨h0, h1, d, hd⟩ | ⟨h1, h2, h3⟩ | ⟨h1, h2⟩ | ⟨h1, h2⟩
  · have := I.abs.j0
    exact ⟨fun _ => by omega, fun _ => by omega, fun _ => by omega, fun _ => by omega⟩
  · exact absurd hd (hn d)
  · have hc : 1 ≤ (σ.tag i).cnt := by
      revert h3 hr hn
      cases σ.tag i <;> simp [Tag.way, Tag.rel, Tag.cnt]
    refine ⟨fun x => ?_, fun x => ?_, fun x => ?_, fun x => ?_⟩
    · have := hp x; omega
    · have := e1 x; omega
    · have := hco x; omega
    · have := e2 x; omega
  · have hc : 1 ≤ (σ.tag i).tt := by
      revert h2 hn
      cases σ.tag i <;> simp [Tag.wtr, Tag.tt]
    unfold Cx.iw at h1
    refine ⟨fun x => by omega, fun x => ?_, fun x => ?_, fun x => ?_⟩
    · have := e1 x; omega
    · have := hco x; omega
    · have := e2 x; omega
  · have hc : 1 ≤ (σ.tag i).cc := by
      revert h2 hn
      cases σ.tag i <;> simp [Tag.clo, Tag.cc]
    unfold Cx.ic at h1
    refine ⟨fun x => by omega, fun x => by omega, fun x => by omega, fun x => ?_⟩
    have := e2 x; omega
end Go.Proofs.Ytiobhgemjbjipaa

/- Steps: an own one; one of one that leaves; one that turns the group's block alone. Conditions stand as premises. -/
namespace Go.Proofs.Ytiobhgemjbjipaa
open Go.Conc
open Go.ConcR (KK wgBlock WgAt stA smA rd wr mk DC0 deafBehind_one deafBehind_cons)
open Go.ConcN (WgLive upd upd_ne upd_same PermW sumTo sumTo_upd sumTo_congr)
set_option linter.unusedVariables false
set_option linter.unusedSimpArgs false
variable {C : Cx} {σ σ' : Gh} {f : Nat → Nat} {gs : Array Goroutine} {w w' : World} {t u : Trace} {i : Nat} {g g' : Goroutine} {E : PE} {es : Array Event} {sl : Option (Nat × Nat)}
/-- How many can run whose own count is nought. -/
def BB (gs : Array Goroutine) (f : Nat → Nat) : Nat := sumTo gs.size fun i => if (gs[i]?).any (fun g => g.status == .running) = true ∧ f i = 0 then 1 else 0
def meas (C : Cx) (σ : Gh) (f : Nat → Nat) (gs : Array Goroutine) : Nat × Nat × Nat := (σ.A C gs.size, sumTo gs.size f, BB gs f)
def Less : Nat × Nat × Nat → Nat × Nat × Nat → Prop := Prod.Lex (· < ·) (Prod.Lex (· < ·) (· < ·))
/-- The machine's step r keeps all, and the measure falls. -/
def Kept (C : Cx) (σ : Gh) (f : Nat → Nat) (gs : Array Goroutine) (t : Trace) (r : Stepped × Array MemOp) : Prop :=
  ∃ σ' f' gs' w' sl' u, r = (.next (crowd gs' w' sl'), u) ∧ Inv C σ' f' gs' w' (t ++ u) ∧ Less (meas C σ' f' gs') (meas C σ f gs)
theorem less_A {a a' : Nat} {b b' : Nat × Nat} (h : a' < a) : Less (a', b') (a, b) := .left _ _ h
theorem less_F {a a' : Nat} {b b' c c' : Nat} (ha : a' = a) (h : b' < b) : Less (a', b', c') (a, b, c) := by subst ha; exact .right _ (.left _ _ h)
theorem less_B {a a' : Nat} {b b' c c' : Nat} (ha : a' = a) (hb : b' = b) (h : c' < c) : Less (a', b', c') (a, b, c) := by subst ha hb; exact .right _ (.right _ h)
theorem sum_fuel {n x : Nat} (h : i < n) (hx : x < f i) : sumTo n (upd f i x) < sumTo n f := by
  have : sumTo n (upd f i x) + f i = sumTo n f + x := sumTo_upd f x id h
  omega
theorem Abs.notOld {sz : Nat} (h : Abs C σ sz) (hi : i < sz) (hg : ∀ d, σ.tag i ≠ .gone d) : i = 0 ∨ (C.E.j0 ≤ i ∧ i ≤ C.E.j0 + C.E.n + 1) := by
  have hj := h.j0
  unfold Cx.ic at hj
  rcases h.kind hi with h | ⟨_, _, d, hd⟩ | ⟨h, _⟩ | ⟨h, _⟩ | ⟨h, _⟩
  · exact .inl h
  · exact absurd hd (hg d)
  · exact .inr ⟨h, by omega⟩
  · exact .inr (by unfold Cx.iw at h; omega)
  · exact .inr (by unfold Cx.ic at h; omega)
theorem hush_nil {fn : FuncId} {pos : String} : Hush E t (MemOp.ofEvents i fn pos #[]) := by
  intro j op hj
  simp [MemOp.ofEvents] at hj
/-- An own step that says nothing. -/
theorem Inv.own1 (I : Inv C σ f gs w t) (hi : gs[i]? = some g) (hn : σ.tag i ≠ .none_) (hg : ∀ d, σ.tag i ≠ .gone d) (hsy : (σ.tag i).sayM = none) {n : Nat} (hf : f i = n + 2) (hst : stepG C.P (i == 0) g w = .go g' w' es) (hD : C.D (σ.mine i) σ.N i (σ.tag i) w w' es)
    (hs : Sit C (σ.mine i) σ.N i (n + 1) g' w' (σ.tag i)) : Kept C σ f gs t (runT C.P (crowd gs w sl) i) := by
  obtain ⟨M, F, hd, hF, hM, hnew, hrel⟩ := D_out hsy hD
  have hlt : i < gs.size := (Array.getElem?_eq_some_iff.1 hi).1
  have nb := I.phys.nb
  have hW : Wst C.E σ.N w w' := wst_own I.ok nb.1 (fun b x => (hF b x).2) (wg_lt I) hd
  have hsame : ∀ b, C.E.Sh b → w'.heap[b]? = w.heap[b]? := fun b hb => hd.1.block b (by have := I.ok.low b hb; omega) fun x => by have := (hF b x).2.1; have := I.ok.low b hb; omega
  have hev : ∀ e ∈ es, e.loc ≠ .mark .disable ∧ e.loc ≠ .mark .enable := fun e he => by
    rcases hd.2 e he with ⟨a, wr', sy, rfl, _⟩ | rfl <;> simp
  have hu0 : upd σ.tag i (σ.tag i) = σ.tag := by funext j; unfold upd; split <;> simp_all
  obtain ⟨gs', u, hsz, hgs, hr, I'⟩ := I.go (σ' := σ) (t' := σ.tag i) (fi := n + 1) (sl := sl) hi hst I.abs hu0.symm rfl rfl hW (fun h0 b _ hl => hd.1.block b hl fun x => h0 (hF b x).1) hs (fun _ _ _ _ _ x => x) (fun hb => by
      rcases hs.running hn hg with hr | ⟨_, _, h0, _⟩
      · rw [hr] at hb; cases hb
      · omega) (jw_same I.phys.world hsame)
    (pt_own I.ok nb I.phys.ro hW I.tr.pt I.tr.low hd (fun b hb hl => by
      unfold mayB
      rcases hM b hb with ⟨h0, hr⟩ | ⟨h0, hr⟩
      · rw [if_pos h0]; exact hr.2
      · rw [if_neg h0]; exact hr) hF hnew) (deafBehind_still hev _) (fun e he => by
      rcases hd.2 e he with ⟨a, wr', sy, rfl, hl, _⟩ | rfl
      · rw [ofEvent_cell0]; exact hl
      · trivial) (fun e he => by
      rcases hd.2 e he with ⟨a, wr', sy, rfl, hl, _⟩ | rfl
      · rw [ofEvent_cell0]; simp
      · show MemAct.mark .noRoom ≠ _
        simp) ((I.abs.notOld hlt hg).imp id .inl) (by
      refine Chain.app I.tr.chain (g := i) (fun op hop => by obtain ⟨e, _, rfl⟩ := Go.Conc.mem_ofEvents (es := es) hop; rfl) ?_
      by_cases hrl : (σ.tag i).rel = true
      · rw [(hrel hrl).1]; exact .inl hush_nil
      · exact .inr (I.dirty hlt hg (by simpa using hrl)))
  refine ⟨σ, _, gs', w', sl, u, hr, I', less_F (by rw [hsz]) ?_⟩
  rw [hsz]
  exact sum_fuel hlt (by omega)
/-- An own step that may say that the group's cells are touched. -/
theorem Inv.own2 (I : Inv C σ f gs w t) (hi : gs[i]? = some g) (hn : σ.tag i ≠ .none_) (hg : ∀ d, σ.tag i ≠ .gone d) {m : Addr → Mark} (hsy : (σ.tag i).sayM = some m) {n : Nat} (hf : f i = n + 2) (hst : stepG C.P (i == 0) g w = .go g' w' es) (hD : C.D (σ.mine i) σ.N i (σ.tag i) w w' es)
    (hs : Sit C (σ.mine i) σ.N i (n + 1) g' w' (σ.tag i)) : Kept C σ f gs t (runT C.P (crowd gs w sl) i) := by
  have hlt : i < gs.size := (Array.getElem?_eq_some_iff.1 hi).1
  have hrel : (σ.tag i).rel = false := by revert hsy; cases σ.tag i <;> simp [Tag.sayM, Tag.rel]
  have hD' : DS C.E m w w' es := by
    unfold Cx.D at hD
    rw [if_neg (by rw [hrel]; simp), hsy] at hD
    exact hD
  obtain ⟨rfl, hes⟩ := hD'
  have hm : m = Mark.read ∨ m = Mark.write := by
    revert hsy; cases σ.tag i <;> simp [Tag.sayM] <;> intro e <;> simp [e.symm]
  have who : (i = 0 ∧ σ.tag C.iw = .none_ ∧ m = Mark.read) ∨ (i = C.iw ∧ σ.tag C.iw ≠ .none_) := by
    have hk := I.abs.kind hlt
    have hj := I.abs.j0
    cases ht : σ.tag i <;> rw [ht] at hsy hk <;> simp only [Tag.sayM, reduceCtorEq, Option.some.injEq] at hsy
    · refine .inr ?_
      rcases hk with rfl | ⟨_, _, d, hd⟩ | ⟨_, _, h⟩ | ⟨rfl, h⟩ | ⟨_, h⟩
      · have r := I.abs.role 0
        unfold Role at r
        rw [if_pos rfl, ht] at r
        exact r.elim
      · cases hd
      · cases h
      · exact ⟨rfl, by rw [ht]; simp⟩
      · cases h
    · refine .inl ?_
      rcases hk with rfl | ⟨_, _, d, hd⟩ | ⟨_, _, h⟩ | ⟨rfl, h⟩ | ⟨_, h⟩
      · have r := I.abs.role 0
        unfold Role at r
        rw [if_pos rfl, ht] at r
        have r' : 1 ≤ _ ∧ _ ∧ gs.size + _ = C.iw := r
        exact ⟨rfl, I.abs.none_iff.2 (by omega), hsy.symm⟩
      · cases hd
      · cases h
      · cases h
      · cases h
  have htch : ∀ op ∈ MemOp.ofEvents i g.frame.fn g.frame.place es, op.g = i ∧ ∀ x, op.act.touch? = some x → ShL C.E x.loc ∧ x.kind = .said ∧ (m = Mark.read → x.write = false) := by
    intro op hop
    obtain ⟨e, he, rfl⟩ := Go.Conc.mem_ofEvents (es := es) hop
    obtain ⟨a, ha, rfl⟩ := hes e he
    refine ⟨rfl, fun x hx => ?_⟩
    rcases hm with rfl | rfl
    · have : some (⟨.cell a, false, .said⟩ : Touch) = some x := hx
      cases this
      exact ⟨.inl ⟨a, rfl, ha⟩, rfl, fun _ => rfl⟩
    · have : some (⟨.cell a, true, .said⟩ : Touch) = some x := hx
      cases this
      exact ⟨.inl ⟨a, rfl, ha⟩, rfl, fun e => by simpa using congrFun e a⟩
  have hu0 : upd σ.tag i (σ.tag i) = σ.tag := by funext j; unfold upd; split <;> simp_all
  have hW : Wst C.E σ.N w' w' := ⟨Nat.le_refl _, fun _ _ _ _ => rfl, fun _ _ => rfl, id, .refl _⟩
  have hwl := wg_lt I
  have pt : PT (ShL C.E) (mayL C.E σ.mine w') (ownL C.E σ.N w') (t ++ MemOp.ofEvents i g.frame.fn g.frame.place es) := by
    refine PT.app (soleL I.ok I.phys.nb.1 I.phys.ro) I.tr.pt (g := i) fun op hop => ⟨(htch op hop).1, fun x hx => ?_⟩
    obtain ⟨h1, h2, h3⟩ := (htch op hop).2 x hx
    refine .inl ⟨h1, by rw [h2]; simp, fun _ j a ha hl hk hw => ?_⟩
    have hsd := I.tr.sd j a ha hk (hl ▸ h1)
    rcases who with ⟨rfl, hb, hmr⟩ | ⟨rfl, hb⟩
    · exact (hsd.1 hb).1
    · exact hsd.2 hb
  have sd : SdT C.E C.iw (σ.tag C.iw = .none_) (t ++ MemOp.ofEvents i g.frame.fn g.frame.place es) := by
    intro j a ha hk hs'
    obtain ⟨op, hop, hox⟩ := touch_of ha
    rcases getElem?_append_cases hop with ⟨_, hop'⟩ | ⟨_, hou⟩
    · have := I.tr.sd j a (by rw [touchAt_of hop']; exact hox) hk hs'
      exact ⟨fun x => ⟨(this.1 x).1.app _, (this.1 x).2⟩, fun x => (this.2 x).app _⟩
    · have hkn := knows_own hop
      rw [(htch op hou).1] at hkn
      rcases who with ⟨rfl, hb, hmr⟩ | ⟨rfl, hb⟩
      · exact ⟨fun _ => ⟨hkn, ((htch op hou).2 a hox).2.2 hmr⟩, fun x => absurd hb x⟩
      · exact ⟨fun x => absurd x hb, fun _ => hkn⟩
  have hml : ∀ a : Addr, m a ≠ .disable ∧ m a ≠ .enable ∧ ∀ b, m a ≠ .release b := fun a => by rcases hm with rfl | rfl <;> simp
  obtain ⟨gs', u, hsz, hgs, hr, I'⟩ := I.go (σ' := σ) (t' := σ.tag i) (fi := n + 1) (sl := sl) hi hst I.abs hu0.symm rfl rfl hW (fun _ _ _ _ => rfl) hs (fun _ _ _ _ _ x => x) (fun hb => by
      rcases hs.running hn hg with hr | ⟨_, _, h0, _⟩
      · rw [hr] at hb; cases hb
      · omega) I.phys.world ⟨pt, .inr sd⟩ (deafBehind_still (fun e he => by
      obtain ⟨a, _, rfl⟩ := hes e he
      exact ⟨fun h => (hml a).1 (by simpa using h), fun h => (hml a).2.1 (by simpa using h)⟩) _) (fun e he => by
      obtain ⟨a, ha, rfl⟩ := hes e he
      rcases hm with rfl | rfl
      · show a.block < _; omega
      · show a.block < _; omega) (fun e he => by
      obtain ⟨a, _, rfl⟩ := hes e he
      show MemAct.mark (m a) ≠ _
      intro h
      exact (hml a).2.2 _ (by simpa using h)) ((I.abs.notOld hlt hg).imp id .inl) (by
      refine Chain.app I.tr.chain (g := i) (fun op hop => by obtain ⟨e, _, rfl⟩ := Go.Conc.mem_ofEvents (es := es) hop; rfl) ?_
      exact .inr (I.dirty hlt hg hrel))
  refine ⟨σ, _, gs', w', sl, u, hr, I', less_F (by rw [hsz]) ?_⟩
  rw [hsz]
  exact sum_fuel hlt (by omega)
/-- AN OWN STEP. -/
theorem Inv.own (I : Inv C σ f gs w t) (hi : gs[i]? = some g) (hn : σ.tag i ≠ .none_) (hg : ∀ d, σ.tag i ≠ .gone d) {n : Nat} (hf : f i = n + 2) (hst : stepG C.P (i == 0) g w = .go g' w' es) (hD : C.D (σ.mine i) σ.N i (σ.tag i) w w' es)
    (hs : Sit C (σ.mine i) σ.N i (n + 1) g' w' (σ.tag i)) : Kept C σ f gs t (runT C.P (crowd gs w sl) i) := by
  cases hsy : (σ.tag i).sayM with
  | none => exact I.own1 hi hn hg hsy hf hst hD hs
  | some m => exact I.own2 hi hn hg hsy hf hst hD hs
theorem Abs.gone {sz d d' : Nat} (h : Abs C σ sz) (hi : i < sz) (ht : σ.tag i = .gone d) : Abs C (σ.set i (.gone d')) sz ∧ (σ.set i (.gone d')).A C sz = σ.A C sz := by
  have q := sums_set σ ht (.gone d') hi C.E C.nn
  have n := h.nums
  have h0 : i ≠ 0 := by
    intro e; subst e
    have r := h.role 0
    unfold Role at r
    rw [if_pos rfl, ht] at r
    exact r
  have eA : (σ.set i (.gone d')).A C sz = (σ.set i (.gone d')).sum sz (Tag.rank C.E C.nn) + σ.cr := rfl
  simp only [Tag.cnt, Tag.sem, Tag.l1, Tag.l2, Tag.l3, Tag.past, Tag.pre, Tag.tt, Tag.cc, Tag.co, Tag.cd, Tag.cq, Tag.cs, Tag.op, Tag.rest, Tag.rank, Nat.add_zero] at q
  obtain ⟨q1, q2, q3, q4, q5, q6, q7, q8, q9, q10, q11, q12, q13, q14, q15, q16⟩ := q
  refine ⟨h.go hi rfl ?_ ?_ (fun _ _ _ _ x => x) (fun _ e => by cases e) (fun _ _ => ⟨rfl, rfl⟩) id ?_ ?_, by rw [eA, q16]; rfl⟩
  · have r := h.role i
    unfold Role at r ⊢
    rw [if_neg h0] at r ⊢
    split
    · exact ⟨d', rfl⟩
    · rename_i x
      rw [if_neg x] at r
      split
      · omega
      · rename_i y
        rw [if_neg y] at r
        split
        · rfl
        · rename_i z
          rw [if_neg z] at r
          split <;> rfl
  · rw [q1, q2, q3, q4, q5, q6, q7, q8, q9, q10, q11, q12, q13, q14, q15, upd_ne _ _ (Ne.symm h0)]
    exact n
  · intro k hk e
    have r := h.live k hk (by omega)
    rw [e, ht] at r
    exact r
  · intro k
    rw [upd_ne _ _ (Ne.symm h0)]
    exact h.had k
/-- A STEP OF ONE THAT LEAVES. -/
theorem Inv.gone (I : Inv C σ f gs w t) (hi : gs[i]? = some g) {d : Nat} (ht : σ.tag i = .gone d) (hr : g.status = .running) : Kept C σ f gs t (runT C.P (crowd gs w sl) i) := by
  have hlt : i < gs.size := (Array.getElem?_eq_some_iff.1 hi).1
  have hq : QuitsD C.P (f i) d g := by
    have := I.phys.sit i g hi
    rw [ht] at this
    exact this
  have h0 : i ≠ 0 := by
    intro e; subst e
    have r := I.abs.role 0
    unfold Role at r
    rw [if_pos rfl, ht] at r
    exact r
  cases hfi : f i with
  | zero => rw [hfi] at hq; rw [hq.1] at hr; cases hr
  | succ q =>
    rw [hfi] at hq
    rcases hq with ⟨hf, _⟩ | ⟨_, g', es, hm, hstp, hq'⟩
    · rw [hf] at hr; cases hr
    have hi0 : (i == 0) = false := by simp; omega
    have hsl : w.heap.size ≤ w.heap.size := Nat.le_refl _
    have hW : Wst C.E σ.N w w := ⟨hsl, fun _ _ _ _ => rfl, fun _ _ => rfl, id, .refl _⟩
    have hnt : ∀ op ∈ MemOp.ofEvents i g.frame.fn g.frame.place es, op.act.touch? = none := fun op hop => by
      obtain ⟨e, he, rfl⟩ := Go.Conc.mem_ofEvents (es := es) hop
      exact touch_mute (hm e he)
    have ab := I.abs.gone (d' := deafBehind d es) hlt ht
    obtain ⟨gs', u, hsz, hgs, hrn, I'⟩ := I.go (σ' := σ.set i (.gone (deafBehind d es))) (t' := .gone (deafBehind d es)) (fi := q) (sl := sl) hi (by rw [hi0]; exact hstp w) ab.1 rfl rfl rfl hW (fun _ _ _ _ => rfl) hq' (fun _ _ _ _ _ x => x)
      (fun hb => by rcases QuitsD.status hq' with x | x <;> rw [x] at hb <;> cases hb) (jw_same (σ := σ.set i _) ⟨I.phys.world.O, I.phys.world.Q, I.phys.world.Dn, I.phys.world.St, I.phys.world.Stn, I.phys.world.Cr, I.phys.world.Wg⟩ fun _ _ => rfl)
      (pt_mute I.ok I.phys.nb I.phys.ro hW rfl I.tr.pt hnt) (by rw [ht]; rfl) (fun e he => low_mute (hm e he) _) (fun e he h => by
        have := hm e he
        obtain ⟨loc, wr, sy⟩ := e
        cases loc with
        | mark m => cases m <;> simp_all [Event.mute, MemAct.ofEvent]
        | _ => simp_all [Event.mute]) (.inr (.inr fun e he => touch_mute (hm e he))) (by
        refine (Chain.quiet I.tr.chain hnt).to (fun x hx => .inl ⟨hx.1, hx.2.1, ?_⟩) (fun hx => .inl ?_) .inl (fun hx => .inl ?_) .inl
        · have h3 := hx.2.2
          by_cases e : x = i
          · subst e; rw [ht]; rfl
          · rw [show (σ.set i (.gone (deafBehind d es))).tag x = σ.tag x from upd_ne _ _ e] at h3; exact h3
        · by_cases e : C.iw = i
          · rw [show (σ.set i (.gone (deafBehind d es))).tag C.iw = .gone (deafBehind d es) by rw [e]; exact upd_same _ _ _] at hx; cases hx
          · rw [show (σ.set i (.gone (deafBehind d es))).tag C.iw = σ.tag C.iw from upd_ne _ _ e] at hx; exact hx
        · by_cases e : C.ic = i
          · rw [show (σ.set i (.gone (deafBehind d es))).tag C.ic = .gone (deafBehind d es) by rw [e]; exact upd_same _ _ _] at hx; cases hx
          · rw [show (σ.set i (.gone (deafBehind d es))).tag C.ic = σ.tag C.ic from upd_ne _ _ e] at hx; exact hx)
    refine ⟨_, _, gs', w, sl, u, hrn, I', less_F (by rw [hsz]; exact ab.2) ?_⟩
    rw [hsz]
    exact sum_fuel hlt (by omega)
end Go.Proofs.Ytiobhgemjbjipaa

/- Steps that turn the group's block alone: what is common to them. Conditions stand as premises. -/
namespace Go.Proofs.Ytiobhgemjbjipaa
open Go.Conc
open Go.ConcR (KK wgBlock WgAt stA smA rd wr mk DC0 deafBehind_one deafBehind_cons)
open Go.ConcN (WgLive upd upd_ne upd_same PermW sumTo sumTo_upd sumTo_congr sumTo_le)
set_option linter.unusedVariables false
set_option linter.unusedSimpArgs false
variable {C : Cx} {σ σ' : Gh} {f : Nat → Nat} {gs : Array Goroutine} {w w' : World} {t u : Trace} {i sz : Nat} {g g' : Goroutine} {E : PE} {es : Array Event} {sl : Option (Nat × Nat)} {mine : Nat → Prop} {N : Nat} {tg : Tag}
theorem Abs.isWay (h : Abs C σ sz) (hi : i < sz) (hw : (σ.tag i).way = true) (hg : ∀ d, σ.tag i ≠ .gone d) : ∃ k, k < C.E.n ∧ i = C.E.j0 + k := by
  rcases h.kind hi with rfl | ⟨_, _, d, hd⟩ | ⟨h1, h2, _⟩ | ⟨h1, h2⟩ | ⟨h1, h2⟩
  · have r := h.role 0
    unfold Role at r
    rw [if_pos rfl] at r
    revert r hw hg
    cases σ.tag 0 <;> simp [Tag.way]
  · exact absurd hd (hg d)
  · exact ⟨i - C.E.j0, by unfold Cx.iw at h2; omega, by omega⟩
  · revert h2 hw hg
    cases σ.tag i <;> simp [Tag.way, Tag.wtr]
  · revert h2 hw hg
    cases σ.tag i <;> simp [Tag.way, Tag.clo]
theorem Abs.isWtr (h : Abs C σ sz) (hi : i < sz) (hw : (σ.tag i).wtr = true) (hg : ∀ d, σ.tag i ≠ .gone d) : i = C.iw := by
  rcases h.kind hi with rfl | ⟨_, _, d, hd⟩ | ⟨h1, h2, h3⟩ | ⟨h1, h2⟩ | ⟨h1, h2⟩
  · have r := h.role 0
    unfold Role at r
    rw [if_pos rfl] at r
    revert r hw hg
    cases σ.tag 0 <;> simp [Tag.wtr]
  · exact absurd hd (hg d)
  · revert h3 hw hg
    cases σ.tag i <;> simp [Tag.way, Tag.wtr]
  · exact h1
  · revert h2 hw hg
    cases σ.tag i <;> simp [Tag.wtr, Tag.clo]
theorem Abs.isClo (h : Abs C σ sz) (hi : i < sz) (hw : (σ.tag i).clo = true) (hg : ∀ d, σ.tag i ≠ .gone d) : i = C.ic := by
  rcases h.kind hi with rfl | ⟨_, _, d, hd⟩ | ⟨h1, h2, h3⟩ | ⟨h1, h2⟩ | ⟨h1, h2⟩
  · have r := h.role 0
    unfold Role at r
    rw [if_pos rfl] at r
    revert r hw hg
    cases σ.tag 0 <;> simp [Tag.clo]
  · exact absurd hd (hg d)
  · revert h3 hw hg
    cases σ.tag i <;> simp [Tag.way, Tag.clo]
  · revert h2 hw hg
    cases σ.tag i <;> simp [Tag.wtr, Tag.clo]
  · exact h1
theorem Abs.isMain (h : Abs C σ sz) (hi : i < sz) (h1 : (σ.tag i).way = false) (h2 : (σ.tag i).wtr = false) (h3 : (σ.tag i).clo = false) : i = 0 := by
  rcases h.kind hi with rfl | ⟨_, _, d, hd⟩ | ⟨_, _, h4⟩ | ⟨_, h4⟩ | ⟨_, h4⟩
  · rfl
  · rw [hd] at h1; cases h1
  · rw [h1] at h4; cases h4
  · rw [h2] at h4; cases h4
  · rw [h3] at h4; cases h4
/-- From the script's words to a stage. -/
theorem sit_walk (hn : tg ≠ .none_) (hg : ∀ d, tg ≠ .gone d) {S : Goroutine → World → Prop} (h : Wk C.P (i == 0) (RM C.E mine) (C.D mine N i tg) S g w) (hS : ∀ g w, S g w → ∃ o, stopOf C mine N i tg o g w) : ∃ n, Sit C mine N i (n + 1) g w tg := by
  obtain ⟨n, h⟩ := h
  exact ⟨n, Sit.of (.inl ⟨n, rfl, Goes.weaken (fun _ _ x => x) (fun _ _ _ x => x) hS h⟩) hn hg⟩
theorem wk_WZ (hi : i ≠ 0) {S : Goroutine → World → Prop} (h : WZ C.P C.E mine S g w) : Wk C.P (i == 0) (RM C.E mine) (C.D mine N i tg) S g w := by
  obtain ⟨n, h⟩ := h
  have e : (i == 0) = false := by simpa using hi
  rw [e]
  refine ⟨n, Goes.weaken (fun _ _ x => x) (fun _ _ _ x => ?_) (fun _ _ x => x) h⟩
  unfold Cx.D
  split
  · exact x
  · cases tg.sayM with
    | some m => exact ds_dc0 x
    | none =>
      first
        | exact dm_dc0 x
        | (rw [if_neg hi]; exact dm_dc0 x)
        | (dsimp only; rw [if_neg hi]; exact dm_dc0 x)
theorem wk_WD (hi : i ≠ 0) (hr : tg.rel = false) {S : Goroutine → World → Prop} (h : WD C.P C.E mine S g w) (hsy : tg.sayM = none := by rfl) : Wk C.P (i == 0) (RM C.E mine) (C.D mine N i tg) S g w := by
  obtain ⟨n, h⟩ := h
  have e : (i == 0) = false := by simpa using hi
  rw [e]
  refine ⟨n, Goes.weaken (fun _ _ x => x) (fun _ _ _ x => ?_) (fun _ _ x => x) h⟩
  unfold Cx.D
  rw [if_neg (by rw [hr]; simp), hsy]
  dsimp only
  rw [if_neg hi]
  exact x
theorem wk_WZ0 (hm : mine = fun b => ¬ C.E.Sh b) {S : Goroutine → World → Prop} (h : WZ0 C.P C.E S g w) : Wk C.P ((0 : Nat) == 0) (RM C.E mine) (C.D mine N 0 tg) S g w := by
  obtain ⟨n, h⟩ := h
  subst hm
  refine ⟨n, Goes.weaken (fun _ _ x => x) (fun _ _ _ x => ?_) (fun _ _ x => x) h⟩
  unfold Cx.D
  split
  · exact x
  · cases tg.sayM with
    | some m => exact ds_dc0 x
    | none =>
      first
        | exact d0_dc0 x
        | (rw [if_pos rfl]; exact d0_dc0 x)
        | (dsimp only; rw [if_pos rfl]; exact d0_dc0 x)
theorem wk_W0 (hm : mine = fun b => ¬ C.E.Sh b) (hr : tg.rel = false) {S : Goroutine → World → Prop} (h : W0 C.P C.E N S g w) (hsy : tg.sayM = none := by rfl) : Wk C.P ((0 : Nat) == 0) (RM C.E mine) (C.D mine N 0 tg) S g w := by
  obtain ⟨n, h⟩ := h
  subst hm
  refine ⟨n, Goes.weaken (fun _ _ x => x) (fun _ _ _ x => ?_) (fun _ _ x => x) h⟩
  unfold Cx.D
  rw [if_neg (by rw [hr]; simp), hsy]
  dsimp only
  rw [if_pos rfl]
  exact x
/-- A stage that may say what it touches. -/
theorem wk_DS {main : Bool} {m : Addr → Mark} (e : (i == 0) = main) (hr : tg.rel = false) (hsy : tg.sayM = some m) {S : Goroutine → World → Prop} (h : Wk C.P main (RM C.E mine) (DS C.E m) S g w) : Wk C.P (i == 0) (RM C.E mine) (C.D mine N i tg) S g w := by
  obtain ⟨n, h⟩ := h
  rw [e]
  refine ⟨n, Goes.weaken (fun _ _ x => x) (fun _ _ _ x => ?_) (fun _ _ x => x) h⟩
  unfold Cx.D
  rw [if_neg (by rw [hr]; simp), hsy]
  exact x
/-- One tag turns: the chain. -/
theorem PChain.turn {t' : Tag} (h : Chain C.E t (fun g => C.E.j0 ≤ g ∧ g < C.E.j0 + C.E.n ∧ (σ.tag g).rel = true) (σ.tag C.iw = .tshut) (σ.dc = true) (σ.tag C.ic = .cout) (σ.oc = true)) (h1 : σ'.tag = upd σ.tag i t') (hdc : σ'.dc = σ.dc) (hoc : σ'.oc = σ.oc)
    (a : C.E.j0 ≤ i → i < C.E.j0 + C.E.n → t'.rel = true → (σ.tag i).rel = true ∨ Seal C.E t (.mark (.releaseMerge (stA C.E.Wg))) (fun g => g = i))
    (b : t' = .tshut → i = C.iw → KB C.E t (fun g => C.E.j0 ≤ g ∧ g < C.E.j0 + C.E.n) (Knows t (C.E.j0 + C.E.n))) (c : t' = .cout → i = C.ic → KB C.E t (fun g => C.E.j0 ≤ g ∧ g ≤ C.E.j0 + C.E.n) (Knows t (C.E.j0 + C.E.n + 1))) : PChain C σ' t := by
  refine h.to (fun x hx => ?_) (fun hx => ?_) (fun hx => .inl (hdc ▸ hx)) (fun hx => ?_) (fun hx => .inl (hoc ▸ hx))
  · rw [h1] at hx
    by_cases e : x = i
    · subst e
      rw [upd_same] at hx
      exact (a hx.1 hx.2.1 hx.2.2).imp (fun y => ⟨hx.1, hx.2.1, y⟩) id
    · rw [upd_ne _ _ e] at hx; exact .inl hx
  · rw [h1] at hx
    by_cases e : C.iw = i
    · rw [e, upd_same] at hx
      exact .inr (b hx e.symm)
    · rw [upd_ne _ _ e] at hx; exact .inl hx
  · rw [h1] at hx
    by_cases e : C.ic = i
    · rw [e, upd_same] at hx
      exact .inr (c hx e.symm)
    · rw [upd_ne _ _ e] at hx; exact .inl hx
/-- What a step on the group lists. -/
def WgEv (E : PE) (e : Event) : Prop := (∃ ad wr, e = ⟨.cell ad, wr, true⟩ ∧ ad.block = E.Wg) ∨ ∃ m, e = mk m ∧ (m = .disable ∨ m = .enable ∨ m = .releaseMerge (stA E.Wg) ∨ m = .acquire (stA E.Wg))
theorem wgEv_touch {e : Event} (h : WgEv E e) {x : Touch} (hx : (MemAct.ofEvent e).touch? = some x) : ShL E x.loc ∧ x.kind = .atomic := by
  rcases h with ⟨ad, wr', rfl, hb⟩ | ⟨m, rfl, hm⟩
  · rw [Go.ConcR.ofEvent_cell] at hx
    simp only [MemAct.touch?, if_true, Option.some.injEq] at hx
    subst hx
    exact ⟨.inl ⟨ad, rfl, hb⟩, rfl⟩
  · rcases hm with rfl | rfl | rfl | rfl <;> cases hx
/-- A STEP ON THE GROUP's BLOCK ALONE. -/
theorem Inv.wg (I : Inv C σ f gs w t) (hi : gs[i]? = some g) (hst : stepG C.P (i == 0) g w = .go g' w' es) {t' : Tag} {n : Nat} (ab : Abs C σ' gs.size ∧ σ'.A C gs.size < σ.A C gs.size) (h1 : σ'.tag = upd σ.tag i t') (h2 : σ'.mine = σ.mine ∧ σ'.N = σ.N) (h4 : σ'.oc = σ.oc ∧ σ'.qc = σ.qc ∧ σ'.dc = σ.dc ∧ σ'.sc = σ.sc ∧ σ'.buf = σ.buf)
    (hsz : w'.heap.size = w.heap.size) (ho : ∀ b, b ≠ C.E.Wg → w'.heap[b]? = w.heap[b]?) (hwg : WgAt C.E.ty C.E.Wg w' ((σ'.v : Int) * KK + σ'.wt) σ'.sm) (hs : Sit C (σ.mine i) σ.N i n g' w' t') (hes : ∀ e ∈ es, WgEv C.E e)
    (hk : ∀ j y, j ≠ i → gs[j]? = some y → (woken C.P g g' w' y).status = .blocked → Cond σ (σ.tag j) → Cond σ' (σ.tag j)) (hb : g'.status = .blocked → i ≠ 0 ∧ t'.isGot = false ∧ Cond σ' t') (hg : ∀ d, σ.tag i ≠ .gone d) (hd : deafBehind (σ.tag i).dOf es = t'.dOf)
    (hc : PChain C σ' (t ++ MemOp.ofEvents i g.frame.fn g.frame.place es)) (hoo : SO w w' := by exact ⟨rfl, rfl⟩) : Kept C σ f gs t (runT C.P (crowd gs w sl) i) := by
  have hlt : i < gs.size := (Array.getElem?_eq_some_iff.1 hi).1
  have hlw := wg_lt I
  have hW : Wst C.E σ.N w w' := ⟨by omega, fun b _ hns _ => ho b fun e => hns (.inl e), fun b hb => ho b fun e => Byt.sh I.ok I.phys.world (.inl e) hb, fun _ => ⟨_, _, hwg⟩, hoo⟩
  have jw : JW C.E σ' w' := by
    have J := I.phys.world
    have hE := I.ok
    obtain ⟨e1, e2, e3, e4, e5⟩ := h4
    refine ⟨?_, ?_, ?_, fun c hc => ?_, fun x => by rw [e4]; exact J.Stn x, fun k hk => ?_, hwg⟩
    · rw [e1, ho _ hE.wo.symm]; exact J.O
    · rw [e2, ho _ hE.wq.symm]; exact J.Q
    · rw [e3, ho _ hE.wd.symm]; exact J.Dn
    · rw [e4, ho _ (hE.st c hc).1]; exact J.St c hc
    · rw [e5, ho _ (hE.cr k hk).1]; exact J.Cr k hk
  obtain ⟨gs', u, hsz', hgs, hr, I'⟩ := I.go (σ' := σ') (t' := t') (fi := n) (sl := sl) hi hst ab.1 h1 h2.1 h2.2 hW (fun _ b hns _ => ho b fun e => hns (.inl e)) hs hk hb jw
    (pt_sync I.ok I.phys.nb I.phys.ro hW hsz I.tr.pt fun op hop => by
      obtain ⟨e, he, rfl⟩ := Go.Conc.mem_ofEvents (es := es) hop
      exact ⟨rfl, fun x hx => wgEv_touch (hes e he) hx⟩) hd (fun e he => by
      rcases hes e he with ⟨ad, wr', rfl, hb⟩ | ⟨m, rfl, hm⟩
      · rw [Go.ConcR.ofEvent_cell]
        show ad.block < _
        omega
      · rcases hm with rfl | rfl | rfl | rfl
        · trivial
        · trivial
        · show C.E.Wg < _; omega
        · show C.E.Wg < _; omega) (fun e he => by
      rcases hes e he with ⟨ad, wr', rfl, hb⟩ | ⟨m, rfl, hm⟩
      · rw [Go.ConcR.ofEvent_cell]; simp
      · show MemAct.mark m ≠ _
        rcases hm with rfl | rfl | rfl | rfl <;> simp) ((I.abs.notOld hlt hg).imp id .inl) hc
  exact ⟨σ', _, gs', w', sl, u, hr, I', less_A (by rw [hsz']; exact ab.2)⟩
/-- The group's number is small. -/
theorem Inv.v_lt (I : Inv C σ f gs w t) : σ.v < 2000000 := by
  have n := I.abs.nums
  unfold Nums at n
  have h : σ.sum gs.size Tag.cnt ≤ 1 * gs.size := sumTo_le fun j _ => by cases σ.tag j <;> simp [Tag.cnt]
  have := I.abs.j0
  have := I.ok.big
  unfold Cx.ic at *
  omega
theorem setCell_facts (w : World) (a : Addr) (v : Value) : (w.setCell a v).heap.size = w.heap.size ∧ ∀ b, b ≠ a.block → (w.setCell a v).heap[b]? = w.heap[b]? := ⟨(aside_setCell w a v).size, (aside_setCell w a v).block⟩
end Go.Proofs.Ytiobhgemjbjipaa

/- Steps on the WaitGroup's block, one theorem each. Conditions stand as premises. -/
namespace Go.Proofs.Ytiobhgemjbjipaa
open Go.Conc
open Go.ConcR (KK wgBlock WgAt stA smA rd wr mk DC0 deafBehind_one deafBehind_cons)
open Go.ConcN (WgLive upd upd_ne upd_same PermW sumTo sumTo_upd sumTo_congr sumTo_le)
set_option linter.unusedVariables false
set_option linter.unusedSimpArgs false
variable {C : Cx} {σ σ' : Gh} {f : Nat → Nat} {gs : Array Goroutine} {w w' : World} {t u : Trace} {i sz : Nat} {g g' : Goroutine} {E : PE} {es : Array Event} {sl : Option (Nat × Nat)} {mine : Nat → Prop} {N : Nat} {tg : Tag} {o : Offers}
theorem nb_walk {n : Nat} (hs : Sit C mine N i (n + 1) g w tg) (hn : tg ≠ .none_) (hg : ∀ d, tg ≠ .gone d) {X : Prop} : g.status = .blocked → X := fun hb => by
  rcases hs.running hn hg with hr | ⟨_, _, h0, _⟩
  · rw [hr] at hb; cases hb
  · omega
theorem nb_lv {d : Nat} (h : Lv C.P d g) {X : Prop} : g.status = .blocked → X := fun hb => by
  obtain ⟨q, h⟩ := h
  rcases QuitsD.status h with x | x <;> rw [x] at hb <;> cases hb
theorem ofEvents_mk {fn : FuncId} {pos : String} (m : Mark) : MemOp.ofEvents i fn pos #[mk m] = #[{ g := i, fn, pos, act := .mark m }] := by simp [MemOp.ofEvents, mk, MemAct.ofEvent]
theorem hush_mk {fn : FuncId} {pos : String} (m : Mark) (h : ∀ a, m ≠ .read a ∧ m ≠ .write a) : Hush E t (MemOp.ofEvents i fn pos #[mk m]) := by
  intro j op hj
  have : op ∈ MemOp.ofEvents i fn pos #[mk m] := Array.mem_of_getElem? hj
  rw [ofEvents_mk] at this
  have e : op = { g := i, fn, pos, act := .mark m } := by simpa using this
  subst e
  left
  cases m <;> first | rfl | exact absurd rfl (h _).1 | exact absurd rfl (h _).2
theorem hush_cells {fn : FuncId} {pos : String} (hd : 0 < Deaf t i) (h : ∀ e ∈ es, ∃ ad wr, e = ⟨.cell ad, wr, true⟩ ∧ ad.block = E.Wg) : Hush E t (MemOp.ofEvents i fn pos es) := by
  refine hush_of fun j e he => .inr ⟨h e (Array.mem_of_getElem? he), ?_⟩
  rw [deafBehind_still]
  · exact hd
  · intro e' he'
    obtain ⟨ad, wr', rfl, _⟩ := h e' (by
      obtain ⟨k, hk, rfl⟩ := Array.mem_iff_getElem.1 he'
      rw [Array.getElem_extract]
      exact Array.getElem_mem _)
    simp
theorem hush_sem {fn : FuncId} {pos : String} (hd : 0 < Deaf t i) : Hush E t (MemOp.ofEvents i fn pos (semEvents (smA E.Wg))) := by
  refine hush_of fun j e he => ?_
  have hj : j < 4 := by
    have := (Array.getElem?_eq_some_iff.1 he).1
    simpa [semEvents] using this
  match j, hj with
  | 0, _ => simp only [semEvents] at he; cases he; exact .inl rfl
  | 1, _ =>
    simp only [semEvents] at he; cases he
    exact .inr ⟨⟨_, _, rfl, rfl⟩, Nat.succ_pos _⟩
  | 2, _ =>
    simp only [semEvents] at he; cases he
    exact .inr ⟨⟨_, _, rfl, rfl⟩, Nat.succ_pos _⟩
  | 3, _ => simp only [semEvents] at he; cases he; exact .inl rfl
theorem own_ops {fn : FuncId} {pos : String} : ∀ op ∈ MemOp.ofEvents i fn pos es, op.g = i := fun op hop => by
  obtain ⟨e, _, rfl⟩ := Go.Conc.mem_ofEvents (es := es) hop; rfl
theorem ev_mk (m : Mark) (hm : m = .disable ∨ m = .enable ∨ m = .releaseMerge (stA E.Wg) ∨ m = .acquire (stA E.Wg)) : ∀ e ∈ #[mk m], WgEv E e := fun e he => .inr ⟨m, by simpa using he, hm⟩
theorem ev_rw' : ∀ e ∈ #[rd (stA E.Wg), wr (stA E.Wg)], ∃ ad wr, e = ⟨.cell ad, wr, true⟩ ∧ ad.block = E.Wg := fun e he => by
  simp only [List.mem_toArray, List.mem_cons, List.not_mem_nil, or_false] at he
  rcases he with rfl | rfl <;> exact ⟨_, _, rfl, rfl⟩
theorem ev_r' : ∀ e ∈ #[rd (stA E.Wg)], ∃ ad wr, e = ⟨.cell ad, wr, true⟩ ∧ ad.block = E.Wg := fun e he => by
  simp only [List.mem_toArray, List.mem_cons, List.not_mem_nil, or_false] at he
  subst he; exact ⟨_, _, rfl, rfl⟩
theorem ev_w' : ∀ e ∈ #[wr (stA E.Wg)], ∃ ad wr, e = ⟨.cell ad, wr, true⟩ ∧ ad.block = E.Wg := fun e he => by
  simp only [List.mem_toArray, List.mem_cons, List.not_mem_nil, or_false] at he
  subst he; exact ⟨_, _, rfl, rfl⟩
theorem ev_rw : ∀ e ∈ #[rd (stA E.Wg), wr (stA E.Wg)], WgEv E e := fun e he => .inl (ev_rw' e he)
theorem ev_r : ∀ e ∈ #[rd (stA E.Wg)], WgEv E e := fun e he => .inl (ev_r' e he)
theorem ev_w : ∀ e ∈ #[wr (stA E.Wg)], WgEv E e := fun e he => .inl (ev_w' e he)
theorem ev_sem : ∀ e ∈ semEvents (smA E.Wg), WgEv E e := fun e he => by
  simp only [semEvents, List.mem_toArray, List.mem_cons, List.not_mem_nil, or_false] at he
  rcases he with rfl | rfl | rfl | rfl
  · exact .inr ⟨.disable, rfl, .inl rfl⟩
  · exact .inl ⟨_, _, rfl, rfl⟩
  · exact .inl ⟨_, _, rfl, rfl⟩
  · exact .inr ⟨.enable, rfl, .inr (.inl rfl)⟩
theorem woken_sem {P : Program} {y : Goroutine} (hm : mayWake P g = true) (hg : g'.status = .running) (hy : y.status = .blocked) (ho : y.offers = none) : (woken P g g' w' y).status = .running := by
  simp [Go.Conc.woken, hm, hg, Goroutine.again, hy, ho]
theorem Inv.s_wrel (I : Inv C σ f gs w t) (hi : gs[i]? = some g) (ht : σ.tag i = .quit) (hs : stopOf C (σ.mine i) σ.N i (.quit) o g w) : Kept C σ f gs t (runT C.P (crowd gs w sl) i) := by
  have hlt := (Array.getElem?_eq_some_iff.1 hi).1
  have hng : ∀ d, σ.tag i ≠ .gone d := by rw [ht]; intro d e; cases e
  obtain ⟨k, hk, rfl⟩ := I.abs.isWay hlt (by rw [ht]; rfl) hng
  have h0 : C.E.j0 + k ≠ 0 := by have := I.abs.j0; omega
  have hi0 : (C.E.j0 + k == 0) = false := by simpa using h0
  simp only [stopOf] at hs
  obtain ⟨hrun, g', hst, hnx⟩ := hs
  obtain ⟨n', hsit⟩ := sit_walk (C := C) (mine := σ.mine _) (N := σ.N) (tg := .wdis) (by intro e; cases e) (by intro d e; cases e) (wk_WZ h0 hnx) (fun g w x => ⟨none, x⟩)
  refine I.wg hi (by rw [hi0]; exact hst) (I.abs.wrel hk hlt ht) rfl ⟨rfl, rfl⟩ ⟨rfl, rfl, rfl, rfl, rfl⟩ rfl (fun _ _ => rfl) I.phys.world.Wg hsit (ev_mk _ (.inr (.inr (.inl rfl)))) (fun _ _ _ _ _ x => x) (nb_walk hsit (by intro e; cases e) (by intro d e; cases e)) hng (by rw [ht]; rfl) ?_
  exact PChain.turn (Chain.app I.tr.chain own_ops (.inl (hush_mk _ (by simp)))) rfl rfl rfl (fun _ _ _ => .inr (by rw [ofEvents_mk]; exact seal_last rfl (by rw [I.tr.deaf, ht]; rfl) rfl (kb_self _ _ _))) (fun e _ => by cases e) (fun e _ => by cases e)
theorem Inv.s_wdis (I : Inv C σ f gs w t) (hi : gs[i]? = some g) (ht : σ.tag i = .wdis) (hs : stopOf C (σ.mine i) σ.N i (.wdis) o g w) : Kept C σ f gs t (runT C.P (crowd gs w sl) i) := by
  have hlt := (Array.getElem?_eq_some_iff.1 hi).1
  have hng : ∀ d, σ.tag i ≠ .gone d := by rw [ht]; intro d e; cases e
  obtain ⟨k, hk, rfl⟩ := I.abs.isWay hlt (by rw [ht]; rfl) hng
  have h0 : C.E.j0 + k ≠ 0 := by have := I.abs.j0; omega
  have hi0 : (C.E.j0 + k == 0) = false := by simpa using h0
  simp only [stopOf] at hs
  obtain ⟨hrun, g', hst, hnx⟩ := hs
  obtain ⟨n', hsit⟩ := sit_walk (C := C) (mine := σ.mine _) (N := σ.N) (tg := .wadd) (by intro e; cases e) (by intro d e; cases e) (wk_WZ h0 hnx) (fun g w x => ⟨none, x⟩)
  refine I.wg hi (by rw [hi0]; exact hst) (I.abs.wdis hk hlt ht) rfl ⟨rfl, rfl⟩ ⟨rfl, rfl, rfl, rfl, rfl⟩ rfl (fun _ _ => rfl) I.phys.world.Wg hsit (ev_mk _ (.inl rfl)) (fun _ _ _ _ _ x => x) (nb_walk hsit (by intro e; cases e) (by intro d e; cases e)) hng (by rw [ht]; rfl) ?_
  exact PChain.turn (Chain.app I.tr.chain own_ops (.inl (hush_mk _ (by simp)))) rfl rfl rfl (fun _ _ _ => .inl (by rw [ht]; rfl)) (fun e _ => by cases e) (fun e _ => by cases e)
theorem Inv.s_wadd (I : Inv C σ f gs w t) (hi : gs[i]? = some g) (ht : σ.tag i = .wadd) (hs : stopOf C (σ.mine i) σ.N i (.wadd) o g w) : Kept C σ f gs t (runT C.P (crowd gs w sl) i) := by
  have hlt := (Array.getElem?_eq_some_iff.1 hi).1
  have hng : ∀ d, σ.tag i ≠ .gone d := by rw [ht]; intro d e; cases e
  obtain ⟨k, hk, rfl⟩ := I.abs.isWay hlt (by rw [ht]; rfl) hng
  have h0 : C.E.j0 + k ≠ 0 := by have := I.abs.j0; omega
  have hi0 : (C.E.j0 + k == 0) = false := by simpa using h0
  simp only [stopOf] at hs
  obtain ⟨hrun, hs⟩ := hs
  have n := I.abs.nums
  unfold Nums at n
  have p := sums_le σ ht hlt C.E
  simp only [Tag.cnt, Tag.sem, Tag.l1, Tag.l2, Tag.l3, Tag.past, Tag.pre, Tag.tt] at p
  have i1 : (if C.iw < gs.size then 1 else 0) ≤ 1 := by split <;> omega
  have hvl := I.v_lt
  have hW := I.phys.world.Wg
  obtain ⟨v', hv⟩ : ∃ v', σ.v = v' + 1 := ⟨σ.v - 1, by omega⟩
  have hm : σ.sm = 0 := by omega
  rw [hv, hm] at hW
  obtain ⟨g', hst, hlast, hleave⟩ := hs v' σ.wt (by omega) (by omega) hW
  have hW' := hW.setSt (((v' : Nat) : Int) * KK + σ.wt)
  have hf := setCell_facts w (stA C.E.Wg) (.int .u64 ((v' : Int) * KK + σ.wt))
  have hu : 0 < Deaf t (C.E.j0 + k) := by rw [I.tr.deaf, ht]; exact Nat.one_pos
  by_cases hc : v' = 0 ∧ σ.wt = 1
  · obtain ⟨n', hsit⟩ := sit_walk (C := C) (mine := σ.mine _) (N := σ.N) (tg := .last1) (by intro e; cases e) (by intro d e; cases e) (wk_WZ h0 (hlast hc)) (fun g w x => ⟨none, x⟩)
    have hv0 := hc.1
    subst hv0
    refine I.wg hi (by rw [hi0]; exact hst) (I.abs.wlast hk hlt (by omega) hc.2 ht) rfl ⟨rfl, rfl⟩ ⟨rfl, rfl, rfl, rfl, rfl⟩ hf.1 hf.2 (by show WgAt _ _ _ (((0 : Nat) : Int) * KK + (σ.wt : Int)) (σ.sm : Nat); rw [hm]; exact hW') hsit ev_rw (fun _ _ _ _ _ x => x) (nb_walk hsit (by intro e; cases e) (by intro d e; cases e)) hng (by rw [ht]; rfl) ?_
    exact PChain.turn (Chain.app I.tr.chain own_ops (.inl (hush_cells hu ev_rw'))) rfl rfl rfl (fun _ _ _ => .inl (by rw [ht]; rfl)) (fun e _ => by cases e) (fun e _ => by cases e)
  · obtain ⟨q, hq⟩ := hleave hc
    refine I.wg hi (by rw [hi0]; exact hst) (I.abs.wleave hk hlt hv hc ht) (n := q) rfl ⟨rfl, rfl⟩ ⟨rfl, rfl, rfl, rfl, rfl⟩ hf.1 hf.2 (by show WgAt _ _ _ ((v' : Int) * KK + (σ.wt : Int)) (σ.sm : Nat); rw [hm]; exact hW') hq ev_rw (fun _ _ _ _ _ x => x) (nb_lv ⟨q, hq⟩) hng (by rw [ht]; rfl) ?_
    exact PChain.turn (Chain.app I.tr.chain own_ops (.inl (hush_cells hu ev_rw'))) rfl rfl rfl (fun _ _ _ => .inl (by rw [ht]; rfl)) (fun e _ => by cases e) (fun e _ => by cases e)
theorem Inv.s_wlast1 (I : Inv C σ f gs w t) (hi : gs[i]? = some g) (ht : σ.tag i = .last1) (hs : stopOf C (σ.mine i) σ.N i (.last1) o g w) : Kept C σ f gs t (runT C.P (crowd gs w sl) i) := by
  have hlt := (Array.getElem?_eq_some_iff.1 hi).1
  have hng : ∀ d, σ.tag i ≠ .gone d := by rw [ht]; intro d e; cases e
  obtain ⟨k, hk, rfl⟩ := I.abs.isWay hlt (by rw [ht]; rfl) hng
  have h0 : C.E.j0 + k ≠ 0 := by have := I.abs.j0; omega
  have hi0 : (C.E.j0 + k == 0) = false := by simpa using h0
  simp only [stopOf] at hs
  have n := I.abs.nums
  unfold Nums at n
  have p := sums_le σ ht hlt C.E
  simp only [Tag.cnt, Tag.sem, Tag.l1, Tag.l2, Tag.l3, Tag.past, Tag.pre, Tag.tt] at p
  have i1 : (if C.iw < gs.size then 1 else 0) ≤ 1 := by split <;> omega
  have hvl := I.v_lt
  have hW := I.phys.world.Wg
  have a1 : σ.v = 0 := by omega
  have a2 : σ.wt = 1 := by omega
  have a3 : σ.sm = 0 := by omega
  obtain ⟨g', hst, hnx⟩ := hs.2 (by rw [a1, a2, a3] at hW; simpa using hW)
  have hu : 0 < Deaf t (C.E.j0 + k) := by rw [I.tr.deaf, ht]; exact Nat.one_pos
  obtain ⟨n', hsit⟩ := sit_walk (C := C) (mine := σ.mine _) (N := σ.N) (tg := .last2) (by intro e; cases e) (by intro d e; cases e) (wk_WZ h0 hnx) (fun g w x => ⟨none, x⟩)
  refine I.wg hi (by rw [hi0]; exact hst) (I.abs.wlast1 hk hlt ht) rfl ⟨rfl, rfl⟩ ⟨rfl, rfl, rfl, rfl, rfl⟩ rfl (fun _ _ => rfl) (hW) hsit (ev_r) (fun _ _ _ _ _ x => x) (nb_walk hsit (by intro e; cases e) (by intro d e; cases e)) hng (by rw [ht]; rfl) ?_
  exact PChain.turn (Chain.app I.tr.chain own_ops (.inl (hush_cells hu ev_r'))) rfl rfl rfl (fun _ _ _ => .inl (by rw [ht]; rfl)) (fun e _ => by cases e) (fun e _ => by cases e)
theorem Inv.s_wlast2 (I : Inv C σ f gs w t) (hi : gs[i]? = some g) (ht : σ.tag i = .last2) (hs : stopOf C (σ.mine i) σ.N i (.last2) o g w) : Kept C σ f gs t (runT C.P (crowd gs w sl) i) := by
  have hlt := (Array.getElem?_eq_some_iff.1 hi).1
  have hng : ∀ d, σ.tag i ≠ .gone d := by rw [ht]; intro d e; cases e
  obtain ⟨k, hk, rfl⟩ := I.abs.isWay hlt (by rw [ht]; rfl) hng
  have h0 : C.E.j0 + k ≠ 0 := by have := I.abs.j0; omega
  have hi0 : (C.E.j0 + k == 0) = false := by simpa using h0
  simp only [stopOf] at hs
  have n := I.abs.nums
  unfold Nums at n
  have p := sums_le σ ht hlt C.E
  simp only [Tag.cnt, Tag.sem, Tag.l1, Tag.l2, Tag.l3, Tag.past, Tag.pre, Tag.tt] at p
  have i1 : (if C.iw < gs.size then 1 else 0) ≤ 1 := by split <;> omega
  have hvl := I.v_lt
  have hW := I.phys.world.Wg
  have a1 : σ.v = 0 := by omega
  have a2 : σ.wt = 1 := by omega
  have a3 : σ.sm = 0 := by omega
  obtain ⟨g', hst, hnx⟩ := hs.2 (by rw [a1, a2, a3] at hW; simpa using hW)
  have hf := setCell_facts w (stA C.E.Wg) (.int .u64 0)
  have hu : 0 < Deaf t (C.E.j0 + k) := by rw [I.tr.deaf, ht]; exact Nat.one_pos
  obtain ⟨n', hsit⟩ := sit_walk (C := C) (mine := σ.mine _) (N := σ.N) (tg := .last3) (by intro e; cases e) (by intro d e; cases e) (wk_WZ h0 hnx) (fun g w x => ⟨none, x⟩)
  refine I.wg hi (by rw [hi0]; exact hst) (I.abs.wlast2 hk hlt ht) rfl ⟨rfl, rfl⟩ ⟨rfl, rfl, rfl, rfl, rfl⟩ hf.1 hf.2 (by have := hW.setSt 0; rw [a3] at this; show WgAt _ _ _ ((σ.v : Int) * KK + ((0 : Nat) : Int)) (σ.sm : Nat); rw [a1, a3]; simpa using this) hsit (ev_w) (fun _ _ _ _ _ x => x) (nb_walk hsit (by intro e; cases e) (by intro d e; cases e)) hng (by rw [ht]; rfl) ?_
  exact PChain.turn (Chain.app I.tr.chain own_ops (.inl (hush_cells hu ev_w'))) rfl rfl rfl (fun _ _ _ => .inl (by rw [ht]; rfl)) (fun e _ => by cases e) (fun e _ => by cases e)
theorem Inv.s_wlast3 (I : Inv C σ f gs w t) (hi : gs[i]? = some g) (ht : σ.tag i = .last3) (hs : stopOf C (σ.mine i) σ.N i (.last3) o g w) : Kept C σ f gs t (runT C.P (crowd gs w sl) i) := by
  have hlt := (Array.getElem?_eq_some_iff.1 hi).1
  have hng : ∀ d, σ.tag i ≠ .gone d := by rw [ht]; intro d e; cases e
  obtain ⟨k, hk, rfl⟩ := I.abs.isWay hlt (by rw [ht]; rfl) hng
  have h0 : C.E.j0 + k ≠ 0 := by have := I.abs.j0; omega
  have hi0 : (C.E.j0 + k == 0) = false := by simpa using h0
  simp only [stopOf] at hs
  have n := I.abs.nums
  unfold Nums at n
  have p := sums_le σ ht hlt C.E
  simp only [Tag.cnt, Tag.sem, Tag.l1, Tag.l2, Tag.l3, Tag.past, Tag.pre, Tag.tt] at p
  have i1 : (if C.iw < gs.size then 1 else 0) ≤ 1 := by split <;> omega
  have hvl := I.v_lt
  have hW := I.phys.world.Wg
  have a1 : σ.v = 0 := by omega
  have a2 : σ.wt = 0 := by omega
  have a3 : σ.sm = 0 := by omega
  obtain ⟨hrun, hmw, hs⟩ := hs
  obtain ⟨g', hst, hgr, q, hq⟩ := hs (by rw [a1, a2, a3] at hW; simpa using hW)
  have hf := setCell_facts w (smA C.E.Wg) (.int .u32 1)
  have hu : 0 < Deaf t (C.E.j0 + k) := by rw [I.tr.deaf, ht]; exact Nat.one_pos
  refine I.wg hi (by rw [hi0]; exact hst) (I.abs.wlast3 hk hlt ht) (n := q) rfl ⟨rfl, rfl⟩ ⟨rfl, rfl, rfl, rfl, rfl⟩ hf.1 hf.2 (by have := hW.setSm 1; exact this) hq ev_sem ?_ (nb_lv ⟨q, hq⟩) hng (by rw [ht]; rfl) ?_
  · intro j y hj hy hb hcd
    by_cases e : σ.tag j = .tsem
    · exfalso
      have sj := I.phys.sit j y hy
      rw [e] at sj
      rcases sj.running (by intro e; cases e) (by intro d e; cases e) with hr | ⟨hbl, _, _, o', ho, hoff, _⟩
      · rw [woken_run hr] at hb; rw [hr] at hb; cases hb
      · obtain ⟨hon, _⟩ := ho
        rw [woken_sem hmw hgr hbl (hoff.trans hon)] at hb
        cases hb
    · revert hcd e
      cases σ.tag j <;> intro hcd e <;> first | exact absurd rfl e | exact hcd
  · exact PChain.turn (Chain.app I.tr.chain own_ops (.inl (hush_sem hu))) rfl rfl rfl (fun _ _ _ => .inl (by rw [ht]; rfl)) (fun e _ => by cases e) (fun e _ => by cases e)
theorem Inv.s_tdis (I : Inv C σ f gs w t) (hi : gs[i]? = some g) (ht : σ.tag i = .tdis) (hs : stopOf C (σ.mine i) σ.N i (.tdis) o g w) : Kept C σ f gs t (runT C.P (crowd gs w sl) i) := by
  have hlt := (Array.getElem?_eq_some_iff.1 hi).1
  have hng : ∀ d, σ.tag i ≠ .gone d := by rw [ht]; intro d e; cases e
  obtain rfl := I.abs.isWtr hlt (by rw [ht]; rfl) hng
  have h0 : C.iw ≠ 0 := by have := I.abs.j0; unfold Cx.iw; omega
  have hi0 : (C.iw == 0) = false := by simpa using h0
  simp only [stopOf] at hs
  obtain ⟨A, hA, hrun, g', hst, hnx⟩ := hs
  have hnx' : WZ C.P C.E (σ.mine C.iw) (TLoad C.P C.E (σ.mine C.iw) A) g' w := by
    obtain ⟨n₀, hA'⟩ := hA
    obtain ⟨n₁, hx⟩ := hnx
    exact ⟨_, Goes.thenGoes (RM.refl _ _) hA' hx⟩
  obtain ⟨n', hsit⟩ := sit_walk (C := C) (mine := σ.mine _) (N := σ.N) (tg := .tload) (by intro e; cases e) (by intro d e; cases e) (wk_WZ h0 hnx') (fun g w x => ⟨none, A, hA, x⟩)
  refine I.wg hi (by rw [hi0]; exact hst) (I.abs.tdis hlt ht) rfl ⟨rfl, rfl⟩ ⟨rfl, rfl, rfl, rfl, rfl⟩ rfl (fun _ _ => rfl) I.phys.world.Wg hsit (ev_mk _ (.inl rfl)) (fun _ _ _ _ _ x => x) (nb_walk hsit (by intro e; cases e) (by intro d e; cases e)) hng (by rw [ht]; rfl) ?_
  exact PChain.turn (Chain.app I.tr.chain own_ops (.inr (I.dirty hlt hng (by rw [ht]; rfl)))) rfl rfl rfl (fun _ _ e => by cases e) (fun e _ => by cases e) (fun e _ => by cases e)
theorem Inv.s_tload (I : Inv C σ f gs w t) (hi : gs[i]? = some g) (ht : σ.tag i = .tload) (hs : stopOf C (σ.mine i) σ.N i (.tload) o g w) : Kept C σ f gs t (runT C.P (crowd gs w sl) i) := by
  have hlt := (Array.getElem?_eq_some_iff.1 hi).1
  have hng : ∀ d, σ.tag i ≠ .gone d := by rw [ht]; intro d e; cases e
  obtain rfl := I.abs.isWtr hlt (by rw [ht]; rfl) hng
  have h0 : C.iw ≠ 0 := by have := I.abs.j0; unfold Cx.iw; omega
  have hi0 : (C.iw == 0) = false := by simpa using h0
  simp only [stopOf] at hs
  obtain ⟨A, hA, hrun, hs⟩ := hs
  have n := I.abs.nums
  unfold Nums at n
  have p := sums_le σ ht hlt C.E
  simp only [Tag.cnt, Tag.sem, Tag.l1, Tag.l2, Tag.l3, Tag.past, Tag.pre, Tag.tt] at p
  have i1 : (if C.iw < gs.size then 1 else 0) ≤ 1 := by split <;> omega
  have hvl := I.v_lt
  have hW := I.phys.world.Wg
  have a2 : σ.wt = 0 := by omega
  have a3 : σ.sm = 0 := by omega
  obtain ⟨g', hst, hz, hnz⟩ := hs σ.v (by omega) (by rw [a2, a3] at hW; simpa using hW)
  by_cases hv : σ.v = 0
  · obtain ⟨n', hsit⟩ := sit_walk (C := C) (mine := σ.mine _) (N := σ.N) (tg := .tena) (by intro e; cases e) (by intro d e; cases e) (wk_WZ h0 (hz hv)) (fun g w x => ⟨none, x⟩)
    refine I.wg hi (by rw [hi0]; exact hst) (I.abs.tzero hlt hv ht) rfl ⟨rfl, rfl⟩ ⟨rfl, rfl, rfl, rfl, rfl⟩ rfl (fun _ _ => rfl) hW hsit ev_r (fun _ _ _ _ _ x => x) (nb_walk hsit (by intro e; cases e) (by intro d e; cases e)) hng (by rw [ht]; rfl) ?_
    exact PChain.turn (Chain.app I.tr.chain own_ops (.inr (I.dirty hlt hng (by rw [ht]; rfl)))) rfl rfl rfl (fun _ _ e => by cases e) (fun e _ => by cases e) (fun e _ => by cases e)
  · obtain ⟨n', hsit⟩ := sit_walk (C := C) (mine := σ.mine _) (N := σ.N) (tg := .tcas σ.v) (by intro e; cases e) (by intro d e; cases e) (wk_WZ h0 (hnz hv)) (fun g w x => ⟨none, A, hA, x⟩)
    refine I.wg hi (by rw [hi0]; exact hst) (I.abs.tnon hlt hv ht) rfl ⟨rfl, rfl⟩ ⟨rfl, rfl, rfl, rfl, rfl⟩ rfl (fun _ _ => rfl) hW hsit ev_r (fun _ _ _ _ _ x => x) (nb_walk hsit (by intro e; cases e) (by intro d e; cases e)) hng (by rw [ht]; rfl) ?_
    exact PChain.turn (Chain.app I.tr.chain own_ops (.inr (I.dirty hlt hng (by rw [ht]; rfl)))) rfl rfl rfl (fun _ _ e => by cases e) (fun e _ => by cases e) (fun e _ => by cases e)
theorem Inv.s_tcas (I : Inv C σ f gs w t) (hi : gs[i]? = some g) {vs : Nat} (ht : σ.tag i = .tcas vs) (hs : stopOf C (σ.mine i) σ.N i (.tcas vs) o g w) : Kept C σ f gs t (runT C.P (crowd gs w sl) i) := by
  have hlt := (Array.getElem?_eq_some_iff.1 hi).1
  have hng : ∀ d, σ.tag i ≠ .gone d := by rw [ht]; intro d e; cases e
  obtain rfl := I.abs.isWtr hlt (by rw [ht]; rfl) hng
  have h0 : C.iw ≠ 0 := by have := I.abs.j0; unfold Cx.iw; omega
  have hi0 : (C.iw == 0) = false := by simpa using h0
  simp only [stopOf] at hs
  obtain ⟨A, hA, hrun, hs⟩ := hs
  have n := I.abs.nums
  unfold Nums at n
  have p := sums_le σ ht hlt C.E
  simp only [Tag.cnt, Tag.sem, Tag.l1, Tag.l2, Tag.l3, Tag.past, Tag.pre, Tag.tt] at p
  have i1 : (if C.iw < gs.size then 1 else 0) ≤ 1 := by split <;> omega
  have hvl := I.v_lt
  have hW := I.phys.world.Wg
  have a2 : σ.wt = 0 := by omega
  have a3 : σ.sm = 0 := by omega
  obtain ⟨hhit, hmiss⟩ := hs σ.v (by omega) (by rw [a2, a3] at hW; simpa using hW)
  by_cases hv : σ.v = vs
  · obtain ⟨g', hst, hnx⟩ := hhit hv
    have hf := setCell_facts w (stA C.E.Wg) (.int .u64 ((σ.v : Int) * KK + 1))
    obtain ⟨n', hsit⟩ := sit_walk (C := C) (mine := σ.mine _) (N := σ.N) (tg := .tsem) (by intro e; cases e) (by intro d e; cases e) (wk_DS hi0 rfl rfl hnx) (fun g w x => x)
    refine I.wg hi (by rw [hi0]; exact hst) (I.abs.thit hlt hv.symm ht) rfl ⟨rfl, rfl⟩ ⟨rfl, rfl, rfl, rfl, rfl⟩ hf.1 hf.2 (by have := hW.setSt ((σ.v : Int) * KK + 1); exact this) hsit ev_rw (fun _ _ _ _ _ x => x) (nb_walk hsit (by intro e; cases e) (by intro d e; cases e)) hng (by rw [ht]; rfl) ?_
    exact PChain.turn (Chain.app I.tr.chain own_ops (.inr (I.dirty hlt hng (by rw [ht]; rfl)))) rfl rfl rfl (fun _ _ e => by cases e) (fun e _ => by cases e) (fun e _ => by cases e)
  · obtain ⟨g', hst, hnx⟩ := hmiss hv
    have hnx' : WZ C.P C.E (σ.mine C.iw) (TLoad C.P C.E (σ.mine C.iw) A) g' w := by
      obtain ⟨n₀, hA'⟩ := hA
      obtain ⟨n₁, hx⟩ := hnx
      exact ⟨_, Goes.thenGoes (RM.refl _ _) hA' hx⟩
    obtain ⟨n', hsit⟩ := sit_walk (C := C) (mine := σ.mine _) (N := σ.N) (tg := .tload) (by intro e; cases e) (by intro d e; cases e) (wk_WZ h0 hnx') (fun g w x => ⟨none, A, hA, x⟩)
    refine I.wg hi (by rw [hi0]; exact hst) (I.abs.tmiss hlt (fun e => hv e.symm) ht) rfl ⟨rfl, rfl⟩ ⟨rfl, rfl, rfl, rfl, rfl⟩ rfl (fun _ _ => rfl) hW hsit ev_r (fun _ _ _ _ _ x => x) (nb_walk hsit (by intro e; cases e) (by intro d e; cases e)) hng (by rw [ht]; rfl) ?_
    exact PChain.turn (Chain.app I.tr.chain own_ops (.inr (I.dirty hlt hng (by rw [ht]; rfl)))) rfl rfl rfl (fun _ _ e => by cases e) (fun e _ => by cases e) (fun e _ => by cases e)
theorem Inv.s_tload2 (I : Inv C σ f gs w t) (hi : gs[i]? = some g) (ht : σ.tag i = .tload2) (hs : stopOf C (σ.mine i) σ.N i (.tload2) o g w) : Kept C σ f gs t (runT C.P (crowd gs w sl) i) := by
  have hlt := (Array.getElem?_eq_some_iff.1 hi).1
  have hng : ∀ d, σ.tag i ≠ .gone d := by rw [ht]; intro d e; cases e
  obtain rfl := I.abs.isWtr hlt (by rw [ht]; rfl) hng
  have h0 : C.iw ≠ 0 := by have := I.abs.j0; unfold Cx.iw; omega
  have hi0 : (C.iw == 0) = false := by simpa using h0
  simp only [stopOf] at hs
  have n := I.abs.nums
  unfold Nums at n
  have p := sums_le σ ht hlt C.E
  simp only [Tag.cnt, Tag.sem, Tag.l1, Tag.l2, Tag.l3, Tag.past, Tag.pre, Tag.tt] at p
  have i1 : (if C.iw < gs.size then 1 else 0) ≤ 1 := by split <;> omega
  have hvl := I.v_lt
  have hW := I.phys.world.Wg
  have a1 : σ.v = 0 := by omega
  have a2 : σ.wt = 0 := by omega
  have a3 : σ.sm = 0 := by omega
  obtain ⟨g', hst, hnx⟩ := hs.2 (by rw [a1, a2, a3] at hW; simpa using hW)
  obtain ⟨n', hsit⟩ := sit_walk (C := C) (mine := σ.mine _) (N := σ.N) (tg := .tena) (by intro e; cases e) (by intro d e; cases e) (wk_WZ h0 hnx) (fun g w x => ⟨none, x⟩)
  refine I.wg hi (by rw [hi0]; exact hst) (I.abs.tload2 hlt ht) rfl ⟨rfl, rfl⟩ ⟨rfl, rfl, rfl, rfl, rfl⟩ rfl (fun _ _ => rfl) (hW) hsit (ev_r) (fun _ _ _ _ _ x => x) (nb_walk hsit (by intro e; cases e) (by intro d e; cases e)) hng (by rw [ht]; rfl) ?_
  exact PChain.turn (Chain.app I.tr.chain own_ops (.inr (I.dirty hlt hng (by rw [ht]; rfl)))) rfl rfl rfl (fun _ _ e => by cases e) (fun e _ => by cases e) (fun e _ => by cases e)
theorem Inv.s_tena (I : Inv C σ f gs w t) (hi : gs[i]? = some g) (ht : σ.tag i = .tena) (hs : stopOf C (σ.mine i) σ.N i (.tena) o g w) : Kept C σ f gs t (runT C.P (crowd gs w sl) i) := by
  have hlt := (Array.getElem?_eq_some_iff.1 hi).1
  have hng : ∀ d, σ.tag i ≠ .gone d := by rw [ht]; intro d e; cases e
  obtain rfl := I.abs.isWtr hlt (by rw [ht]; rfl) hng
  have h0 : C.iw ≠ 0 := by have := I.abs.j0; unfold Cx.iw; omega
  have hi0 : (C.iw == 0) = false := by simpa using h0
  simp only [stopOf] at hs
  obtain ⟨hrun, g', hst, hnx⟩ := hs
  obtain ⟨n', hsit⟩ := sit_walk (C := C) (mine := σ.mine _) (N := σ.N) (tg := .tacq) (by intro e; cases e) (by intro d e; cases e) (wk_WZ h0 hnx) (fun g w x => ⟨none, x⟩)
  refine I.wg hi (by rw [hi0]; exact hst) (I.abs.tena hlt ht) rfl ⟨rfl, rfl⟩ ⟨rfl, rfl, rfl, rfl, rfl⟩ rfl (fun _ _ => rfl) I.phys.world.Wg hsit (ev_mk _ (.inr (.inl rfl))) (fun _ _ _ _ _ x => x) (nb_walk hsit (by intro e; cases e) (by intro d e; cases e)) hng (by rw [ht]; rfl) ?_
  exact PChain.turn (Chain.app I.tr.chain own_ops (.inr (I.dirty hlt hng (by rw [ht]; rfl)))) rfl rfl rfl (fun _ _ e => by cases e) (fun e _ => by cases e) (fun e _ => by cases e)
theorem Inv.s_tacq (I : Inv C σ f gs w t) (hi : gs[i]? = some g) (ht : σ.tag i = .tacq) (hs : stopOf C (σ.mine i) σ.N i (.tacq) o g w) : Kept C σ f gs t (runT C.P (crowd gs w sl) i) := by
  have hlt := (Array.getElem?_eq_some_iff.1 hi).1
  have hng : ∀ d, σ.tag i ≠ .gone d := by rw [ht]; intro d e; cases e
  obtain rfl := I.abs.isWtr hlt (by rw [ht]; rfl) hng
  have h0 : C.iw ≠ 0 := by have := I.abs.j0; unfold Cx.iw; omega
  have hi0 : (C.iw == 0) = false := by simpa using h0
  simp only [stopOf] at hs
  obtain ⟨hrun, g', hst, hnx⟩ := hs
  have n := I.abs.nums
  unfold Nums at n
  have p := sums_le σ ht hlt C.E
  simp only [Tag.cnt, Tag.sem, Tag.l1, Tag.l2, Tag.l3, Tag.past, Tag.pre, Tag.tt] at p
  have i1 : (if C.iw < gs.size then 1 else 0) ≤ 1 := by split <;> omega
  have hvl := I.v_lt
  have hW := I.phys.world.Wg
  obtain ⟨n', hsit⟩ := sit_walk (C := C) (mine := σ.mine _) (N := σ.N) (tg := .tshut) (by intro e; cases e) (by intro d e; cases e) (wk_WD h0 rfl hnx) (fun g w x => ⟨none, x⟩)
  refine I.wg hi (by rw [hi0]; exact hst) (I.abs.tacq hlt ht) rfl ⟨rfl, rfl⟩ ⟨rfl, rfl, rfl, rfl, rfl⟩ rfl (fun _ _ => rfl) I.phys.world.Wg hsit (ev_mk _ (.inr (.inr (.inr rfl)))) (fun _ _ _ _ _ x => x) (nb_walk hsit (by intro e; cases e) (by intro d e; cases e)) hng (by rw [ht]; rfl) ?_
  exact PChain.turn (Chain.app I.tr.chain own_ops (.inr (I.dirty hlt hng (by rw [ht]; rfl)))) rfl rfl rfl (fun _ _ e => by cases e) (fun _ _ => by
    rw [ofEvents_mk]
    intro j a h ha hg hx
    have hz : C.iw < gs.size := hlt
    have hj0 := I.abs.j0
    have hx1 := hx.1
    have hx2 := hx.2
    have hway : (σ.tag h).way = true := by
      have r := I.abs.role h
      unfold Role at r
      rw [if_neg (by omega), if_neg (by omega), if_neg (by unfold Cx.iw at hz; omega), if_pos (by unfold Cx.iw; omega)] at r
      exact r
    have hc : (σ.tag h).cnt = 0 := by
      have := le_sum σ Tag.cnt (show h < gs.size by unfold Cx.iw at hz; omega)
      omega
    have hrel : (σ.tag h).rel = true := by
      revert hway hc
      cases σ.tag h <;> simp [Tag.way, Tag.cnt, Tag.rel]
    exact seal_seen (y := { g := C.iw, fn := g.frame.fn, pos := g.frame.place, act := .mark (.acquire (stA C.E.Wg)) }) (I.tr.chain.T1 h ⟨hx.1, hx.2, hrel⟩) (fun m hm => notices_merged hm I.tr.norel rfl) (by show Deaf t C.iw = 0; rw [I.tr.deaf, ht]; rfl) rfl j a h ha hg rfl) (fun e _ => by cases e)
theorem Inv.s_mdis (I : Inv C σ f gs w t) (hi : gs[i]? = some g) {r : Nat} (ht : σ.tag i = .fdis r) (hs : stopOf C (σ.mine i) σ.N i (.fdis r) o g w) : Kept C σ f gs t (runT C.P (crowd gs w sl) i) := by
  have hlt := (Array.getElem?_eq_some_iff.1 hi).1
  have hng : ∀ d, σ.tag i ≠ .gone d := by rw [ht]; intro d e; cases e
  obtain rfl := I.abs.isMain hlt (by rw [ht]; rfl) (by rw [ht]; rfl) (by rw [ht]; rfl)
  simp only [stopOf] at hs
  obtain ⟨hrun, g', hst, hnx⟩ := hs
  obtain ⟨n', hsit⟩ := sit_walk (C := C) (mine := σ.mine _) (N := σ.N) (tg := .fadd r) (by intro e; cases e) (by intro d e; cases e) (wk_WZ0 I.phys.m0 hnx) (fun g w x => ⟨none, x⟩)
  refine I.wg hi (by exact hst) (I.abs.mdis hlt ht) rfl ⟨rfl, rfl⟩ ⟨rfl, rfl, rfl, rfl, rfl⟩ rfl (fun _ _ => rfl) I.phys.world.Wg hsit (ev_mk _ (.inl rfl)) (fun _ _ _ _ _ x => x) (nb_walk hsit (by intro e; cases e) (by intro d e; cases e)) hng (by rw [ht]; rfl) ?_
  exact PChain.turn (Chain.app I.tr.chain own_ops (.inr (I.dirty hlt hng (by rw [ht]; rfl)))) rfl rfl rfl (fun _ _ e => by cases e) (fun e _ => by cases e) (fun e _ => by cases e)
theorem Inv.s_madd (I : Inv C σ f gs w t) (hi : gs[i]? = some g) {r : Nat} (ht : σ.tag i = .fadd r) (hs : stopOf C (σ.mine i) σ.N i (.fadd r) o g w) : Kept C σ f gs t (runT C.P (crowd gs w sl) i) := by
  have hlt := (Array.getElem?_eq_some_iff.1 hi).1
  have hng : ∀ d, σ.tag i ≠ .gone d := by rw [ht]; intro d e; cases e
  obtain rfl := I.abs.isMain hlt (by rw [ht]; rfl) (by rw [ht]; rfl) (by rw [ht]; rfl)
  simp only [stopOf] at hs
  have n := I.abs.nums
  unfold Nums at n
  have p := sums_le σ ht hlt C.E
  simp only [Tag.cnt, Tag.sem, Tag.l1, Tag.l2, Tag.l3, Tag.past, Tag.pre, Tag.tt] at p
  have i1 : (if C.iw < gs.size then 1 else 0) ≤ 1 := by split <;> omega
  have hvl := I.v_lt
  have hW := I.phys.world.Wg
  have hr := I.abs.role 0
  unfold Role at hr
  rw [if_pos rfl, ht] at hr
  simp only [Cx.iw] at hr
  have i0 : (if C.iw < gs.size then 1 else 0) = 0 := if_neg (by unfold Cx.iw; omega)
  have a2 : σ.wt = 0 := by omega
  have a3 : σ.sm = 0 := by omega
  obtain ⟨g', hst, hnx⟩ := hs.2 σ.v (by omega) (by rw [a2, a3] at hW; simpa using hW)
  have hf := setCell_facts w (stA C.E.Wg) (.int .u64 (((σ.v + 1 : Nat) : Int) * KK))
  obtain ⟨n', hsit⟩ := sit_walk (C := C) (mine := σ.mine _) (N := σ.N) (tg := .fena r) (by intro e; cases e) (by intro d e; cases e) (wk_DS (i := 0) (main := true) rfl rfl rfl (by rw [I.phys.m0]; exact hnx)) (fun g w x => ⟨none, x⟩)
  refine I.wg hi (by exact hst) (I.abs.madd hlt ht) rfl ⟨rfl, rfl⟩ ⟨rfl, rfl, rfl, rfl, rfl⟩ hf.1 hf.2 (by have := hW.setSt (((σ.v + 1 : Nat) : Int) * KK); show WgAt _ _ _ (((σ.v + 1 : Nat) : Int) * KK + (σ.wt : Int)) (σ.sm : Nat); rw [a2]; simpa using this) hsit (ev_rw) (fun _ _ _ _ _ x => x) (nb_walk hsit (by intro e; cases e) (by intro d e; cases e)) hng (by rw [ht]; rfl) ?_
  exact PChain.turn (Chain.app I.tr.chain own_ops (.inr (I.dirty hlt hng (by rw [ht]; rfl)))) rfl rfl rfl (fun _ _ e => by cases e) (fun e _ => by cases e) (fun e _ => by cases e)
theorem Inv.s_mena (I : Inv C σ f gs w t) (hi : gs[i]? = some g) {r : Nat} (ht : σ.tag i = .fena r) (hs : stopOf C (σ.mine i) σ.N i (.fena r) o g w) : Kept C σ f gs t (runT C.P (crowd gs w sl) i) := by
  have hlt := (Array.getElem?_eq_some_iff.1 hi).1
  have hng : ∀ d, σ.tag i ≠ .gone d := by rw [ht]; intro d e; cases e
  obtain rfl := I.abs.isMain hlt (by rw [ht]; rfl) (by rw [ht]; rfl) (by rw [ht]; rfl)
  simp only [stopOf] at hs
  obtain ⟨hrun, g', hst, hnx⟩ := hs
  obtain ⟨n', hsit⟩ := sit_walk (C := C) (mine := σ.mine _) (N := σ.N) (tg := .fgo r) (by intro e; cases e) (by intro d e; cases e) (wk_W0 I.phys.m0 rfl hnx) (fun g w x => ⟨none, x⟩)
  refine I.wg hi (by exact hst) (I.abs.mena hlt ht) rfl ⟨rfl, rfl⟩ ⟨rfl, rfl, rfl, rfl, rfl⟩ rfl (fun _ _ => rfl) I.phys.world.Wg hsit (ev_mk _ (.inr (.inl rfl))) (fun _ _ _ _ _ x => x) (nb_walk hsit (by intro e; cases e) (by intro d e; cases e)) hng (by rw [ht]; rfl) ?_
  exact PChain.turn (Chain.app I.tr.chain own_ops (.inr (I.dirty hlt hng (by rw [ht]; rfl)))) rfl rfl rfl (fun _ _ e => by cases e) (fun e _ => by cases e) (fun e _ => by cases e)
end Go.Proofs.Ytiobhgemjbjipaa
