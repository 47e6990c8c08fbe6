/- A way's whole script, its tail (Done) being given. Conditions stand as premises. -/
import Derived.Test.YtiobhgemjbjipaaPmPumpWayC
set_option linter.unusedSimpArgs false
set_option linter.unusedVariables false
namespace Go.Proofs.Ytiobhgemjbjipaa
open Go.Conc Go.RowKit
theorem Goes.andGoes {P : Program} {main : Bool} {R : World → World → Prop} {D : World → World → Array Event → Prop} {S : Goroutine → World → Prop} {X : World → Prop} (hR : ∀ a b, R a b → X a → X b) (hD : ∀ a b es, D a b es → X a → X b) :
    ∀ {n : Nat} {g : Goroutine} {w : World}, Goes P main R D S n g w → X w → Goes P main R D (fun g w => S g w ∧ X w) n g w
  | 0, _, _, h, hx => fun w₁ h₁ => ⟨h w₁ h₁, hR _ _ h₁ hx⟩
  | n + 1, g, w, h, hx => by
    rcases h with h | ⟨hs, h⟩
    · exact .inl fun w₁ h₁ => ⟨h w₁ h₁, hR _ _ h₁ hx⟩
    · refine .inr ⟨hs, fun w₁ h₁ => ?_⟩
      have := h w₁ h₁
      have hx₁ := hR _ _ h₁ hx
      revert this
      cases stepG P main g w₁ <;> simp only [GStep.goes, imp_self]
      exact fun ⟨d, x⟩ => ⟨d, Goes.andGoes hR hD x (hD _ _ _ d hx₁)⟩
/-- What is fixed of the call's numbers; MB v bs: message v holds the bytes bs. -/
structure EW (E : PE) (MB : Value → List Int → Prop) : Prop where
  zB : E.zB = .slice none 0 0
  zG : E.zG = .agg #[.int .i64 0, .slice none 0 0]
  zQ : E.zQ = .bool false
  by_ : E.by_ = 5
  fits : ∀ k v x w, E.Fits k v x w ↔ ∃ bs V, MB v bs ∧ x = .agg #[.int .i64 (k : Int), V] ∧ Msg (BytN E) V bs w
/-- The messages of a row can be read. -/
def Held (Mine : Nat → Prop) (MB : Value → List Int → Prop) (l : List Value) (w : World) : Prop := ∀ v ∈ l, ∃ bs, MB v bs ∧ bs.length ≤ 140737488355328 ∧ Msg (fun _ => Mine) v bs w
variable {E : PE} {Mine : Nat → Prop} {MB : Value → List Int → Prop} {i c o q g : Addr} {k : Nat} {w : World}
theorem Held.rm {l : List Value} {w₁ : World} (h : Held Mine MB l w) (hr : RM E Mine w w₁) : Held Mine MB l w₁ := fun v hv => by
  obtain ⟨bs, h1, h2, h3⟩ := h v hv
  exact ⟨bs, h1, h2, h3.rm hr⟩
theorem Held.dm {l : List Value} {w₁ : World} {es : Array Event} (h : Held Mine MB l w) (hd : DM E Mine w w₁ es) : Held Mine MB l w₁ := fun v hv => by
  obtain ⟨bs, h1, h2, h3⟩ := h v hv
  exact ⟨bs, h1, h2, h3.grow hd.1.1.size fun b hl => hd.1.1.block b hl id⟩
/-- .. and the group's block is there. -/
def HL (E : PE) (Mine : Nat → Prop) (MB : Value → List Int → Prop) (l : List Value) (w : World) : Prop := Held Mine MB l w ∧ Go.ConcN.WgLive E.ty E.Wg w
theorem live_dm {w w₁ : World} {es : Array Event} (h : Go.ConcN.WgLive E.ty E.Wg w) (hd : DM E Mine w w₁ es) : Go.ConcN.WgLive E.ty E.Wg w₁ := by
  obtain ⟨st, sm, h⟩ := h
  exact ⟨st, sm, h.of_block (hd.1.1.block _ (Array.getElem?_eq_some_iff.1 (show w.heap[E.Wg]? = some _ from h)).1 id)⟩
theorem HL.rm {l : List Value} {w₁ : World} (h : HL E Mine MB l w) (hr : RM E Mine w w₁) : HL E Mine MB l w₁ := ⟨h.1.rm hr, hr.live h.2⟩
theorem HL.dm {l : List Value} {w₁ : World} {es : Array Event} (h : HL E Mine MB l w) (hd : DM E Mine w w₁ es) : HL E Mine MB l w₁ := ⟨h.1.dm hd, live_dm h.2 hd⟩
/-- THE WAY AT ITS FIRST SELECT: whatever its row still has. -/
theorem way_sel1 (W : EW E MB) (hn0 : E.N0 ≤ i.block) (hdone : ∃ n, ∀ w, KW Mine i c o q g k (E.Cr k) E.O E.Q w → Go.ConcN.WgLive E.ty E.Wg w → Goes Try.prog false (RM E Mine) (DM E Mine) (WRel Try.prog E Mine) n (gDone i c o q g k (E.Cr k) E.O E.Q) w) :
    ∀ (l : List Value) (J : Nat → Value) (w : World), KW Mine i c o q g k (E.Cr k) E.O E.Q w → HL E Mine MB l w → WSel1 Try.prog E Mine k l (gSel1 i c o q g k (E.Cr k) E.O E.Q J) w := by
  obtain ⟨nd, hdone⟩ := hdone
  have quit : ∀ {a : Goroutine} {w : World}, Comes E Mine i c o q g k (E.Cr k) E.O E.Q (fun a _ => a = gDone i c o q g k (E.Cr k) E.O E.Q) a w → Go.ConcN.WgLive E.ty E.Wg w → WQuit Try.prog E Mine a w := by
    rintro a w ⟨n, h⟩ hl
    exact ⟨_, Goes.thenGoes (RM.refl _ _) (fun a w hx => by obtain ⟨⟨rfl, hk⟩, hv⟩ := hx; exact hdone w hk hv) (Goes.andGoes (X := fun w => Go.ConcN.WgLive E.ty E.Wg w) (fun _ _ h x => h.live x) (fun _ _ _ h x => live_dm x h) h hl)⟩
  have e1 : E.cs1 k = #[rcase (E.Cr k) (.slice none 0 0), rcase E.Q (.bool false)] := by unfold PE.cs1; rw [W.zB, W.zQ]
  intro l
  induction l with
  | nil =>
    intro J w hF hH
    unfold WSel1
    rw [e1, W.zB, W.zQ]
    exact ⟨at1, fun w₁ h₁ => quit (way_shut (hF.rm h₁)) (h₁.live hH.2), fun w₁ h₁ => quit (way_quit1 (hF.rm h₁)) (h₁.live hH.2)⟩
  | cons v l ih =>
    intro J w hF hH
    unfold WSel1
    rw [e1, W.zQ]
    refine ⟨at1, fun w₁ h₁ => ?_, fun w₁ h₁ => quit (way_quit1 (hF.rm h₁)) (h₁.live hH.2)⟩
    have hF₁ := hF.rm h₁
    have hH₁ := hH.rm h₁
    obtain ⟨bs, hmb, hbig, hmsg⟩ := hH₁.1 v (by simp)
    obtain ⟨ba, bn, bc, rfl, hlen, hrest⟩ := id hmsg
    obtain ⟨n, hg⟩ := way_got (E := E) (J := J) W.by_ hn0 (by omega) ⟨hF₁, hmsg⟩
    have hH₂ : HL E Mine MB l w₁ := ⟨fun v' hv' => hH₁.1 v' (by simp [hv']), hH₁.2⟩
    refine ⟨n, Goes.weaken (fun _ _ x => x) (fun _ _ _ x => x) (fun a w₂ hx => ?_) (Goes.andGoes (X := fun w => HL E Mine MB l w) (fun _ _ h x => x.rm h) (fun _ _ _ h x => x.dm h) hg hH₂)⟩
    obtain ⟨⟨⟨m, V, rfl, hV⟩, hF₂⟩, hH₃⟩ := hx
    have e2 : E.cs2 (.agg #[.int .i64 (k : Int), V]) = #[scase E.O (.agg #[.int .i64 (k : Int), V]) E.zG, rcase E.Q (.bool false)] := by unfold PE.cs2; rw [W.zQ]
    refine ⟨_, .agg #[.int .i64 (k : Int), V], rfl, ?_, fun w₃ h₃ => (W.fits k _ _ w₃).2 ⟨bs, V, hmb, rfl, hV.rmB h₃⟩, fun w₃ h₃ => ?_, fun w₃ h₃ => ?_⟩
    · rw [e2]; exact at2 W.zG
    · rw [e2]
      obtain ⟨n', hb⟩ := way_back (E := E) (x := .agg #[.int .i64 (k : Int), V]) (zG := E.zG) (m := m) (V := V) (J := J) (hF₂.rm h₃)
      refine ⟨n', Goes.weaken (fun _ _ x => x) (fun _ _ _ x => x) (fun a w₄ hx => ?_) (Goes.andGoes (X := fun w => HL E Mine MB l w) (fun _ _ h x => x.rm h) (fun _ _ _ h x => x.dm h) hb (hH₃.rm h₃))⟩
      obtain ⟨⟨⟨J', rfl⟩, hF₄⟩, hH₄⟩ := hx
      exact ih J' w₄ hF₄ hH₄
    · rw [e2, W.zQ]
      exact quit (way_quit2 (hF₂.rm h₃)) (h₃.live hH₃.2)
/-- THE WAY FROM ITS BIRTH. -/
theorem way_script (W : EW E MB) (hn0 : E.N0 ≤ i.block) (hdone : ∃ n, ∀ w, KW Mine i c o q g k (E.Cr k) E.O E.Q w → Go.ConcN.WgLive E.ty E.Wg w → Goes Try.prog false (RM E Mine) (DM E Mine) (WRel Try.prog E Mine) n (gDone i c o q g k (E.Cr k) E.O E.Q) w) {l : List Value}
    (hF : KW Mine i c o q g k (E.Cr k) E.O E.Q w) (hH : HL E Mine MB l w) : WLoop Try.prog E Mine k l (born Try.prog (call19 i c o q g)) w := by
  obtain ⟨n, h⟩ := way_birth (E := E) hF
  refine ⟨n, Goes.weaken (fun _ _ x => x) (fun _ _ _ x => x) (fun a w₂ hx => ?_) (Goes.andGoes (X := fun w => HL E Mine MB l w) (fun _ _ h x => x.rm h) (fun _ _ _ h x => x.dm h) h hH)⟩
  obtain ⟨⟨rfl, hF₂⟩, hH₂⟩ := hx
  exact way_sel1 W hn0 hdone l _ w₂ hF₂ hH₂
end Go.Proofs.Ytiobhgemjbjipaa
