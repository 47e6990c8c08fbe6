/- What is asked of each goroutine: relies, guarantees, stops, stages. Definitions and their small laws. -/
import Derived.Test.YtiobhgemjbjipaaPmPumpComm
import Derived.Test.YtiobhgemjbjipaaPmPumpKnow
import Derived.Conc.CrowdSpec
import Derived.Conc.LoneSelect
import Derived.Conc.QuitsD
import Derived.Conc.Token
import Derived.Conc.Company
namespace Go.Proofs.Ytiobhgemjbjipaa
open Go.Conc
open Go.ConcR (KK wgBlock WgAt stA smA rd wr mk DC0)
open Go.ConcN (WgLive)
set_option linter.unusedVariables false
/-- The numbers of one call (Old: blocks that nobody touches plainly any more): types (a WaitGroup's, a byte's), the blocks that are shared, the heap's size as the call forks, where its goroutines begin, how many ways, their channels and rows. -/
structure PE where
  ty : TypeId
  by_ : TypeId
  Wg : Nat
  O : Nat
  Q : Nat
  Dn : Nat
  St : Option Nat
  N0 : Nat
  Old : Nat → Prop
  j0 : Nat
  n : Nat
  Cr : Nat → Nat
  rows : Nat → List Value
  zB : Value
  zG : Value
  zQ : Value
  Fits : Nat → Value → Value → World → Prop
/-- The shared blocks: sync operations alone turn them. -/
def PE.Sh (E : PE) (b : Nat) : Prop := b = E.Wg ∨ b = E.O ∨ b = E.Q ∨ b = E.Dn ∨ E.St = some b ∨ ∃ k, k < E.n ∧ b = E.Cr k
def Byt (E : PE) (w : World) (b : Nat) : Prop := ∃ vs, w.heap[b]? = some (.cells vs E.by_)
/-- Nothing was written out, the system is as it was. -/
def SO (w w' : World) : Prop := w'.os = w.os ∧ w'.output = w.output
theorem SO.refl (w : World) : SO w w := ⟨rfl, rfl⟩
theorem SO.trans {a b c : World} (h : SO a b) (k : SO b c) : SO a c := ⟨k.1.trans h.1, k.2.trans h.2⟩
/-- What the others may have done. -/
structure RM (E : PE) (Mine : Nat → Prop) (w w₁ : World) : Prop where
  size : w.heap.size ≤ w₁.heap.size
  block : ∀ b, Mine b ∨ Byt E w b → b < w.heap.size → w₁.heap[b]? = w.heap[b]?
  live : WgLive E.ty E.Wg w → WgLive E.ty E.Wg w₁
  oo : SO w w₁
/-- A step that turns none but blocks of F. -/
structure Adds (E : PE) (F : Nat → Prop) (w w' : World) : Prop where
  tape : w'.tape = w.tape
  os : w'.os = w.os
  output : w'.output = w.output
  size : w.heap.size ≤ w'.heap.size
  block : ∀ b, b < w.heap.size → ¬ F b → w'.heap[b]? = w.heap[b]?
/-- An entry: a plain touch of a new place, or of one of F, or a read of one of Mine; or a mark that says nothing. -/
def EvG (Mine F : Nat → Prop) (N N' : Nat) (e : Event) : Prop :=
  (∃ a wr sy, e = ⟨.cell a, wr, sy⟩ ∧ a.block < N' ∧ (N ≤ a.block ∨ F a.block ∨ (Mine a.block ∧ wr = false))) ∨ e = ⟨.mark .noRoom, false, true⟩
/-- An own step. -/
def DG (E : PE) (Mine F : World → Nat → Prop) (w w' : World) (es : Array Event) : Prop := Adds E (F w) w w' ∧ ∀ e ∈ es, EvG (Mine w) (F w) w.heap.size w'.heap.size e
def noF : World → Nat → Prop := fun _ _ => False
/-- An own step of a goroutine that is not the first. -/
def DM (E : PE) (Mine : Nat → Prop) (w w' : World) (es : Array Event) : Prop := DG E (fun _ => Mine) noF w w' es ∧ ∀ b, w.heap.size ≤ b → b < w'.heap.size → Byt E w' b
/-- What the first may read while its own blocks begin at N; which it may turn. -/
def Rd0 (E : PE) (N : Nat) (w : World) (b : Nat) : Prop := b < N ∧ ¬ E.Sh b ∧ ¬ E.Old b ∧ (b < E.N0 ∨ ¬ Byt E w b)
def F0 (E : PE) (N : Nat) (w : World) (b : Nat) : Prop := N ≤ b ∧ ¬ Byt E w b
def R0 (E : PE) : World → World → Prop := RM E (fun b => ¬ E.Sh b)
def D0 (E : PE) (N : Nat) (w w' : World) (es : Array Event) : Prop := DG E (Rd0 E N) (F0 E N) w w' es
/-- An own step that turns nothing and may say that the group's cells are read, or written. -/
def DS (E : PE) (m : Addr → Mark) (w w' : World) (es : Array Event) : Prop := w' = w ∧ ∀ e ∈ es, ∃ a : Addr, a.block = E.Wg ∧ e = ⟨.mark (m a), false, true⟩
section
variable {E : PE} {Mine : Nat → Prop}
theorem ds_dc0 {m : Addr → Mark} {w w' : World} {es : Array Event} (h : DC0 w w' es) : DS E m w w' es := by obtain ⟨rfl, rfl⟩ := h; exact ⟨rfl, fun e he => by simp at he⟩
theorem RM.refl (E : PE) (Mine : Nat → Prop) (w : World) : RM E Mine w w := ⟨Nat.le_refl _, fun _ _ _ => rfl, id, .refl w⟩
theorem RM.trans {a b c : World} (h : RM E Mine a b) (h' : RM E Mine b c) : RM E Mine a c :=
  ⟨Nat.le_trans h.size h'.size, fun k hk hl => by
    have e := h.block k hk hl
    exact (h'.block k (hk.imp id fun ⟨vs, hv⟩ => ⟨vs, e.trans hv⟩) (Nat.lt_of_lt_of_le hl h.size)).trans e, fun x => h'.live (h.live x), h.oo.trans h'.oo⟩
theorem RM.tr (E : PE) (Mine : Nat → Prop) : ∀ a b c, RM E Mine a b → RM E Mine b c → RM E Mine a c := fun _ _ _ h h' => h.trans h'
theorem RM.at (E : PE) (Mine : Nat → Prop) (w : World) (d : Nat) : RM E Mine w (w.at d) := ⟨Nat.le_refl _, fun _ _ _ => rfl, id, ⟨rfl, rfl⟩⟩
theorem RM.to {M : Nat → Prop} {w w₁ : World} (h : RM E M w w₁) (hm : ∀ b, Mine b → b < w.heap.size → M b) : RM E Mine w w₁ :=
  ⟨h.size, fun b hb hl => h.block b (hb.imp (fun x => hm b x hl) id) hl, h.live, h.oo⟩
theorem Adds.refl {F : Nat → Prop} (w : World) : Adds E F w w := ⟨rfl, rfl, rfl, Nat.le_refl _, fun _ _ _ => rfl⟩
theorem dg_none {M F : World → Nat → Prop} (w : World) : DG E M F w w #[] := ⟨.refl w, fun e he => by simp at he⟩
theorem nw_none (w : World) : ∀ b, w.heap.size ≤ b → b < w.heap.size → Byt E w b := fun b h1 h2 => by omega
theorem dm_none (w : World) : DM E Mine w w #[] := ⟨dg_none w, nw_none w⟩
theorem dm_dc0 {w w' : World} {es : Array Event} (h : DC0 w w' es) : DM E Mine w w' es := by obtain ⟨rfl, rfl⟩ := h; exact dm_none _
theorem d0_none {N : Nat} (w : World) : D0 E N w w #[] := dg_none w
theorem d0_dc0 {N : Nat} {w w' : World} {es : Array Event} (h : DC0 w w' es) : D0 E N w w' es := by obtain ⟨rfl, rfl⟩ := h; exact d0_none _
theorem evM_read {Mine F : Nat → Prop} {N N' : Nat} (a : Addr) (h : Mine a.block) (hl : a.block < N') : EvG Mine F N N' ⟨.cell a, false, false⟩ := .inl ⟨a, false, false, rfl, hl, .inr (.inr ⟨h, rfl⟩)⟩
end
theorem Goes.weaken {P : Program} {main : Bool} {R R' : World → World → Prop} {D D' : World → World → Array Event → Prop} {Stop Stop' : Goroutine → World → Prop} (hR : ∀ a b, R' a b → R a b) (hD : ∀ w w' es, D w w' es → D' w w' es) (hS : ∀ g w, Stop g w → Stop' g w) :
    ∀ {n : Nat} {g : Goroutine} {w : World}, Goes P main R D Stop n g w → Goes P main R' D' Stop' n g w
  | 0, _, _, h => fun w₁ h₁ => hS _ _ (h w₁ (hR _ _ h₁))
  | n + 1, g, w, h => by
    rcases h with h | ⟨hs, h⟩
    · exact .inl fun w₁ h₁ => hS _ _ (h w₁ (hR _ _ h₁))
    · refine .inr ⟨hs, fun w₁ h₁ => ?_⟩
      have := h w₁ (hR _ _ h₁)
      revert this
      cases stepG P main g w₁ <;> simp only [GStep.goes, imp_self]
      exact fun ⟨d, x⟩ => ⟨hD _ _ _ d, Goes.weaken hR hD hS x⟩
theorem Goes.thenGoes {P : Program} {main : Bool} {R : World → World → Prop} {D : World → World → Array Event → Prop} {A S : Goroutine → World → Prop} (hr : ∀ w, R w w) {n₀ : Nat} (hA : ∀ g w, A g w → Goes P main R D S n₀ g w) :
    ∀ {n : Nat} {g : Goroutine} {w : World}, Goes P main R D A n g w → Goes P main R D S (n + n₀) g w
  | 0, _, w, h => by rw [Nat.zero_add]; exact hA _ _ (h w (hr w))
  | n + 1, g, w, h => by
    rw [show n + 1 + n₀ = (n + n₀) + 1 by omega]
    rcases h with h | ⟨hs, h⟩
    · have : Goes P main R D S n₀ g w := hA _ _ (h w (hr w))
      exact this.mono (by omega)
    · refine .inr ⟨hs, fun w₁ h₁ => ?_⟩
      have := h w₁ h₁
      revert this
      cases stepG P main g w₁ <;> simp only [GStep.goes, imp_self]
      exact fun ⟨d, x⟩ => ⟨d, Goes.thenGoes hr hA x⟩
section
variable (P : Program) (main : Bool) (R : World → World → Prop) (D : World → World → Array Event → Prop)
/-- It walks to its stop. -/
def Wk (Stop : Goroutine → World → Prop) (g : Goroutine) (w : World) : Prop := ∃ n, Goes P main R D Stop n g w
/-- A walk of a goroutine that is not the first: by own steps; by steps that turn nothing and list nothing. The first's. -/
def WD (P : Program) (E : PE) (Mine : Nat → Prop) : (Goroutine → World → Prop) → Goroutine → World → Prop := Wk P false (RM E Mine) (DM E Mine)
def WZ (P : Program) (E : PE) (Mine : Nat → Prop) : (Goroutine → World → Prop) → Goroutine → World → Prop := Wk P false (RM E Mine) DC0
def W0 (P : Program) (E : PE) (N : Nat) : (Goroutine → World → Prop) → Goroutine → World → Prop := Wk P true (R0 E) (D0 E N)
def WZ0 (P : Program) (E : PE) : (Goroutine → World → Prop) → Goroutine → World → Prop := Wk P true (R0 E) DC0
/-- It leaves, d 'disable's standing open. -/
def Lv (d : Nat) (g : Goroutine) : Prop := ∃ q, QuitsD P q d g
/-- It stands at a communication, whatever the others do. -/
structure AtC (cs : Array CommCase) (sh : CommShape) (g : Goroutine) (w : World) : Prop where
  run : g.status = .running
  comm : ∀ w₁, R w w₁ → stepG P main g w₁ = .comm (core g) cs true sh w₁ #[]
def AtMark (m : Mark) (Next : Goroutine → World → Prop) (g : Goroutine) (w : World) : Prop :=
  g.status = .running ∧ ∃ g', stepG P main g w = .go g' w #[mk m] ∧ Next g' w
def AtClose (c : Nat) (Next : Goroutine → World → Prop) (g : Goroutine) (w : World) : Prop :=
  g.status = .running ∧ mayWake P g = true ∧ ∃ g', g'.status = .running ∧ (∀ s r tm, w.heap[c]? = some (.chan 0 #[] false s r tm) → stepG P main g w = .go g' (w.setChan c 0 #[] true s r tm) (closeEvents c) ∧ Next g' (w.setChan c 0 #[] true s r tm))
def AtGo (Child : Goroutine → World → Prop) (Next : Goroutine → World → Prop) (g : Goroutine) (w : World) : Prop :=
  g.status = .running ∧ ∃ g' child, stepG P main g w = .spawn g' child w #[] ∧ child.status = .running ∧ Child child w ∧ Next g' w
end
section
variable {P : Program} {main : Bool} {R : World → World → Prop} {D : World → World → Array Event → Prop} {cs : Array CommCase} {sh : CommShape} {g : Goroutine} {w w₁ : World}
theorem core_core (g : Goroutine) : core (core g) = core g := rfl
theorem AtC.rely (ht : ∀ a b c, R a b → R b c → R a c) (h : AtC P main R cs sh g w) (hr : R w w₁) : AtC P main R cs sh g w₁ := ⟨h.run, fun w₂ h₂ => h.comm w₂ (ht _ _ _ hr h₂)⟩
theorem AtC.core (h : AtC P main R cs sh g w) : AtC P main R cs sh (core g) w := ⟨rfl, fun w₁ h₁ => by rw [core_core, ← h.comm w₁ h₁]; exact stepG_same rfl rfl rfl w₁⟩
theorem AtC.back (h : AtC P main R cs sh (Go.Conc.core g) w) (hr : g.status = .running) : AtC P main R cs sh g w := ⟨hr, fun w₁ h₁ => by rw [← core_core g, ← h.comm w₁ h₁]; exact stepG_same rfl rfl rfl w₁⟩
end
/-! ### a way: from its end backwards -/
section
variable (P : Program) (E : PE) (Mine : Nat → Prop)
def WLast3 (g : Goroutine) (w : World) : Prop :=
  g.status = .running ∧ mayWake P g = true ∧ (WgAt E.ty E.Wg w 0 0 → ∃ g', stepG P false g w = .go g' (w.setCell (smA E.Wg) (.int .u32 1)) (semEvents (smA E.Wg)) ∧ g'.status = .running ∧ Lv P 1 g')
def WLast2 (g : Goroutine) (w : World) : Prop :=
  g.status = .running ∧ (WgAt E.ty E.Wg w 1 0 → ∃ g', stepG P false g w = .go g' (w.setCell (stA E.Wg) (.int .u64 0)) #[wr (stA E.Wg)] ∧ WZ P E Mine (WLast3 P E) g' (w.setCell (stA E.Wg) (.int .u64 0)))
def WLast1 (g : Goroutine) (w : World) : Prop :=
  g.status = .running ∧ (WgAt E.ty E.Wg w 1 0 → ∃ g', stepG P false g w = .go g' w #[rd (stA E.Wg)] ∧ WZ P E Mine (WLast2 P E Mine) g' w)
def WAdd (g : Goroutine) (w : World) : Prop :=
  g.status = .running ∧ ∀ v wt : Nat, wt ≤ 1 → v < 2147483647 → WgAt E.ty E.Wg w (((v + 1 : Nat) : Int) * KK + wt) 0 →
    ∃ g', stepG P false g w = .go g' (w.setCell (stA E.Wg) (.int .u64 ((v : Int) * KK + wt))) #[rd (stA E.Wg), wr (stA E.Wg)] ∧
      ((v = 0 ∧ wt = 1) → WZ P E Mine (WLast1 P E Mine) g' (w.setCell (stA E.Wg) (.int .u64 ((v : Int) * KK + wt)))) ∧ (¬ (v = 0 ∧ wt = 1) → Lv P 1 g')
def WDis : Goroutine → World → Prop := AtMark P false .disable (WZ P E Mine (WAdd P E Mine))
def WRel : Goroutine → World → Prop := AtMark P false (.releaseMerge (stA E.Wg)) (WZ P E Mine (WDis P E Mine))
def WQuit : Goroutine → World → Prop := WD P E Mine (WRel P E Mine)
def PE.cs1 (E : PE) (k : Nat) : Array CommCase := #[rcase (E.Cr k) E.zB, rcase E.Q E.zQ]
def PE.cs2 (E : PE) (x : Value) : Array CommCase := #[scase E.O x E.zG, rcase E.Q E.zQ]
variable (k : Nat)
/-- A way's select between a message that is told on and quit; o: what it offers while it waits. -/
def WSel2 (Back : Goroutine → World → Prop) (v : Value) (o : Option (Array CommCase × CommShape)) (g : Goroutine) (w : World) : Prop :=
  ∃ x, o = some (E.cs2 x, .select) ∧ AtC P false (RM E Mine) (E.cs2 x) .select g w ∧ (∀ w₁, RM E Mine w w₁ → E.Fits k v x w₁) ∧
    (∀ w₁, RM E Mine w w₁ → Back ((core g).finishComm P (E.cs2 x) .select 0 undef false) w₁) ∧ (∀ w₁, RM E Mine w w₁ → WQuit P E Mine ((core g).finishComm P (E.cs2 x) .select 1 E.zQ false) w₁)
/-- A way's select between its row and quit; l: what its row still has. -/
def WSel1 : List Value → Goroutine → World → Prop
  | [], g, w => AtC P false (RM E Mine) (E.cs1 k) .select g w ∧ (∀ w₁, RM E Mine w w₁ → WQuit P E Mine ((core g).finishComm P (E.cs1 k) .select 0 E.zB false) w₁) ∧
      (∀ w₁, RM E Mine w w₁ → WQuit P E Mine ((core g).finishComm P (E.cs1 k) .select 1 E.zQ false) w₁)
  | v :: l, g, w => AtC P false (RM E Mine) (E.cs1 k) .select g w ∧ (∀ w₁, RM E Mine w w₁ → WD P E Mine (fun g w => ∃ o, WSel2 P E Mine k (WD P E Mine (WSel1 l)) v o g w) ((core g).finishComm P (E.cs1 k) .select 0 v true) w₁) ∧
      (∀ w₁, RM E Mine w w₁ → WQuit P E Mine ((core g).finishComm P (E.cs1 k) .select 1 E.zQ false) w₁)
def WLoop (l : List Value) : Goroutine → World → Prop := WD P E Mine (WSel1 P E Mine k l)
def WGot (l : List Value) (v : Value) (o : Option (Array CommCase × CommShape)) : Goroutine → World → Prop := WSel2 P E Mine k (WLoop P E Mine k l) v o
end
/-! ### the one that waits -/
section
variable (P : Program) (E : PE) (Mine : Nat → Prop) (Anch : Goroutine → World → Prop)
def TShut : Goroutine → World → Prop := AtClose P false E.Dn (fun g _ => Lv P 0 g)
def TAcq : Goroutine → World → Prop := AtMark P false (.acquire (stA E.Wg)) (WD P E Mine (TShut P E))
def TEna : Goroutine → World → Prop := AtMark P false .enable (WZ P E Mine (TAcq P E Mine))
def TLoad2 (g : Goroutine) (w : World) : Prop :=
  g.status = .running ∧ (WgAt E.ty E.Wg w 0 0 → ∃ g', stepG P false g w = .go g' w #[rd (stA E.Wg)] ∧ WZ P E Mine (TEna P E Mine) g' w)
/-- At the semaphore: it waits, or goes through. -/
def TSem (o : Option (Array CommCase × CommShape)) (g : Goroutine) (w : World) : Prop :=
  o = none ∧ g.status = .running ∧ ∀ w₁, RM E Mine w w₁ → ((∃ st, WgAt E.ty E.Wg w₁ st 0) → stepG P false g w₁ = .go { core g with status := .blocked } w₁ #[]) ∧
    (WgAt E.ty E.Wg w₁ 0 1 → ∃ g', stepG P false g w₁ = .go g' (w₁.setCell (smA E.Wg) (.int .u32 0)) (semEvents (smA E.Wg)) ∧ WZ P E Mine (TLoad2 P E Mine) g' (w₁.setCell (smA E.Wg) (.int .u32 0)))
def TCas (vs : Nat) (g : Goroutine) (w : World) : Prop :=
  g.status = .running ∧ ∀ v : Nat, v < 2147483648 → WgAt E.ty E.Wg w ((v : Int) * KK) 0 →
    (v = vs → ∃ g', stepG P false g w = .go g' (w.setCell (stA E.Wg) (.int .u64 ((v : Int) * KK + 1))) #[rd (stA E.Wg), wr (stA E.Wg)] ∧ Wk P false (RM E Mine) (DS E .write) (fun g w => ∃ o, TSem P E Mine o g w) g' (w.setCell (stA E.Wg) (.int .u64 ((v : Int) * KK + 1)))) ∧
    (v ≠ vs → ∃ g', stepG P false g w = .go g' w #[rd (stA E.Wg)] ∧ WZ P E Mine Anch g' w)
def TLoad (g : Goroutine) (w : World) : Prop :=
  g.status = .running ∧ ∀ v : Nat, v < 2147483648 → WgAt E.ty E.Wg w ((v : Int) * KK) 0 → ∃ g', stepG P false g w = .go g' w #[rd (stA E.Wg)] ∧
    (v = 0 → WZ P E Mine (TEna P E Mine) g' w) ∧ (v ≠ 0 → WZ P E Mine (TCas P E Mine Anch v) g' w)
def TDis : Goroutine → World → Prop := AtMark P false .disable (WZ P E Mine Anch)
/-- From the loop's head it comes to the load. -/
def Loops : Prop := ∃ n, ∀ g w, Anch g w → Goes P false (RM E Mine) DC0 (TLoad P E Mine Anch) n g w
end
/-! ### the one that closes -/
section
variable (P : Program) (E : PE) (Mine : Nat → Prop)
def PE.cs3 (E : PE) : Array CommCase := #[match E.St with | none => rcaseNil E.zQ | some c => rcase c E.zQ, rcase E.Dn E.zQ]
def PE.cs4 (E : PE) : Array CommCase := #[rcase E.Dn E.zQ]
def COut : Goroutine → World → Prop := AtClose P false E.O (fun g _ => Lv P 0 g)
def CDone (o : Option (Array CommCase × CommShape)) (g : Goroutine) (w : World) : Prop :=
  o = some (E.cs4, .recv false) ∧ AtC P false (RM E Mine) E.cs4 (.recv false) g w ∧ ∀ w₁, RM E Mine w w₁ → WD P E Mine (COut P E) ((core g).finishComm P E.cs4 (.recv false) 0 E.zQ false) w₁
def CQuit : Goroutine → World → Prop := AtClose P false E.Q (WD P E Mine (fun g w => ∃ o, CDone P E Mine o g w))
def CSel (o : Option (Array CommCase × CommShape)) (g : Goroutine) (w : World) : Prop :=
  o = some (E.cs3, .select) ∧ AtC P false (RM E Mine) E.cs3 .select g w ∧ (E.St ≠ none → ∀ w₁, RM E Mine w w₁ → WD P E Mine (CQuit P E Mine) ((core g).finishComm P E.cs3 .select 0 E.zQ false) w₁) ∧
    ∀ w₁, RM E Mine w w₁ → WD P E Mine (COut P E) ((core g).finishComm P E.cs3 .select 1 E.zQ false) w₁
end
/-! ### the first -/
section
variable (P : Program) (E : PE) (Exit : Bool → List (Nat × Value × Value) → Goroutine → World → Prop)
def PE.cs5 (E : PE) : Array CommCase := #[rcase E.O E.zG]
/-- It takes what comes (n: how much at most), closes stop once if b, and comes out at the close of out. -/
def MRecv : Nat → Bool → List (Nat × Value × Value) → Nat → Option (Array CommCase × CommShape) → Goroutine → World → Prop
  | 0, b, ys, _, o, g, w => o = some (E.cs5, .recv true) ∧ AtC P true (R0 E) E.cs5 (.recv true) g w ∧ ∀ w₁, R0 E w w₁ → Exit b ys ((core g).finishComm P E.cs5 (.recv true) 0 E.zG false) w₁
  | n + 1, b, ys, N, o, g, w =>
    (o = some (E.cs5, .recv true) ∧ AtC P true (R0 E) E.cs5 (.recv true) g w ∧ (∀ w₁, R0 E w w₁ → Exit b ys ((core g).finishComm P E.cs5 (.recv true) 0 E.zG false) w₁) ∧
      ∀ k v x w₁, R0 E w w₁ → k < E.n → E.Fits k v x w₁ → W0 P E N (fun g w => ∃ o, MRecv n b (ys ++ [(k, v, x)]) N o g w) ((core g).finishComm P E.cs5 (.recv true) 0 x true) w₁) ∨
    (b = true ∧ o = none ∧ g.status = .running ∧ ∀ w₁, R0 E w w₁ → ∃ c, E.St = some c ∧ AtClose P true c (W0 P E N (fun g w => ∃ o, MRecv n false ys N o g w)) (core g) w₁)
def MCons (n : Nat) (b : Bool) (ys : List (Nat × Value × Value)) (N : Nat) : Goroutine → World → Prop := W0 P E N (fun g w => ∃ o, MRecv P E Exit n b ys N o g w)
def Born (E : PE) (Script : (Nat → Prop) → Goroutine → World → Prop) (g : Goroutine) (w : World) : Prop := ∀ Mine : Nat → Prop, (∀ b, Mine b ↔ Rd0 E w.heap.size w b) → Script Mine g w
def MGoC (n : Nat) (b : Bool) : Goroutine → World → Prop :=
  AtGo P true (Born E fun M => Wk P false (RM E M) (DM E M) (fun g w => ∃ o, CSel P E M o g w)) (fun g w => MCons P E Exit n b [] w.heap.size g w)
def MGoT (n : Nat) (b : Bool) : Goroutine → World → Prop :=
  AtGo P true (Born E fun M => fun g w => ∃ Anch, Loops P E M Anch ∧ Wk P false (RM E M) (DM E M) (TDis P E M Anch) g w)
    (fun g w => W0 P E w.heap.size (MGoC P E Exit n b) g w)
section
variable (N : Nat) (k : Nat) (Next : Nat → Goroutine → World → Prop)
def MGo : Goroutine → World → Prop := AtGo P true (Born E fun M => WLoop P E M k (E.rows k)) (fun g w => Next w.heap.size g w)
def MEna : Goroutine → World → Prop := AtMark P true .enable (W0 P E N (MGo P E k Next))
def MAdd (g : Goroutine) (w : World) : Prop :=
  g.status = .running ∧ ∀ v : Nat, v < 2147483647 → WgAt E.ty E.Wg w ((v : Int) * KK) 0 →
    ∃ g', stepG P true g w = .go g' (w.setCell (stA E.Wg) (.int .u64 (((v + 1 : Nat) : Int) * KK))) #[rd (stA E.Wg), wr (stA E.Wg)] ∧ Wk P true (R0 E) (DS E .read) (MEna P E N k Next) g' (w.setCell (stA E.Wg) (.int .u64 (((v + 1 : Nat) : Int) * KK)))
def MDis : Goroutine → World → Prop := AtMark P true .disable (WZ0 P E (MAdd P E N k Next))
end
/-- The first while it forks: r ways are still to come. -/
def MFork (n : Nat) (b : Bool) : Nat → Nat → Goroutine → World → Prop
  | 0, N, g, w => W0 P E N (MGoT P E Exit n b) g w
  | r + 1, N, g, w => W0 P E N (MDis P E N (E.n - (r + 1)) (fun N' => MFork n b r N')) g w
end
end Go.Proofs.Ytiobhgemjbjipaa
