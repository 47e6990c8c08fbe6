/- A way's call of Done; the goroutine that waits: its whole script. Conditions stand as premises. -/
import Derived.Test.YtiobhgemjbjipaaPmPumpWg3
import Derived.Test.YtiobhgemjbjipaaPmPumpLib
import Derived.Test.YtiobhgemjbjipaaPmPumpWayD
set_option linter.unusedSimpArgs false
set_option linter.unusedVariables false
namespace Go.Proofs.Ytiobhgemjbjipaa
open Go.Conc Go.RowKit Go.Conc.Lib Go.ConcR.Gen Go.ConcN.Gen
open Go.ConcR (KK wgBlock WgAt stA smA rd wr mk DC0)
open Go.ConcN (WgLive)
variable {E : PE} {Mine : Nat → Prop} {w : World}
theorem nm_done : (Try.f21.name == "runtime.NumGoroutine") = false := by kernel_rfl
theorem nm_wait' : (Try.f23.name == "runtime.NumGoroutine") = false := by kernel_rfl
theorem quits19 (T : Array Value) (k : List Item) : QuitsD Try.prog 2 0 (G { b19.at ⟨T, []⟩ k with mode := .returning } [bot]) := by
  refine QuitsD.ctl (g' := G bot []) rfl (fun w => ?_) ?_
  · simp [G, stepG, unwind, doReturn, results, Frame.at, b19, baseD, bot, Try.func19, Try.f19, seen, GStep.after, goexitEntry]
  refine QuitsD.ctl (g' := { G bot [] with status := .finished }) rfl (fun w => ?_) ⟨rfl, rfl⟩
  simp [G, stepG, unwind, bot, goexitEntry, Frame.catches]
  rfl
set_option maxRecDepth 100000 in
set_option maxHeartbeats 4000000 in
theorem way_done (ety : E.ty = 57) {i c o q : Addr} {r Cr O Q : Nat} (hF : WgLive E.ty E.Wg w) :
    Goes Try.prog false (RM E Mine) (DM E Mine) (WRel Try.prog E Mine) 30 (gDone i c o q ⟨E.Wg, 0, none⟩ r Cr O Q) w := by
  unfold gDone
  simp only [body19, Try.f19, Option.getD_some, cSnd, cOps]
  refine Goes.step rfl (fun _ h₁ => ?_)
  replace hF := lv_rely hF h₁
  clear h₁
  refine goes_call rfl rfl (by decide) rfl Try.func21 nm_done rfl ⟨dm_none _, ?_⟩
  walk_nrmf Try.f21
  refine (Goes.weaken (fun _ _ x => x) (fun _ _ _ x => dm_dc0 x) (fun _ _ x => x) (doneP (L := lk) (qt := 4) wgLib ety ?_ _ hF)).mono (by decide)
  walk_nrm
  refine QuitsD.ctl rfl (fun _ => stepG_region_end) ?_
  refine QuitsD.ctl rfl (fun _ => stepG_end) ?_
  exact quits19 _ _
noncomputable def body22 : Code := (Try.f22).body.getD .skip
def b22 : Frame := baseD 22
def call22 (g d : Addr) : Deferred := { target := .fn (.func 22) #[.pointer (some g), .pointer (some d)], args := #[] }
theorem born22 (g d : Addr) (w : World) : stepG Try.prog false (born Try.prog (call22 g d)) w =
    .go (G (b22.at ⟨#[.pointer (some g), .pointer (some d), undef, undef], []⟩ [.code body22]) [bot]) w #[] := by
  simp [born, call22, stepG, unwind, callDeferred, invoke, callFunc, Try.func22, Try.f22, seen, GStep.after, G, Frame.enter, Frame.at, b22, baseD, bot, body22]
theorem quits22 (T : Array Value) (k : List Item) : QuitsD Try.prog 2 0 (G { b22.at ⟨T, []⟩ k with mode := .returning } [bot]) := by
  refine QuitsD.ctl (g' := G bot []) rfl (fun w => ?_) ?_
  · simp [G, stepG, unwind, doReturn, results, Frame.at, b22, baseD, bot, Try.func22, Try.f22, seen, GStep.after, goexitEntry]
  refine QuitsD.ctl (g' := { G bot [] with status := .finished }) rfl (fun w => ?_) ⟨rfl, rfl⟩
  simp [G, stepG, unwind, bot, goexitEntry, Frame.catches]
  rfl
set_option maxRecDepth 100000 in
set_option maxHeartbeats 4000000 in
theorem wait_tail (d : Addr) {T3 : Value} (hF : KL E Mine [(d, .chan (some E.Dn))] w) : Goes Try.prog false (RM E Mine) (DM E Mine) (TShut Try.prog E) 12
    (G (b22.at ⟨#[.pointer (some ⟨E.Wg, 0, none⟩), .pointer (some d), T3, undef], []⟩ [.inRegion (cOps (cFst body22)) [], .code (cSnd body22)]) [bot]) w := by
  simp only [body22, Try.f22, Option.getD_some, cSnd, cFst, cOps]
  refine Goes.step rfl (fun _ h₁ => ?_)
  replace hF := kl_rely hF h₁
  clear h₁
  rw [stepG_region_end]
  simp only [goes_go]
  refine ⟨dm_none _, ?_⟩
  refine Goes.step rfl (fun _ h₁ => ?_)
  replace hF := kl_rely hF h₁
  clear h₁
  rw [stepG_region]
  simp only [goes_go, List.size_toArray, List.length_cons, List.length_nil, Nat.reduceAdd, Nat.zero_add, List.range, List.range.loop]
  refine ⟨dm_none _, ?_⟩
  refine Goes.step rfl (fun _ h₁ => ?_)
  replace hF := kl_rely hF h₁
  clear h₁
  refine goes_oper_k rfl rfl (by decide) (fun K hK => ?_)
  have f0 := (hF.1 (d, .chan (some E.Dn)) (by simp)).1
  have f1 := (hF.1 (d, .chan (some E.Dn)) (by simp)).2.1
  go_simp
  refine hK _ _ ⟨dm_ev (fun e he => ?_), ?_⟩
  · have hm := mem_listed he
    simp [go_sem, f0, f1] at hm
    subst hm
    exact evM_read _ (hF.1 (d, .chan (some E.Dn)) (by simp)).2.2.2 (hF.1 (d, .chan (some E.Dn)) (by simp)).2.2.1
  clear hK K f0 f1
  refine Goes.stop (fun w₃ h₃ => ?_)
  refine ⟨rfl, rfl, _, rfl, fun s' r' tm' hc => ⟨stepG_close (c := E.Dn) rfl rfl (by decide) rfl rfl hc (by kernel_rfl), ?_⟩⟩
  refine ⟨4, ?_⟩
  walk_nrm
  refine QuitsD.ctl rfl (fun _ => stepG_region_end) ?_
  refine QuitsD.ctl rfl (fun _ => stepG_end) ?_
  exact (quits22 _ _)
noncomputable def callerT (d : Addr) : Frame := b22.at ⟨#[.pointer (some ⟨0, 0, none⟩), .pointer (some d), undef, undef], []⟩ [.inRegion (cOps (cFst body22)) [0], .code (cSnd body22)]
set_option maxRecDepth 100000 in
set_option maxHeartbeats 4000000 in
/-- THE GOROUTINE THAT WAITS, from its birth. -/
theorem wait_script (ety : E.ty = 57) (hMs : ∀ b, Mine b → b ≠ E.Wg) (d : Addr) (hF : KL E Mine [(d, .chan (some E.Dn))] w) :
    ∃ A, Loops Try.prog E Mine A ∧ Wk Try.prog false (RM E Mine) (DM E Mine) (TDis Try.prog E Mine A) (born Try.prog (call22 ⟨E.Wg, 0, none⟩ d)) w := by
  refine ⟨AnchP lk E Mine [(d, .chan (some E.Dn))] (b22.at ⟨#[.pointer (some ⟨E.Wg, 0, none⟩), .pointer (some d), undef, undef], []⟩ [.inRegion (cOps (cFst body22)) [0], .code (cSnd body22)]) [bot], ⟨30, fun g w h => ?_⟩, 20, ?_⟩
  · exact waitRoundP (L := lk) (mT := 12) wgLib ety hMs (fun w hF => wait_tail d hF) g w h
  refine Goes.step rfl (fun _ h₁ => ?_)
  replace hF := kl_rely hF h₁
  clear h₁
  rw [born22]
  simp only [goes_go]
  refine ⟨dm_none _, ?_⟩
  simp only [body22, Try.f22, Option.getD_some, cFst, cSnd, cOps]
  refine Goes.step rfl (fun _ h₁ => ?_)
  replace hF := kl_rely hF h₁
  clear h₁
  rw [stepG_seq]
  simp only [goes_go]
  refine ⟨dm_none _, ?_⟩
  refine Goes.step rfl (fun _ h₁ => ?_)
  replace hF := kl_rely hF h₁
  clear h₁
  rw [stepG_region]
  simp only [goes_go, List.size_toArray, List.length_cons, List.length_nil, Nat.reduceAdd, Nat.zero_add, List.range, List.range.loop]
  refine ⟨dm_none _, ?_⟩
  refine Goes.step rfl (fun _ h₁ => ?_)
  replace hF := kl_rely hF h₁
  clear h₁
  refine goes_call rfl rfl (by decide) rfl Try.func23 nm_wait' rfl ⟨dm_none _, ?_⟩
  walk_nrmf Try.f23
  exact (waitStartP (L := lk) wgLib ety _ hF).mono (by decide)
end Go.Proofs.Ytiobhgemjbjipaa
