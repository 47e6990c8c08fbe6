/- The goroutine that closes: its whole script. Conditions stand as premises. -/
import Derived.Test.YtiobhgemjbjipaaPmPumpWayA
set_option linter.unusedSimpArgs false
set_option linter.unusedVariables false
namespace Go.Proofs.Ytiobhgemjbjipaa
open Go.Conc Go.RowKit
/-- Cells that a goroutine leans on. -/
def KX (Mine : Nat → Prop) (l : List (Addr × Value)) (w : World) : Prop := ∀ p ∈ l, w.cell? p.1 = some p.2 ∧ w.frozen? p.1 = false ∧ p.1.block < w.heap.size ∧ Mine p.1.block
theorem KX.rm {E : PE} {Mine : Nat → Prop} {l : List (Addr × Value)} {w w₁ : World} (h : KX Mine l w) (hr : RM E Mine w w₁) : KX Mine l w₁ := fun p hp => by
  obtain ⟨h1, h2, h3, h4⟩ := h p hp
  have e := hr.block _ (.inl h4) h3
  exact ⟨(cell_same e).trans h1, (frozen_same e).trans h2, Nat.lt_of_lt_of_le h3 hr.size, h4⟩
theorem KX.chan {Mine : Nat → Prop} {l : List (Addr × Value)} {w : World} (h : KX Mine l w) {c : Nat} (hc : ∀ b, Mine b → b ≠ c) (s r : Nat) (tm : Bool) : KX Mine l (w.setChan c 0 #[] true s r tm) := fun p hp => by
  obtain ⟨h1, h2, h3, h4⟩ := h p hp
  have e : (w.setChan c 0 #[] true s r tm).heap[p.1.block]? = w.heap[p.1.block]? := by
    simp only [World.setChan]
    rw [Array.getElem?_setIfInBounds_ne (Ne.symm (hc _ h4))]
  exact ⟨(cell_same e).trans h1, (frozen_same e).trans h2, by simpa [World.setChan] using h3, h4⟩
noncomputable def body24 : Code := (Try.f24).body.getD .skip
def b24 : Frame := baseD 24
def call24 (s q d o : Addr) : Deferred := { target := .fn (.func 24) #[.pointer (some s), .pointer (some q), .pointer (some d), .pointer (some o)], args := #[] }
theorem born24 (s q d o : Addr) (w : World) : stepG Try.prog false (born Try.prog (call24 s q d o)) w =
    .go (G (b24.at ⟨#[.pointer (some s), .pointer (some q), .pointer (some d), .pointer (some o), undef, undef, undef, undef, undef, undef, undef, undef, undef, undef], []⟩ [.code body24]) [bot]) w #[] := by
  simp [born, call24, stepG, unwind, callDeferred, invoke, callFunc, Try.func24, Try.f24, seen, GStep.after, G, Frame.enter, Frame.at, b24, baseD, bot, body24]
theorem quits24 (T : Array Value) (k : List Item) : QuitsD Try.prog 2 0 (G { b24.at ⟨T, []⟩ k with mode := .returning } [bot]) := by
  refine QuitsD.ctl (g' := G bot []) rfl (fun w => ?_) ?_
  · simp [G, stepG, unwind, doReturn, results, Frame.at, b24, baseD, bot, Try.func24, Try.f24, seen, GStep.after, goexitEntry]
  refine QuitsD.ctl (g' := { G bot [] with status := .finished }) rfl (fun w => ?_) ⟨rfl, rfl⟩
  simp [G, stepG, unwind, bot, goexitEntry, Frame.catches]
  rfl
theorem fin_G (P : Program) (fr : Frame) (l : List Frame) (cs : Array CommCase) (sh : CommShape) (k : Int) (v : Value) (ok : Bool) : (core (G fr l)).finishComm P cs sh k v ok = G (fr.finish (commResult cs sh k v ok)) l := rfl
theorem cs3_eq (E : PE) : E.cs3 = #[{ chan := .chan E.St, send := none, zero := E.zQ }, rcase E.Dn E.zQ] := by
  unfold PE.cs3
  cases E.St <;> rfl
theorem res3 (E : PE) (k : Int) (v : Value) (ok : Bool) (hk : k = 0) : commResult E.cs3 .select k v ok = .tuple #[goInt k, .bool ok, v, E.zQ] := by
  subst hk
  rw [cs3_eq]
  simp [commResult, rcase, List.zipIdx_cons]
theorem res3' (E : PE) (k : Int) (v : Value) (ok : Bool) (hk : k = 1) : commResult E.cs3 .select k v ok = .tuple #[goInt k, .bool ok, E.zQ, v] := by
  subst hk
  rw [cs3_eq]
  simp [commResult, rcase, List.zipIdx_cons]
variable {E : PE} {Mine : Nat → Prop} {w : World} {s q d o : Addr}
set_option maxRecDepth 100000 in
theorem clo_script (hz : E.zQ = .bool false) (hMs : ∀ b, Mine b → ¬ E.Sh b) (hF : KX Mine [(s, .chan E.St), (q, .chan (some E.Q)), (d, .chan (some E.Dn)), (o, .chan (some E.O))] w) : Wk Try.prog false (RM E Mine) (DM E Mine) (fun g w => ∃ o, CSel Try.prog E Mine o g w) (born Try.prog (call24 s q d o)) w := by
  refine ⟨30, ?_⟩
  refine Goes.step rfl (fun _ h₁ => ?_)
  replace hF := hF.rm h₁
  clear h₁
  rw [born24]
  simp only [goes_go]
  refine ⟨dm_none _, ?_⟩
  simp only [body24, Try.f24, Option.getD_some]
  refine Goes.step rfl (fun _ h₁ => ?_)
  replace hF := hF.rm h₁
  clear h₁
  rw [stepG_seq]
  simp only [goes_go]
  refine ⟨dm_none _, ?_⟩
  refine Goes.step rfl (fun _ h₁ => ?_)
  replace hF := hF.rm h₁
  clear h₁
  rw [stepG_seq]
  simp only [goes_go]
  refine ⟨dm_none _, ?_⟩
  refine Goes.step rfl (fun _ h₁ => ?_)
  replace hF := hF.rm h₁
  clear h₁
  rw [stepG_seq]
  simp only [goes_go]
  refine ⟨dm_none _, ?_⟩
  refine Goes.step rfl (fun _ h₁ => ?_)
  replace hF := hF.rm h₁
  clear h₁
  rw [stepG_region]
  simp only [goes_go, List.size_toArray, List.length_cons, List.length_nil, Nat.reduceAdd, Nat.zero_add, List.range, List.range.loop]
  refine ⟨dm_none _, ?_⟩
  refine Goes.step rfl (fun _ h₁ => ?_)
  replace hF := hF.rm h₁
  clear h₁
  refine goes_oper_k rfl rfl (by decide) (fun K hK => ?_)
  have f0 := (hF (s, .chan E.St) (by simp)).1
  have f1 := (hF (s, .chan E.St) (by simp)).2.1
  go_simp
  refine hK _ _ ⟨dm_ev (fun e he => ?_), ?_⟩
  · have hm := mem_listed he
    simp [go_sem, f0, f1] at hm
    subst hm
    exact evM_read _ (hF (s, .chan E.St) (by simp)).2.2.2 (hF (s, .chan E.St) (by simp)).2.2.1
  clear hK K f0 f1
  refine Goes.step rfl (fun _ h₁ => ?_)
  replace hF := hF.rm h₁
  clear h₁
  rw [stepG_region_end]
  simp only [goes_go]
  refine ⟨dm_none _, ?_⟩
  refine Goes.step rfl (fun _ h₁ => ?_)
  replace hF := hF.rm h₁
  clear h₁
  rw [stepG_region]
  simp only [goes_go, List.size_toArray, List.length_cons, List.length_nil, Nat.reduceAdd, Nat.zero_add, List.range, List.range.loop]
  refine ⟨dm_none _, ?_⟩
  refine Goes.step rfl (fun _ h₁ => ?_)
  replace hF := hF.rm h₁
  clear h₁
  refine goes_oper_k rfl rfl (by decide) (fun K hK => ?_)
  have f0 := (hF (d, .chan (some E.Dn)) (by simp)).1
  have f1 := (hF (d, .chan (some E.Dn)) (by simp)).2.1
  go_simp
  refine hK _ _ ⟨dm_ev (fun e he => ?_), ?_⟩
  · have hm := mem_listed he
    simp [go_sem, f0, f1] at hm
    subst hm
    exact evM_read _ (hF (d, .chan (some E.Dn)) (by simp)).2.2.2 (hF (d, .chan (some E.Dn)) (by simp)).2.2.1
  clear hK K f0 f1
  refine Goes.step rfl (fun _ h₁ => ?_)
  replace hF := hF.rm h₁
  clear h₁
  rw [stepG_region_end]
  simp only [goes_go]
  refine ⟨dm_none _, ?_⟩
  refine Goes.step rfl (fun _ h₁ => ?_)
  replace hF := hF.rm h₁
  clear h₁
  rw [stepG_seq]
  simp only [goes_go]
  refine ⟨dm_none _, ?_⟩
  refine Goes.step rfl (fun _ h₁ => ?_)
  replace hF := hF.rm h₁
  clear h₁
  rw [stepG_region]
  simp only [goes_go, List.size_toArray, List.length_cons, List.length_nil, Nat.reduceAdd, Nat.zero_add, List.range, List.range.loop]
  refine ⟨dm_none _, ?_⟩
  refine Goes.stop (fun w₁ h₁ => ?_)
  replace hF := hF.rm h₁
  clear h₁
  refine ⟨_, rfl, ?_, fun hSt w₂ h₂ => ?_, fun w₂ h₂ => ?_⟩
  · rw [cs3_eq, hz]
    exact atC_of rfl rfl (by decide) (fun w => by simp [go_sem, execOp, rcase, Act.eval]) (fun w => by simp [go_sem, execOp, Act.eval])
  · replace hF := hF.rm h₂
    clear h₂
    refine ⟨40, ?_⟩
    rw [fin_G, res3 E _ _ _ rfl, Frame.finish_at, hz]
    walk_nrm
    refine Goes.step rfl (fun _ h₁ => ?_)
    replace hF := hF.rm h₁
    clear h₁
    refine goes_oper_k rfl rfl (by decide) (fun K hK => ?_)
    go_simp
    refine hK _ _ ⟨dm_ev (fun e he => ?_), ?_⟩
    · have hm := mem_listed he
      simp [go_sem] at hm
    clear hK K
    refine Goes.step rfl (fun _ h₁ => ?_)
    replace hF := hF.rm h₁
    clear h₁
    refine goes_oper_k rfl rfl (by decide) (fun K hK => ?_)
    go_simp
    refine hK _ _ ⟨dm_ev (fun e he => ?_), ?_⟩
    · have hm := mem_listed he
      simp [go_sem] at hm
    clear hK K
    refine Goes.step rfl (fun _ h₁ => ?_)
    replace hF := hF.rm h₁
    clear h₁
    refine goes_oper_k rfl rfl (by decide) (fun K hK => ?_)
    go_simp
    refine hK _ _ ⟨dm_ev (fun e he => ?_), ?_⟩
    · have hm := mem_listed he
      simp [go_sem] at hm
    clear hK K
    refine Goes.step rfl (fun _ h₁ => ?_)
    replace hF := hF.rm h₁
    clear h₁
    rw [stepG_region_end]
    simp only [goes_go]
    refine ⟨dm_none _, ?_⟩
    refine Goes.step rfl (fun _ h₁ => ?_)
    replace hF := hF.rm h₁
    clear h₁
    rw [stepG_block]
    simp only [goes_go]
    refine ⟨dm_none _, ?_⟩
    refine Goes.step rfl (fun _ h₁ => ?_)
    replace hF := hF.rm h₁
    clear h₁
    rw [stepG_cond (t := true) rfl]
    simp only [goes_go, if_true, if_false, Bool.false_eq_true, ↓reduceIte]
    refine ⟨dm_none _, ?_⟩
    refine Goes.step rfl (fun _ h₁ => ?_)
    replace hF := hF.rm h₁
    clear h₁
    rw [stepG_seq]
    simp only [goes_go]
    refine ⟨dm_none _, ?_⟩
    refine Goes.step rfl (fun _ h₁ => ?_)
    replace hF := hF.rm h₁
    clear h₁
    rw [stepG_region]
    simp only [goes_go, List.size_toArray, List.length_cons, List.length_nil, Nat.reduceAdd, Nat.zero_add, List.range, List.range.loop]
    refine ⟨dm_none _, ?_⟩
    refine Goes.step rfl (fun _ h₁ => ?_)
    replace hF := hF.rm h₁
    clear h₁
    refine goes_oper_k rfl rfl (by decide) (fun K hK => ?_)
    have f0 := (hF (q, .chan (some E.Q)) (by simp)).1
    have f1 := (hF (q, .chan (some E.Q)) (by simp)).2.1
    go_simp
    refine hK _ _ ⟨dm_ev (fun e he => ?_), ?_⟩
    · have hm := mem_listed he
      simp [go_sem, f0, f1] at hm
      subst hm
      exact evM_read _ (hF (q, .chan (some E.Q)) (by simp)).2.2.2 (hF (q, .chan (some E.Q)) (by simp)).2.2.1
    clear hK K f0 f1
    refine Goes.stop (fun w₃ h₃ => ?_)
    replace hF := hF.rm h₃
    clear h₃
    refine ⟨rfl, rfl, _, rfl, fun s' r' tm' hc => ⟨stepG_close (c := E.Q) rfl rfl (by decide) rfl rfl hc (by kernel_rfl), ?_⟩⟩
    replace hF := hF.chan (c := E.Q) (fun b hb e => hMs b hb (e ▸ .inr (.inr (.inl rfl)))) s' r' tm'
    refine ⟨60, ?_⟩
    walk_nrm
    refine Goes.step rfl (fun _ h₁ => ?_)
    replace hF := hF.rm h₁
    clear h₁
    rw [stepG_region_end]
    simp only [goes_go]
    refine ⟨dm_none _, ?_⟩
    refine Goes.step rfl (fun _ h₁ => ?_)
    replace hF := hF.rm h₁
    clear h₁
    rw [stepG_region]
    simp only [goes_go, List.size_toArray, List.length_cons, List.length_nil, Nat.reduceAdd, Nat.zero_add, List.range, List.range.loop]
    refine ⟨dm_none _, ?_⟩
    refine Goes.step rfl (fun _ h₁ => ?_)
    replace hF := hF.rm h₁
    clear h₁
    refine goes_oper_k rfl rfl (by decide) (fun K hK => ?_)
    have f0 := (hF (d, .chan (some E.Dn)) (by simp)).1
    have f1 := (hF (d, .chan (some E.Dn)) (by simp)).2.1
    go_simp
    refine hK _ _ ⟨dm_ev (fun e he => ?_), ?_⟩
    · have hm := mem_listed he
      simp [go_sem, f0, f1] at hm
      subst hm
      exact evM_read _ (hF (d, .chan (some E.Dn)) (by simp)).2.2.2 (hF (d, .chan (some E.Dn)) (by simp)).2.2.1
    clear hK K f0 f1
    refine Goes.stop (fun w₄ h₂ => ?_)
    replace hF := hF.rm h₂
    clear h₂
    refine ⟨_, rfl, ?_, fun w₂ h₂ => ?_⟩
    · unfold PE.cs4
      rw [hz]
      exact atC_of rfl rfl (by decide) (fun w => by simp [go_sem, execOp, rcase, Act.eval]) (fun w => by simp [go_sem, execOp, Act.eval])
    replace hF := hF.rm h₂
    clear h₂
    refine ⟨40, ?_⟩
    rw [fin_G, show commResult E.cs4 (.recv false) 0 E.zQ false = E.zQ from rfl, Frame.finish_at, hz]
    walk_nrm
    refine Goes.step rfl (fun _ h₁ => ?_)
    replace hF := hF.rm h₁
    clear h₁
    rw [stepG_region_end]
    simp only [goes_go]
    refine ⟨dm_none _, ?_⟩
    refine Goes.step rfl (fun _ h₁ => ?_)
    replace hF := hF.rm h₁
    clear h₁
    rw [stepG_inBlock]
    simp only [goes_go]
    refine ⟨dm_none _, ?_⟩
    refine Goes.step rfl (fun _ h₁ => ?_)
    replace hF := hF.rm h₁
    clear h₁
    rw [stepG_region]
    simp only [goes_go, List.size_toArray, List.length_cons, List.length_nil, Nat.reduceAdd, Nat.zero_add, List.range, List.range.loop]
    refine ⟨dm_none _, ?_⟩
    refine Goes.step rfl (fun _ h₁ => ?_)
    replace hF := hF.rm h₁
    clear h₁
    refine goes_oper_k rfl rfl (by decide) (fun K hK => ?_)
    have f0 := (hF (o, .chan (some E.O)) (by simp)).1
    have f1 := (hF (o, .chan (some E.O)) (by simp)).2.1
    go_simp
    refine hK _ _ ⟨dm_ev (fun e he => ?_), ?_⟩
    · have hm := mem_listed he
      simp [go_sem, f0, f1] at hm
      subst hm
      exact evM_read _ (hF (o, .chan (some E.O)) (by simp)).2.2.2 (hF (o, .chan (some E.O)) (by simp)).2.2.1
    clear hK K f0 f1
    refine Goes.stop (fun w₃ h₃ => ?_)
    replace hF := hF.rm h₃
    clear h₃
    refine ⟨rfl, rfl, _, rfl, fun s' r' tm' hc => ⟨stepG_close (c := E.O) rfl rfl (by decide) rfl rfl hc (by kernel_rfl), ?_⟩⟩
    refine ⟨4, ?_⟩
    walk_nrm
    refine QuitsD.ctl rfl (fun _ => stepG_region_end) ?_
    refine QuitsD.ctl rfl (fun _ => stepG_end) ?_
    exact (quits24 _ _)
  · replace hF := hF.rm h₂
    clear h₂
    refine ⟨40, ?_⟩
    rw [fin_G, res3' E _ _ _ rfl, Frame.finish_at, hz]
    walk_nrm
    refine Goes.step rfl (fun _ h₁ => ?_)
    replace hF := hF.rm h₁
    clear h₁
    refine goes_oper_k rfl rfl (by decide) (fun K hK => ?_)
    go_simp
    refine hK _ _ ⟨dm_ev (fun e he => ?_), ?_⟩
    · have hm := mem_listed he
      simp [go_sem] at hm
    clear hK K
    refine Goes.step rfl (fun _ h₁ => ?_)
    replace hF := hF.rm h₁
    clear h₁
    refine goes_oper_k rfl rfl (by decide) (fun K hK => ?_)
    go_simp
    refine hK _ _ ⟨dm_ev (fun e he => ?_), ?_⟩
    · have hm := mem_listed he
      simp [go_sem] at hm
    clear hK K
    refine Goes.step rfl (fun _ h₁ => ?_)
    replace hF := hF.rm h₁
    clear h₁
    refine goes_oper_k rfl rfl (by decide) (fun K hK => ?_)
    go_simp
    refine hK _ _ ⟨dm_ev (fun e he => ?_), ?_⟩
    · have hm := mem_listed he
      simp [go_sem] at hm
    clear hK K
    refine Goes.step rfl (fun _ h₁ => ?_)
    replace hF := hF.rm h₁
    clear h₁
    rw [stepG_region_end]
    simp only [goes_go]
    refine ⟨dm_none _, ?_⟩
    refine Goes.step rfl (fun _ h₁ => ?_)
    replace hF := hF.rm h₁
    clear h₁
    rw [stepG_block]
    simp only [goes_go]
    refine ⟨dm_none _, ?_⟩
    refine Goes.step rfl (fun _ h₁ => ?_)
    replace hF := hF.rm h₁
    clear h₁
    rw [stepG_cond (t := false) rfl]
    simp only [goes_go, if_true, if_false, Bool.false_eq_true, ↓reduceIte]
    refine ⟨dm_none _, ?_⟩
    refine Goes.step rfl (fun _ h₁ => ?_)
    replace hF := hF.rm h₁
    clear h₁
    rw [stepG_cond (t := true) rfl]
    simp only [goes_go, if_true, if_false, Bool.false_eq_true, ↓reduceIte]
    refine ⟨dm_none _, ?_⟩
    refine Goes.step rfl (fun _ h₁ => ?_)
    replace hF := hF.rm h₁
    clear h₁
    rw [stepG_skip]
    simp only [goes_go]
    refine ⟨dm_none _, ?_⟩
    refine Goes.step rfl (fun _ h₁ => ?_)
    replace hF := hF.rm h₁
    clear h₁
    rw [stepG_inBlock]
    simp only [goes_go]
    refine ⟨dm_none _, ?_⟩
    refine Goes.step rfl (fun _ h₁ => ?_)
    replace hF := hF.rm h₁
    clear h₁
    rw [stepG_region]
    simp only [goes_go, List.size_toArray, List.length_cons, List.length_nil, Nat.reduceAdd, Nat.zero_add, List.range, List.range.loop]
    refine ⟨dm_none _, ?_⟩
    refine Goes.step rfl (fun _ h₁ => ?_)
    replace hF := hF.rm h₁
    clear h₁
    refine goes_oper_k rfl rfl (by decide) (fun K hK => ?_)
    have f0 := (hF (o, .chan (some E.O)) (by simp)).1
    have f1 := (hF (o, .chan (some E.O)) (by simp)).2.1
    go_simp
    refine hK _ _ ⟨dm_ev (fun e he => ?_), ?_⟩
    · have hm := mem_listed he
      simp [go_sem, f0, f1] at hm
      subst hm
      exact evM_read _ (hF (o, .chan (some E.O)) (by simp)).2.2.2 (hF (o, .chan (some E.O)) (by simp)).2.2.1
    clear hK K f0 f1
    refine Goes.stop (fun w₃ h₃ => ?_)
    replace hF := hF.rm h₃
    clear h₃
    refine ⟨rfl, rfl, _, rfl, fun s' r' tm' hc => ⟨stepG_close (c := E.O) rfl rfl (by decide) rfl rfl hc (by kernel_rfl), ?_⟩⟩
    refine ⟨4, ?_⟩
    walk_nrm
    refine QuitsD.ctl rfl (fun _ => stepG_region_end) ?_
    refine QuitsD.ctl rfl (fun _ => stepG_end) ?_
    exact (quits24 _ _)
end Go.Proofs.Ytiobhgemjbjipaa
