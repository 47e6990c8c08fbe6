/- A way's goroutine behind its second select: round the loop, or out. Conditions stand as premises. -/
import Derived.Test.YtiobhgemjbjipaaPmPumpWayB
set_option linter.unusedSimpArgs false
set_option linter.unusedVariables false
namespace Go.Proofs.Ytiobhgemjbjipaa
open Go.Conc Go.RowKit
variable {E : PE} {Mine : Nat → Prop} {i c o q g : Addr} {r Cr O Q : Nat} {w : World} {J : Nat → Value} {m V : Value}
theorem at2 {R : World → World → Prop} {zG : Value} (hz : zG = .agg #[.int .i64 0, .slice none 0 0]) : AtC Try.prog false R #[scase O (.agg #[.int .i64 (r : Int), V]) zG, rcase Q (.bool false)] .select (gSel2 i c o q g r Cr O Q m V J) w := by
  subst hz
  unfold gSel2
  simp only [sel2W, loopW, bodyW, Try.f20, Option.getD_some, cIn, cSnd, cFst, cOps, cFindSeq, Option.orElse, reduceIte, Nat.reduceEqDiff]
  exact atC_of rfl rfl (by decide) (fun w => by simp [go_sem, execOp, rcase, scase, Act.eval]) (fun w => by simp [go_sem, execOp, Act.eval])
theorem resSel2 (C Q : Nat) (k : Int) (v x zG zQ : Value) (ok : Bool) (hk : k = 0) : commResult #[scase C x zG, rcase Q zQ] .select k v ok = .tuple #[goInt k, .bool ok, zQ] := by
  subst hk
  simp [commResult, rcase, scase, List.zipIdx_cons]
theorem resSel3 (C Q : Nat) (k : Int) (v x zG zQ : Value) (ok : Bool) (hk : k = 1) : commResult #[scase C x zG, rcase Q zQ] .select k v ok = .tuple #[goInt k, .bool ok, v] := by
  subst hk
  simp [commResult, rcase, scase, List.zipIdx_cons]
set_option maxRecDepth 100000 in
theorem way_back {x zG : Value} (hF : KW Mine i c o q g r Cr O Q w) : Comes E Mine i c o q g r Cr O Q (fun a _ => ∃ J', a = gSel1 i c o q g r Cr O Q J') ((gSel2 i c o q g r Cr O Q m V J).finishComm Try.prog #[scase O x zG, rcase Q (.bool false)] .select 0 (undef) false) w := by
  refine ⟨60, ?_⟩
  show Goes _ _ _ _ _ _ (Go.Conc.served (gSel2 i c o q g r Cr O Q m V J) (commResult #[scase O x zG, rcase Q (.bool false)] .select 0 (undef) false)) w
  rw [resSel2 _ _ _ _ _ _ _ _ rfl]
  unfold gSel2
  rw [served_fr, Frame.finish_at]
  simp only [sel2W, loopW, bodyW, Try.f20, Option.getD_some, cIn, cSnd, cFst, cOps, cFindSeq, Option.orElse, reduceIte, Nat.reduceEqDiff]
  walk_nrm
  refine Goes.step rfl (fun _ h₁ => ?_)
  replace hF := hF.rm h₁
  clear h₁
  refine goes_oper_k rfl rfl (by decide) (fun K hK => ?_)
  go_simp
  refine hK _ _ ⟨dm_ev (fun e he => ?_), ?_⟩
  · have hm := mem_listed he
    simp [go_sem] at hm
  clear hK K
  refine Goes.step rfl (fun _ h₁ => ?_)
  replace hF := hF.rm h₁
  clear h₁
  refine goes_oper_k rfl rfl (by decide) (fun K hK => ?_)
  go_simp
  refine hK _ _ ⟨dm_ev (fun e he => ?_), ?_⟩
  · have hm := mem_listed he
    simp [go_sem] at hm
  clear hK K
  refine Goes.step rfl (fun _ h₁ => ?_)
  replace hF := hF.rm h₁
  clear h₁
  refine goes_oper_k rfl rfl (by decide) (fun K hK => ?_)
  go_simp
  refine hK _ _ ⟨dm_ev (fun e he => ?_), ?_⟩
  · have hm := mem_listed he
    simp [go_sem] at hm
  clear hK K
  refine Goes.step rfl (fun _ h₁ => ?_)
  replace hF := hF.rm h₁
  clear h₁
  rw [stepG_region_end]
  simp only [goes_go]
  refine ⟨dm_none _, ?_⟩
  refine Goes.step rfl (fun _ h₁ => ?_)
  replace hF := hF.rm h₁
  clear h₁
  rw [stepG_block]
  simp only [goes_go]
  refine ⟨dm_none _, ?_⟩
  refine Goes.step rfl (fun _ h₁ => ?_)
  replace hF := hF.rm h₁
  clear h₁
  rw [stepG_cond (t := true) rfl]
  simp only [goes_go, if_true, if_false, Bool.false_eq_true, ↓reduceIte]
  refine ⟨dm_none _, ?_⟩
  refine Goes.step rfl (fun _ h₁ => ?_)
  replace hF := hF.rm h₁
  clear h₁
  rw [stepG_skip]
  simp only [goes_go]
  refine ⟨dm_none _, ?_⟩
  refine Goes.step rfl (fun _ h₁ => ?_)
  replace hF := hF.rm h₁
  clear h₁
  rw [stepG_inBlock]
  simp only [goes_go]
  refine ⟨dm_none _, ?_⟩
  refine Goes.step rfl (fun _ h₁ => ?_)
  replace hF := hF.rm h₁
  clear h₁
  rw [stepG_inBlock]
  simp only [goes_go]
  refine ⟨dm_none _, ?_⟩
  refine Goes.step rfl (fun _ h₁ => ?_)
  replace hF := hF.rm h₁
  clear h₁
  rw [stepG_inBlock]
  simp only [goes_go]
  refine ⟨dm_none _, ?_⟩
  refine Goes.step rfl (fun _ h₁ => ?_)
  replace hF := hF.rm h₁
  clear h₁
  rw [stepG_inLoop]
  simp only [goes_go]
  refine ⟨dm_none _, ?_⟩
  refine Goes.step rfl (fun _ h₁ => ?_)
  replace hF := hF.rm h₁
  clear h₁
  rw [stepG_block]
  simp only [goes_go]
  refine ⟨dm_none _, ?_⟩
  refine Goes.step rfl (fun _ h₁ => ?_)
  replace hF := hF.rm h₁
  clear h₁
  rw [stepG_seq]
  simp only [goes_go]
  refine ⟨dm_none _, ?_⟩
  refine Goes.step rfl (fun _ h₁ => ?_)
  replace hF := hF.rm h₁
  clear h₁
  rw [stepG_seq]
  simp only [goes_go]
  refine ⟨dm_none _, ?_⟩
  refine Goes.step rfl (fun _ h₁ => ?_)
  replace hF := hF.rm h₁
  clear h₁
  rw [stepG_region]
  simp only [goes_go, List.size_toArray, List.length_cons, List.length_nil, Nat.reduceAdd, Nat.zero_add, List.range, List.range.loop]
  refine ⟨dm_none _, ?_⟩
  refine Goes.step rfl (fun _ h₁ => ?_)
  replace hF := hF.rm h₁
  clear h₁
  refine goes_oper_k rfl rfl (by decide) (fun K hK => ?_)
  go_simp
  refine hK _ _ ⟨dm_ev (fun e he => ?_), ?_⟩
  · have hm := mem_listed he
    simp [go_sem] at hm
  clear hK K
  refine Goes.step rfl (fun _ h₁ => ?_)
  replace hF := hF.rm h₁
  clear h₁
  rw [stepG_region_end]
  simp only [goes_go]
  refine ⟨dm_none _, ?_⟩
  refine Goes.step rfl (fun _ h₁ => ?_)
  replace hF := hF.rm h₁
  clear h₁
  rw [stepG_region]
  simp only [goes_go, List.size_toArray, List.length_cons, List.length_nil, Nat.reduceAdd, Nat.zero_add, List.range, List.range.loop]
  refine ⟨dm_none _, ?_⟩
  refine Goes.step rfl (fun _ h₁ => ?_)
  replace hF := hF.rm h₁
  clear h₁
  refine goes_oper_k rfl rfl (by decide) (fun K hK => ?_)
  go_simp
  refine hK _ _ ⟨dm_ev (fun e he => ?_), ?_⟩
  · have hm := mem_listed he
    simp [go_sem] at hm
  clear hK K
  refine Goes.step rfl (fun _ h₁ => ?_)
  replace hF := hF.rm h₁
  clear h₁
  rw [stepG_region_end]
  simp only [goes_go]
  refine ⟨dm_none _, ?_⟩
  refine Goes.step rfl (fun _ h₁ => ?_)
  replace hF := hF.rm h₁
  clear h₁
  rw [stepG_seq]
  simp only [goes_go]
  refine ⟨dm_none _, ?_⟩
  refine Goes.step rfl (fun _ h₁ => ?_)
  replace hF := hF.rm h₁
  clear h₁
  rw [stepG_region]
  simp only [goes_go, List.size_toArray, List.length_cons, List.length_nil, Nat.reduceAdd, Nat.zero_add, List.range, List.range.loop]
  refine ⟨dm_none _, ?_⟩
  exact Goes.stop fun w₁ h₁ => ⟨⟨fun k => match k with | 8 => m | 9 => .bool true | 12 => .tuple #[.int .i64 0, .bool true, m, .bool false] | 13 => .int .i64 0 | 14 => .bool true | 15 => .bool false | 16 => m | 17 => .bool true | 18 => .bool true | 19 => .bool false | 20 => .chan (some O) | 21 => .int .i64 (r : Int) | 22 => m | 23 => V | 24 => .agg #[.int .i64 (r : Int), V] | 25 => .chan (some Q) | 26 => .tuple #[.int .i64 0, .bool false, .bool false] | 27 => .int .i64 0 | 28 => .bool true | 29 => .bool false | k => J k, rfl⟩, hF.rm h₁⟩
set_option maxRecDepth 100000 in
theorem way_quit2 {x zG : Value} (hF : KW Mine i c o q g r Cr O Q w) : Comes E Mine i c o q g r Cr O Q (fun a _ => a = gDone i c o q g r Cr O Q) ((gSel2 i c o q g r Cr O Q m V J).finishComm Try.prog #[scase O x zG, rcase Q (.bool false)] .select 1 (.bool false) false) w := by
  refine ⟨60, ?_⟩
  show Goes _ _ _ _ _ _ (Go.Conc.served (gSel2 i c o q g r Cr O Q m V J) (commResult #[scase O x zG, rcase Q (.bool false)] .select 1 (.bool false) false)) w
  rw [resSel3 _ _ _ _ _ _ _ _ rfl]
  unfold gSel2
  rw [served_fr, Frame.finish_at]
  simp only [sel2W, loopW, bodyW, Try.f20, Option.getD_some, cIn, cSnd, cFst, cOps, cFindSeq, Option.orElse, reduceIte, Nat.reduceEqDiff]
  walk_nrm
  refine Goes.step rfl (fun _ h₁ => ?_)
  replace hF := hF.rm h₁
  clear h₁
  refine goes_oper_k rfl rfl (by decide) (fun K hK => ?_)
  go_simp
  refine hK _ _ ⟨dm_ev (fun e he => ?_), ?_⟩
  · have hm := mem_listed he
    simp [go_sem] at hm
  clear hK K
  refine Goes.step rfl (fun _ h₁ => ?_)
  replace hF := hF.rm h₁
  clear h₁
  refine goes_oper_k rfl rfl (by decide) (fun K hK => ?_)
  go_simp
  refine hK _ _ ⟨dm_ev (fun e he => ?_), ?_⟩
  · have hm := mem_listed he
    simp [go_sem] at hm
  clear hK K
  refine Goes.step rfl (fun _ h₁ => ?_)
  replace hF := hF.rm h₁
  clear h₁
  refine goes_oper_k rfl rfl (by decide) (fun K hK => ?_)
  go_simp
  refine hK _ _ ⟨dm_ev (fun e he => ?_), ?_⟩
  · have hm := mem_listed he
    simp [go_sem] at hm
  clear hK K
  refine Goes.step rfl (fun _ h₁ => ?_)
  replace hF := hF.rm h₁
  clear h₁
  rw [stepG_region_end]
  simp only [goes_go]
  refine ⟨dm_none _, ?_⟩
  refine Goes.step rfl (fun _ h₁ => ?_)
  replace hF := hF.rm h₁
  clear h₁
  rw [stepG_block]
  simp only [goes_go]
  refine ⟨dm_none _, ?_⟩
  refine Goes.step rfl (fun _ h₁ => ?_)
  replace hF := hF.rm h₁
  clear h₁
  rw [stepG_cond (t := false) rfl]
  simp only [goes_go, if_true, if_false, Bool.false_eq_true, ↓reduceIte]
  refine ⟨dm_none _, ?_⟩
  refine Goes.step rfl (fun _ h₁ => ?_)
  replace hF := hF.rm h₁
  clear h₁
  rw [stepG_cond (t := true) rfl]
  simp only [goes_go, if_true, if_false, Bool.false_eq_true, ↓reduceIte]
  refine ⟨dm_none _, ?_⟩
  refine Goes.step rfl (fun _ h₁ => ?_)
  replace hF := hF.rm h₁
  clear h₁
  rw [stepG_ret']
  simp only [goes_go]
  refine ⟨dm_none _, ?_⟩
  simp only [fr19, body19, Try.f19, Option.getD_some, cIn, cSnd, cFst, cOps]
  refine Goes.step rfl (fun _ h₁ => ?_)
  replace hF := hF.rm h₁
  clear h₁
  refine goes_leave0 rfl rfl Try.func20 rfl ⟨dm_none _, ?_⟩
  walk_nrm
  refine Goes.step rfl (fun _ h₁ => ?_)
  replace hF := hF.rm h₁
  clear h₁
  rw [stepG_region_end]
  simp only [goes_go]
  refine ⟨dm_none _, ?_⟩
  refine Goes.step rfl (fun _ h₁ => ?_)
  replace hF := hF.rm h₁
  clear h₁
  rw [stepG_region]
  simp only [goes_go, List.size_toArray, List.length_cons, List.length_nil, Nat.reduceAdd, Nat.zero_add, List.range, List.range.loop]
  refine ⟨dm_none _, ?_⟩
  exact Goes.stop fun w₁ h₁ => ⟨rfl, hF.rm h₁⟩
end Go.Proofs.Ytiobhgemjbjipaa
