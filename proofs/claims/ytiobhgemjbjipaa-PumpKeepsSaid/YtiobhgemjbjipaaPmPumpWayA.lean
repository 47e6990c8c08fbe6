/- A way's goroutine: from its birth round its selects, to its call of Done. Conditions stand as premises. -/
import Derived.Test.YtiobhgemjbjipaaPmPumpSpec
import Derived.Test.YtiobhgemjbjipaaChecked
import Derived.Conc.TokenWords
import Derived.Conc.TokenWalk
import Derived.Conc.AppendEvents3
import Derived.Conc.AppendWalk
import Derived.KernelRfl
import Derived.Laws.Rows
import Derived.Laws.NewBlocks
import Derived.Laws.Alloc2
set_option linter.unusedSimpArgs false
set_option linter.unusedVariables false
namespace Go.Proofs.Ytiobhgemjbjipaa
open Go.Conc Go.RowKit
noncomputable def bot : Frame := { (default : Frame) with fn := Try.prog.funcs.size, defers := [], mode := .panicking [goexitEntry] }
noncomputable def body19 : Code := (Try.f19).body.getD .skip
def b19 : Frame := baseD 19
def call19 (i c o q g : Addr) : Deferred := { target := .fn (.func 19) #[.pointer (some i), .pointer (some c), .pointer (some o), .pointer (some q), .pointer (some g)], args := #[] }
theorem born19 (i c o q g : Addr) (w : World) : stepG Try.prog false (born Try.prog (call19 i c o q g)) w =
    .go (G (b19.at ⟨#[.pointer (some i), .pointer (some c), .pointer (some o), .pointer (some q), .pointer (some g), undef, undef, undef, undef, undef, undef], []⟩ [.code body19]) [bot]) w #[] := by
  simp [born, call19, stepG, unwind, callDeferred, invoke, callFunc, Try.func19, Try.f19, seen, GStep.after, G, Frame.enter, Frame.at, b19, baseD, bot, body19]
theorem atC_of {P : Program} {main : Bool} {R : World → World → Prop} {cases : Array CommCase} {shape : CommShape} {b : Frame} {a : Act} {ops : Array Oper} {i : Nat} {rest : List Nat} {kk : List Item} {cs : List Frame} {o : Oper} {w : World}
    (ho : ops[i]? = some o) (hw : Region.wanted o (yielded ops a.tmps) = true) (hk : b.kind ≠ .early) (hr : ∀ w, (execOp a.eval o).run P w = .ok (.comm cases true shape) w) (he : ∀ w, (execOp a.eval o).events P w #[] = #[]) :
    AtC P main R cases shape (G (b.at a (.inRegion ops (i :: rest) :: kk)) cs) w :=
  ⟨rfl, fun w₁ _ => by rw [stepG_comm ho hw hk (hr w₁), listed_none (he w₁)]; rfl⟩
theorem dm_ev {E : PE} {Mine : Nat → Prop} {w : World} {es : Array Event} (h : ∀ e ∈ es, EvG Mine (noF w) w.heap.size w.heap.size e) : DM E Mine w w es := ⟨⟨.refl w, h⟩, nw_none w⟩
theorem nm_way : (Try.f20.name == "runtime.NumGoroutine") = false := by kernel_rfl
/-- What a way leans on in the world. -/
structure KW (Mine : Nat → Prop) (i c o q g : Addr) (r : Nat) (Cr O Q : Nat) (w : World) : Prop where
  ic : w.cell? i = some (.int .i64 (r : Int))
  icz : w.frozen? i = false
  cc : w.cell? c = some (.chan (some Cr))
  ccz : w.frozen? c = false
  oc : w.cell? o = some (.chan (some O))
  ocz : w.frozen? o = false
  qc : w.cell? q = some (.chan (some Q))
  qcz : w.frozen? q = false
  lt : i.block < w.heap.size ∧ c.block < w.heap.size ∧ o.block < w.heap.size ∧ q.block < w.heap.size
  mine : Mine i.block ∧ Mine c.block ∧ Mine o.block ∧ Mine q.block
theorem cell_same {w w₁ : World} {a : Addr} (h : w₁.heap[a.block]? = w.heap[a.block]?) : w₁.cell? a = w.cell? a := by simp [World.cell?, h]
theorem frozen_same {w w₁ : World} {a : Addr} (h : w₁.heap[a.block]? = w.heap[a.block]?) : w₁.frozen? a = w.frozen? a := by simp [World.frozen?, h]
theorem KW.rm {E : PE} {Mine : Nat → Prop} {i c o q g : Addr} {r Cr O Q : Nat} {w w₁ : World} (h : KW Mine i c o q g r Cr O Q w) (hr : RM E Mine w w₁) : KW Mine i c o q g r Cr O Q w₁ := by
  have e1 := hr.block _ (.inl h.mine.1) h.lt.1
  have e2 := hr.block _ (.inl h.mine.2.1) h.lt.2.1
  have e3 := hr.block _ (.inl h.mine.2.2.1) h.lt.2.2.1
  have e4 := hr.block _ (.inl h.mine.2.2.2) h.lt.2.2.2
  have hs := hr.size
  have hl := h.lt
  exact ⟨(cell_same e1).trans h.ic, (frozen_same e1).trans h.icz, (cell_same e2).trans h.cc, (frozen_same e2).trans h.ccz, (cell_same e3).trans h.oc, (frozen_same e3).trans h.ocz, (cell_same e4).trans h.qc, (frozen_same e4).trans h.qcz, by omega, h.mine⟩
def cIn : Code → Code
  | .block _ c => c
  | .loop c => c
  | c => c
def cSnd : Code → Code
  | .seq _ b => b
  | c => c
def cFst : Code → Code
  | .seq a _ => a
  | c => c
def cOps : Code → Array Oper
  | .region _ ops _ => ops
  | _ => #[]
noncomputable def bodyW : Code := (Try.f20).body.getD .skip
noncomputable def loopW : Code := cIn (cIn bodyW)
noncomputable def sel1W : Code := cSnd (cIn loopW)
/-- Where a way's literal stands while the way runs. -/
noncomputable def fr19 (i c o q g : Addr) (r Cr O Q : Nat) : Frame :=
  b19.at ⟨#[.pointer (some i), .pointer (some c), .pointer (some o), .pointer (some q), .pointer (some g), .int .i64 (r : Int), .chan (some Cr), .chan (some O), .chan (some Q), undef, undef], []⟩ [.inRegion (cOps (cFst body19)) [4], .code (cSnd body19)]
/-- A way at its first select; J: what the last round left in its slots. -/
noncomputable def gSel1 (i c o q g : Addr) (r Cr O Q : Nat) (J : Nat → Value) : Goroutine :=
  G ((base 20).at ⟨#[.int .i64 (r : Int), .chan (some Cr), .chan (some O), .chan (some Q), J 4, J 5, J 6, J 7, J 8, J 9, .chan (some Cr), .chan (some Q), J 12, J 13, J 14, J 15, J 16, J 17, J 18, J 19, J 20, J 21, J 22, J 23, J 24, J 25, J 26, J 27, J 28, J 29], []⟩
    [.inRegion (cOps (cFst sel1W)) [0, 1, 2, 3], .code (cSnd sel1W), .inBlock 1, .inLoop loopW, .inBlock 0]) [fr19 i c o q g r Cr O Q, bot]
/-- A way's literal just ahead of its call of Done. -/
noncomputable def gDone (i c o q g : Addr) (r Cr O Q : Nat) : Goroutine :=
  G (b19.at ⟨#[.pointer (some i), .pointer (some c), .pointer (some o), .pointer (some q), .pointer (some g), .int .i64 (r : Int), .chan (some Cr), .chan (some O), .chan (some Q), .tuple #[], undef], []⟩ [.inRegion (cOps (cSnd body19)) [0]]) [bot]
variable {E : PE} {Mine : Nat → Prop} {i c o q g : Addr} {r Cr O Q : Nat} {w : World} {J : Nat → Value}
/-- What a way's own walk comes to. -/
def Comes (E : PE) (Mine : Nat → Prop) (i c o q g : Addr) (r Cr O Q : Nat) (S : Goroutine → World → Prop) (a : Goroutine) (w : World) : Prop := WD Try.prog E Mine (fun a w => S a w ∧ KW Mine i c o q g r Cr O Q w) a w
set_option maxRecDepth 100000 in
theorem way_birth (hF : KW Mine i c o q g r Cr O Q w) : Comes E Mine i c o q g r Cr O Q (fun a _ => a = gSel1 i c o q g r Cr O Q fun _ => undef) (born Try.prog (call19 i c o q g)) w := by
  refine ⟨60, ?_⟩
  refine Goes.step rfl (fun _ h₁ => ?_)
  replace hF := hF.rm h₁
  clear h₁
  rw [born19]
  simp only [goes_go]
  refine ⟨dm_none _, ?_⟩
  simp only [body19, Try.f19, Option.getD_some]
  refine Goes.step rfl (fun _ h₁ => ?_)
  replace hF := hF.rm h₁
  clear h₁
  rw [stepG_seq]
  simp only [goes_go]
  refine ⟨dm_none _, ?_⟩
  refine Goes.step rfl (fun _ h₁ => ?_)
  replace hF := hF.rm h₁
  clear h₁
  rw [stepG_region]
  simp only [goes_go, List.size_toArray, List.length_cons, List.length_nil, Nat.reduceAdd, Nat.zero_add, List.range, List.range.loop]
  refine ⟨dm_none _, ?_⟩
  refine Goes.step rfl (fun _ h₁ => ?_)
  replace hF := hF.rm h₁
  clear h₁
  refine goes_oper_k rfl rfl (by decide) (fun K hK => ?_)
  have f0 := hF.ic
  have f1 := hF.icz
  go_simp
  refine hK _ _ ⟨dm_ev (fun e he => ?_), ?_⟩
  · have hm := mem_listed he
    simp [go_sem, f0, f1] at hm
    subst hm
    exact evM_read _ hF.mine.1 hF.lt.1
  clear hK K f0 f1
  refine Goes.step rfl (fun _ h₁ => ?_)
  replace hF := hF.rm h₁
  clear h₁
  refine goes_oper_k rfl rfl (by decide) (fun K hK => ?_)
  have f0 := hF.cc
  have f1 := hF.ccz
  go_simp
  refine hK _ _ ⟨dm_ev (fun e he => ?_), ?_⟩
  · have hm := mem_listed he
    simp [go_sem, f0, f1] at hm
    subst hm
    exact evM_read _ hF.mine.2.1 hF.lt.2.1
  clear hK K f0 f1
  refine Goes.step rfl (fun _ h₁ => ?_)
  replace hF := hF.rm h₁
  clear h₁
  refine goes_oper_k rfl rfl (by decide) (fun K hK => ?_)
  have f0 := hF.oc
  have f1 := hF.ocz
  go_simp
  refine hK _ _ ⟨dm_ev (fun e he => ?_), ?_⟩
  · have hm := mem_listed he
    simp [go_sem, f0, f1] at hm
    subst hm
    exact evM_read _ hF.mine.2.2.1 hF.lt.2.2.1
  clear hK K f0 f1
  refine Goes.step rfl (fun _ h₁ => ?_)
  replace hF := hF.rm h₁
  clear h₁
  refine goes_oper_k rfl rfl (by decide) (fun K hK => ?_)
  have f0 := hF.qc
  have f1 := hF.qcz
  go_simp
  refine hK _ _ ⟨dm_ev (fun e he => ?_), ?_⟩
  · have hm := mem_listed he
    simp [go_sem, f0, f1] at hm
    subst hm
    exact evM_read _ hF.mine.2.2.2 hF.lt.2.2.2
  clear hK K f0 f1
  refine Goes.step rfl (fun _ h₁ => ?_)
  replace hF := hF.rm h₁
  clear h₁
  refine goes_call rfl rfl (by decide) rfl Try.func20 nm_way rfl ⟨dm_none _, ?_⟩
  walk_nrmf Try.f20
  refine Goes.step rfl (fun _ h₁ => ?_)
  replace hF := hF.rm h₁
  clear h₁
  rw [stepG_block]
  simp only [goes_go]
  refine ⟨dm_none _, ?_⟩
  refine Goes.step rfl (fun _ h₁ => ?_)
  replace hF := hF.rm h₁
  clear h₁
  rw [stepG_loop]
  simp only [goes_go]
  refine ⟨dm_none _, ?_⟩
  refine Goes.step rfl (fun _ h₁ => ?_)
  replace hF := hF.rm h₁
  clear h₁
  rw [stepG_block]
  simp only [goes_go]
  refine ⟨dm_none _, ?_⟩
  refine Goes.step rfl (fun _ h₁ => ?_)
  replace hF := hF.rm h₁
  clear h₁
  rw [stepG_seq]
  simp only [goes_go]
  refine ⟨dm_none _, ?_⟩
  refine Goes.step rfl (fun _ h₁ => ?_)
  replace hF := hF.rm h₁
  clear h₁
  rw [stepG_seq]
  simp only [goes_go]
  refine ⟨dm_none _, ?_⟩
  refine Goes.step rfl (fun _ h₁ => ?_)
  replace hF := hF.rm h₁
  clear h₁
  rw [stepG_region]
  simp only [goes_go, List.size_toArray, List.length_cons, List.length_nil, Nat.reduceAdd, Nat.zero_add, List.range, List.range.loop]
  refine ⟨dm_none _, ?_⟩
  refine Goes.step rfl (fun _ h₁ => ?_)
  replace hF := hF.rm h₁
  clear h₁
  refine goes_oper_k rfl rfl (by decide) (fun K hK => ?_)
  go_simp
  refine hK _ _ ⟨dm_ev (fun e he => ?_), ?_⟩
  · have hm := mem_listed he
    simp [go_sem] at hm
  clear hK K
  refine Goes.step rfl (fun _ h₁ => ?_)
  replace hF := hF.rm h₁
  clear h₁
  rw [stepG_region_end]
  simp only [goes_go]
  refine ⟨dm_none _, ?_⟩
  refine Goes.step rfl (fun _ h₁ => ?_)
  replace hF := hF.rm h₁
  clear h₁
  rw [stepG_region]
  simp only [goes_go, List.size_toArray, List.length_cons, List.length_nil, Nat.reduceAdd, Nat.zero_add, List.range, List.range.loop]
  refine ⟨dm_none _, ?_⟩
  refine Goes.step rfl (fun _ h₁ => ?_)
  replace hF := hF.rm h₁
  clear h₁
  refine goes_oper_k rfl rfl (by decide) (fun K hK => ?_)
  go_simp
  refine hK _ _ ⟨dm_ev (fun e he => ?_), ?_⟩
  · have hm := mem_listed he
    simp [go_sem] at hm
  clear hK K
  refine Goes.step rfl (fun _ h₁ => ?_)
  replace hF := hF.rm h₁
  clear h₁
  rw [stepG_region_end]
  simp only [goes_go]
  refine ⟨dm_none _, ?_⟩
  refine Goes.step rfl (fun _ h₁ => ?_)
  replace hF := hF.rm h₁
  clear h₁
  rw [stepG_seq]
  simp only [goes_go]
  refine ⟨dm_none _, ?_⟩
  refine Goes.step rfl (fun _ h₁ => ?_)
  replace hF := hF.rm h₁
  clear h₁
  rw [stepG_region]
  simp only [goes_go, List.size_toArray, List.length_cons, List.length_nil, Nat.reduceAdd, Nat.zero_add, List.range, List.range.loop]
  refine ⟨dm_none _, ?_⟩
  exact Goes.stop fun w₁ h₁ => ⟨rfl, hF.rm h₁⟩
theorem at1 {R : World → World → Prop} : AtC Try.prog false R #[rcase Cr (.slice none 0 0), rcase Q (.bool false)] .select (gSel1 i c o q g r Cr O Q J) w := by
  unfold gSel1
  simp only [sel1W, loopW, bodyW, Try.f20, Option.getD_some, cIn, cSnd, cFst, cOps]
  exact atC_of rfl rfl (by decide) (fun w => by simp [go_sem, execOp, rcase, Act.eval]) (fun w => by simp [go_sem, execOp, Act.eval])
theorem resSel (C Q : Nat) (k : Int) (v zB zQ : Value) (ok : Bool) (hk : k = 0) : commResult #[rcase C zB, rcase Q zQ] .select k v ok = .tuple #[goInt k, .bool ok, v, zQ] := by
  subst hk
  simp [commResult, rcase, List.zipIdx_cons]
theorem resSel1 (C Q : Nat) (k : Int) (v zB zQ : Value) (ok : Bool) (hk : k = 1) : commResult #[rcase C zB, rcase Q zQ] .select k v ok = .tuple #[goInt k, .bool ok, zB, v] := by
  subst hk
  simp [commResult, rcase, List.zipIdx_cons]
set_option maxRecDepth 100000 in
theorem way_shut (hF : KW Mine i c o q g r Cr O Q w) : Comes E Mine i c o q g r Cr O Q (fun a _ => a = gDone i c o q g r Cr O Q) ((gSel1 i c o q g r Cr O Q J).finishComm Try.prog #[rcase Cr (.slice none 0 0), rcase Q (.bool false)] .select 0 (.slice none 0 0) false) w := by
  refine ⟨60, ?_⟩
  show Goes _ _ _ _ _ _ (Go.Conc.served (gSel1 i c o q g r Cr O Q J) (commResult #[rcase Cr (.slice none 0 0), rcase Q (.bool false)] .select 0 (.slice none 0 0) false)) w
  rw [resSel _ _ _ _ _ _ _ rfl]
  unfold gSel1
  rw [served_fr, Frame.finish_at]
  simp only [sel1W, loopW, bodyW, Try.f20, Option.getD_some, cIn, cSnd, cFst, cOps]
  walk_nrm
  refine Goes.step rfl (fun _ h₁ => ?_)
  replace hF := hF.rm h₁
  clear h₁
  refine goes_oper_k rfl rfl (by decide) (fun K hK => ?_)
  go_simp
  refine hK _ _ ⟨dm_ev (fun e he => ?_), ?_⟩
  · have hm := mem_listed he
    simp [go_sem] at hm
  clear hK K
  refine Goes.step rfl (fun _ h₁ => ?_)
  replace hF := hF.rm h₁
  clear h₁
  refine goes_oper_k rfl rfl (by decide) (fun K hK => ?_)
  go_simp
  refine hK _ _ ⟨dm_ev (fun e he => ?_), ?_⟩
  · have hm := mem_listed he
    simp [go_sem] at hm
  clear hK K
  refine Goes.step rfl (fun _ h₁ => ?_)
  replace hF := hF.rm h₁
  clear h₁
  refine goes_oper_k rfl rfl (by decide) (fun K hK => ?_)
  go_simp
  refine hK _ _ ⟨dm_ev (fun e he => ?_), ?_⟩
  · have hm := mem_listed he
    simp [go_sem] at hm
  clear hK K
  refine Goes.step rfl (fun _ h₁ => ?_)
  replace hF := hF.rm h₁
  clear h₁
  rw [stepG_region_end]
  simp only [goes_go]
  refine ⟨dm_none _, ?_⟩
  refine Goes.step rfl (fun _ h₁ => ?_)
  replace hF := hF.rm h₁
  clear h₁
  rw [stepG_block]
  simp only [goes_go]
  refine ⟨dm_none _, ?_⟩
  refine Goes.step rfl (fun _ h₁ => ?_)
  replace hF := hF.rm h₁
  clear h₁
  rw [stepG_cond (t := true) rfl]
  simp only [goes_go, if_true, if_false, Bool.false_eq_true, ↓reduceIte]
  refine ⟨dm_none _, ?_⟩
  refine Goes.step rfl (fun _ h₁ => ?_)
  replace hF := hF.rm h₁
  clear h₁
  rw [stepG_seq]
  simp only [goes_go]
  refine ⟨dm_none _, ?_⟩
  refine Goes.step rfl (fun _ h₁ => ?_)
  replace hF := hF.rm h₁
  clear h₁
  rw [stepG_region]
  simp only [goes_go, List.size_toArray, List.length_cons, List.length_nil, Nat.reduceAdd, Nat.zero_add, List.range, List.range.loop]
  refine ⟨dm_none _, ?_⟩
  refine Goes.step rfl (fun _ h₁ => ?_)
  replace hF := hF.rm h₁
  clear h₁
  refine goes_oper_k rfl rfl (by decide) (fun K hK => ?_)
  go_simp
  refine hK _ _ ⟨dm_ev (fun e he => ?_), ?_⟩
  · have hm := mem_listed he
    simp [go_sem] at hm
  clear hK K
  refine Goes.step rfl (fun _ h₁ => ?_)
  replace hF := hF.rm h₁
  clear h₁
  refine goes_oper_k rfl rfl (by decide) (fun K hK => ?_)
  go_simp
  refine hK _ _ ⟨dm_ev (fun e he => ?_), ?_⟩
  · have hm := mem_listed he
    simp [go_sem] at hm
  clear hK K
  refine Goes.step rfl (fun _ h₁ => ?_)
  replace hF := hF.rm h₁
  clear h₁
  refine goes_oper_k rfl rfl (by decide) (fun K hK => ?_)
  go_simp
  refine hK _ _ ⟨dm_ev (fun e he => ?_), ?_⟩
  · have hm := mem_listed he
    simp [go_sem] at hm
  clear hK K
  refine Goes.step rfl (fun _ h₁ => ?_)
  replace hF := hF.rm h₁
  clear h₁
  refine goes_oper_k rfl rfl (by decide) (fun K hK => ?_)
  go_simp
  refine hK _ _ ⟨dm_ev (fun e he => ?_), ?_⟩
  · have hm := mem_listed he
    simp [go_sem] at hm
  clear hK K
  refine Goes.step rfl (fun _ h₁ => ?_)
  replace hF := hF.rm h₁
  clear h₁
  rw [stepG_region_end]
  simp only [goes_go]
  refine ⟨dm_none _, ?_⟩
  refine Goes.step rfl (fun _ h₁ => ?_)
  replace hF := hF.rm h₁
  clear h₁
  rw [stepG_seq]
  simp only [goes_go]
  refine ⟨dm_none _, ?_⟩
  refine Goes.step rfl (fun _ h₁ => ?_)
  replace hF := hF.rm h₁
  clear h₁
  rw [stepG_seq]
  simp only [goes_go]
  refine ⟨dm_none _, ?_⟩
  refine Goes.step rfl (fun _ h₁ => ?_)
  replace hF := hF.rm h₁
  clear h₁
  rw [stepG_region]
  simp only [goes_go, List.size_toArray, List.length_cons, List.length_nil, Nat.reduceAdd, Nat.zero_add, List.range, List.range.loop]
  refine ⟨dm_none _, ?_⟩
  refine Goes.step rfl (fun _ h₁ => ?_)
  replace hF := hF.rm h₁
  clear h₁
  refine goes_oper_k rfl rfl (by decide) (fun K hK => ?_)
  go_simp
  refine hK _ _ ⟨dm_ev (fun e he => ?_), ?_⟩
  · have hm := mem_listed he
    simp [go_sem] at hm
  clear hK K
  refine Goes.step rfl (fun _ h₁ => ?_)
  replace hF := hF.rm h₁
  clear h₁
  refine goes_oper_k rfl rfl (by decide) (fun K hK => ?_)
  go_simp
  refine hK _ _ ⟨dm_ev (fun e he => ?_), ?_⟩
  · have hm := mem_listed he
    simp [go_sem] at hm
  clear hK K
  refine Goes.step rfl (fun _ h₁ => ?_)
  replace hF := hF.rm h₁
  clear h₁
  rw [stepG_region_end]
  simp only [goes_go]
  refine ⟨dm_none _, ?_⟩
  refine Goes.step rfl (fun _ h₁ => ?_)
  replace hF := hF.rm h₁
  clear h₁
  rw [stepG_cond (t := true) rfl]
  simp only [goes_go, if_true, if_false, Bool.false_eq_true, ↓reduceIte]
  refine ⟨dm_none _, ?_⟩
  refine Goes.step rfl (fun _ h₁ => ?_)
  replace hF := hF.rm h₁
  clear h₁
  rw [stepG_ret']
  simp only [goes_go]
  refine ⟨dm_none _, ?_⟩
  simp only [fr19, body19, Try.f19, Option.getD_some, cIn, cSnd, cFst, cOps]
  refine Goes.step rfl (fun _ h₁ => ?_)
  replace hF := hF.rm h₁
  clear h₁
  refine goes_leave0 rfl rfl Try.func20 rfl ⟨dm_none _, ?_⟩
  walk_nrm
  refine Goes.step rfl (fun _ h₁ => ?_)
  replace hF := hF.rm h₁
  clear h₁
  rw [stepG_region_end]
  simp only [goes_go]
  refine ⟨dm_none _, ?_⟩
  refine Goes.step rfl (fun _ h₁ => ?_)
  replace hF := hF.rm h₁
  clear h₁
  rw [stepG_region]
  simp only [goes_go, List.size_toArray, List.length_cons, List.length_nil, Nat.reduceAdd, Nat.zero_add, List.range, List.range.loop]
  refine ⟨dm_none _, ?_⟩
  exact Goes.stop fun w₁ h₁ => ⟨rfl, hF.rm h₁⟩
set_option maxRecDepth 100000 in
theorem way_quit1 (hF : KW Mine i c o q g r Cr O Q w) : Comes E Mine i c o q g r Cr O Q (fun a _ => a = gDone i c o q g r Cr O Q) ((gSel1 i c o q g r Cr O Q J).finishComm Try.prog #[rcase Cr (.slice none 0 0), rcase Q (.bool false)] .select 1 (.bool false) false) w := by
  refine ⟨60, ?_⟩
  show Goes _ _ _ _ _ _ (Go.Conc.served (gSel1 i c o q g r Cr O Q J) (commResult #[rcase Cr (.slice none 0 0), rcase Q (.bool false)] .select 1 (.bool false) false)) w
  rw [resSel1 _ _ _ _ _ _ _ rfl]
  unfold gSel1
  rw [served_fr, Frame.finish_at]
  simp only [sel1W, loopW, bodyW, Try.f20, Option.getD_some, cIn, cSnd, cFst, cOps]
  walk_nrm
  refine Goes.step rfl (fun _ h₁ => ?_)
  replace hF := hF.rm h₁
  clear h₁
  refine goes_oper_k rfl rfl (by decide) (fun K hK => ?_)
  go_simp
  refine hK _ _ ⟨dm_ev (fun e he => ?_), ?_⟩
  · have hm := mem_listed he
    simp [go_sem] at hm
  clear hK K
  refine Goes.step rfl (fun _ h₁ => ?_)
  replace hF := hF.rm h₁
  clear h₁
  refine goes_oper_k rfl rfl (by decide) (fun K hK => ?_)
  go_simp
  refine hK _ _ ⟨dm_ev (fun e he => ?_), ?_⟩
  · have hm := mem_listed he
    simp [go_sem] at hm
  clear hK K
  refine Goes.step rfl (fun _ h₁ => ?_)
  replace hF := hF.rm h₁
  clear h₁
  refine goes_oper_k rfl rfl (by decide) (fun K hK => ?_)
  go_simp
  refine hK _ _ ⟨dm_ev (fun e he => ?_), ?_⟩
  · have hm := mem_listed he
    simp [go_sem] at hm
  clear hK K
  refine Goes.step rfl (fun _ h₁ => ?_)
  replace hF := hF.rm h₁
  clear h₁
  rw [stepG_region_end]
  simp only [goes_go]
  refine ⟨dm_none _, ?_⟩
  refine Goes.step rfl (fun _ h₁ => ?_)
  replace hF := hF.rm h₁
  clear h₁
  rw [stepG_block]
  simp only [goes_go]
  refine ⟨dm_none _, ?_⟩
  refine Goes.step rfl (fun _ h₁ => ?_)
  replace hF := hF.rm h₁
  clear h₁
  rw [stepG_cond (t := false) rfl]
  simp only [goes_go, if_true, if_false, Bool.false_eq_true, ↓reduceIte]
  refine ⟨dm_none _, ?_⟩
  refine Goes.step rfl (fun _ h₁ => ?_)
  replace hF := hF.rm h₁
  clear h₁
  rw [stepG_cond (t := true) rfl]
  simp only [goes_go, if_true, if_false, Bool.false_eq_true, ↓reduceIte]
  refine ⟨dm_none _, ?_⟩
  refine Goes.step rfl (fun _ h₁ => ?_)
  replace hF := hF.rm h₁
  clear h₁
  rw [stepG_ret']
  simp only [goes_go]
  refine ⟨dm_none _, ?_⟩
  simp only [fr19, body19, Try.f19, Option.getD_some, cIn, cSnd, cFst, cOps]
  refine Goes.step rfl (fun _ h₁ => ?_)
  replace hF := hF.rm h₁
  clear h₁
  refine goes_leave0 rfl rfl Try.func20 rfl ⟨dm_none _, ?_⟩
  walk_nrm
  refine Goes.step rfl (fun _ h₁ => ?_)
  replace hF := hF.rm h₁
  clear h₁
  rw [stepG_region_end]
  simp only [goes_go]
  refine ⟨dm_none _, ?_⟩
  refine Goes.step rfl (fun _ h₁ => ?_)
  replace hF := hF.rm h₁
  clear h₁
  rw [stepG_region]
  simp only [goes_go, List.size_toArray, List.length_cons, List.length_nil, Nat.reduceAdd, Nat.zero_add, List.range, List.range.loop]
  refine ⟨dm_none _, ?_⟩
  exact Goes.stop fun w₁ h₁ => ⟨rfl, hF.rm h₁⟩
end Go.Proofs.Ytiobhgemjbjipaa
