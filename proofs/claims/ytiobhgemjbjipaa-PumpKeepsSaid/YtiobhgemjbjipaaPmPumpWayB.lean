/- A way's goroutine from a message to its second select, and on. Conditions stand as premises. -/
import Derived.Test.YtiobhgemjbjipaaPmPumpWayA
import Derived.Test.YtiobhgemjbjipaaPmPumpApp
import Derived.Lib.SliceRun
set_option linter.unusedSimpArgs false
set_option linter.unusedVariables false
namespace Go.Proofs.Ytiobhgemjbjipaa
open Go.Conc Go.RowKit
variable {E : PE} {Mine : Nat → Prop} {i c o q g : Addr} {r Cr O Q : Nat} {w : World} {J : Nat → Value}
theorem Try.by8 : (Try.prog.info? 5).map (fun i => (i.zero, i.size, i.bytes)) = some (some (.int .u8 0), 1, 1) := by kernel_rfl
theorem Try.oneBy : OneInfo Try.prog 30 5 1 := by
  obtain ⟨i, hi, h⟩ := Option.map_eq_some_iff.1 Try.by8
  simp only [Prod.mk.injEq] at h
  exact ⟨Try.underlying30, i, _, hi, h.1, h.2.1, h.2.2, rfl⟩
theorem nm_clone : (Try.f38.name == "runtime.NumGoroutine") = false := by kernel_rfl
theorem events_equalIn_slice_nil {P : Program} (w : World) (d : Nat) (t e : TypeId) (a : Option Addr) (n c n' c' : Nat) (es : Array Event) (h : P.underlying t = some (.slice e)) : (Op.equalIn (d + 1) t (.slice a n c) (.slice none n' c')).events P w es = es := by
  cases a <;> simp [Op.equalIn, run_underlying h]
theorem events_eql_slice_nil {P : Program} {w : World} {t e : TypeId} {a : Option Addr} {n c : Nat} {es : Array Event} (h : P.underlying t = some (.slice e)) : (binOp .eql t (.slice a n c) (.slice none 0 0)).events P w es = es := by
  simp only [binOp]
  simp [Op.equal, Op.maxDepth, events_equalIn_slice_nil w 9999 t e a n c 0 0 es h]
/-- Slice V reads as the bytes bs; its row is one of B. -/
def Msg (B : World → Nat → Prop) (V : Value) (bs : List Int) (w : World) : Prop :=
  ∃ a n c, V = .slice a n c ∧ bs.length = n ∧ n ≤ c ∧ c ≤ maxLen ∧ (a = none → c = 0) ∧ IsB bs ∧ (n = 0 ∨ ∃ b off, a = some ⟨b, off, none⟩ ∧ b < w.heap.size ∧ B w b ∧ Cells (Value.int .u8) w b off bs)
theorem cells_same {w w₁ : World} {b off : Nat} {bs : List Int} (h : w₁.heap[b]? = w.heap[b]?) (hc : Cells (Value.int .u8) w b off bs) : Cells (Value.int .u8) w₁ b off bs := fun j x hj => (cell_same (a := ⟨b, off + j, none⟩) h).trans (hc j x hj)
theorem Msg.keep {B B' : World → Nat → Prop} {V : Value} {bs : List Int} {w₁ : World} (h : Msg B V bs w) (hs : w.heap.size ≤ w₁.heap.size) (hB : ∀ b, B w b → b < w.heap.size → w₁.heap[b]? = w.heap[b]? ∧ B' w₁ b) : Msg B' V bs w₁ := by
  obtain ⟨a, n, c, h1, h2, h3, h4, h5, h6, h7⟩ := h
  refine ⟨a, n, c, h1, h2, h3, h4, h5, h6, h7.imp id fun ⟨b, off, k1, k2, k3, k4⟩ => ?_⟩
  have e := hB b k3 k2
  exact ⟨b, off, k1, Nat.lt_of_lt_of_le k2 hs, e.2, cells_same e.1 k4⟩
theorem Msg.rm {V : Value} {bs : List Int} {w₁ : World} (h : Msg (fun _ => Mine) V bs w) (hr : RM E Mine w w₁) : Msg (fun _ => Mine) V bs w₁ := h.keep hr.size fun b hb hl => ⟨hr.block b (.inl hb) hl, hb⟩
/-- A row of bytes that the call's goroutines have made. -/
def BytN (E : PE) (w : World) (b : Nat) : Prop := E.N0 ≤ b ∧ Byt E w b
theorem Msg.rmB {V : Value} {bs : List Int} {w₁ : World} {M : Nat → Prop} (h : Msg (BytN E) V bs w) (hr : RM E M w w₁) : Msg (BytN E) V bs w₁ := h.keep hr.size fun b hb hl => by
  have e := hr.block b (.inr hb.2) hl
  obtain ⟨h0, vs, hv⟩ := hb
  exact ⟨e, h0, vs, e.trans hv⟩
theorem Msg.grow {V : Value} {bs : List Int} {w₁ : World} (h : Msg (fun _ => Mine) V bs w) (hs : w.heap.size ≤ w₁.heap.size) (hr : ∀ b, b < w.heap.size → w₁.heap[b]? = w.heap[b]?) : Msg (fun _ => Mine) V bs w₁ := h.keep hs fun b hb hl => ⟨hr b hl, hb⟩
theorem msg_nil {B B' : World → Nat → Prop} {bn bc : Nat} {bs : List Int} {w₁ : World} (h : Msg B (.slice none bn bc) bs w) : Msg B' (.slice none 0 0) bs w₁ := by
  obtain ⟨a, n, c, h1, h2, h3, h4, h5, h6, h7⟩ := h
  simp only [Value.slice.injEq] at h1
  obtain ⟨rfl, rfl, rfl⟩ := h1
  have := h5 rfl
  exact ⟨none, 0, 0, rfl, by omega, Nat.le_refl _, by unfold maxLen; omega, fun _ => rfl, h6, .inl rfl⟩
theorem KW.grow {w₁ : World} (h : KW Mine i c o q g r Cr O Q w) (hs : w.heap.size ≤ w₁.heap.size) (hr : ∀ b, b < w.heap.size → w₁.heap[b]? = w.heap[b]?) : KW Mine i c o q g r Cr O Q w₁ := by
  have hl := h.lt
  have e1 := hr _ hl.1
  have e2 := hr _ hl.2.1
  have e3 := hr _ hl.2.2.1
  have e4 := hr _ hl.2.2.2
  exact ⟨(cell_same e1).trans h.ic, (frozen_same e1).trans h.icz, (cell_same e2).trans h.cc, (frozen_same e2).trans h.ccz, (cell_same e3).trans h.oc, (frozen_same e3).trans h.ocz, (cell_same e4).trans h.qc, (frozen_same e4).trans h.qcz, by omega, h.mine⟩
/-- A new row of bytes. -/
theorem dm_new {w' : World} {es : Array Event} (hb : Below w.heap.size w w') (hs : ∀ b, w.heap.size ≤ b → b < w'.heap.size → Byt E w' b) (h : ∀ e ∈ es, EvG Mine (noF w) w.heap.size w'.heap.size e) : DM E Mine w w' es :=
  ⟨⟨⟨hb.tape, hb.os, hb.output, hb.size, fun b hl _ => hb.block b hl⟩, h⟩, hs⟩
theorem dm_alloc {T : TypeId} (hby : E.by_ = T) {cur : Array Value} {es : Array Event} (h : ∀ e ∈ es, EvG Mine (noF w) w.heap.size (w.heap.size + 1) e) : DM E Mine w (w.alloc (.cells cur T)) es := by
  subst hby
  refine dm_new ⟨rfl, rfl, rfl, by simp, fun k hk => heap_alloc_old w _ hk⟩ (fun b h1 h2 => ?_) (by simpa using h)
  have : b = w.heap.size := by simp at h2; omega
  subst this
  exact ⟨cur, heap_alloc_new w _⟩
def cFindSeq (id : Nat) : Code → Option Code
  | .seq (.region i ops d) b => if i = id then some (.seq (.region i ops d) b) else cFindSeq id b
  | .seq a b => (cFindSeq id a).orElse fun _ => cFindSeq id b
  | .block _ c => cFindSeq id c
  | .loop c => cFindSeq id c
  | .cond _ a b => (cFindSeq id a).orElse fun _ => cFindSeq id b
  | _ => none
noncomputable def sel2W : Code := (cFindSeq 8 bodyW).getD .skip
/-- A way at its second select, V in hand. -/
noncomputable def gSel2 (i c o q g : Addr) (r Cr O Q : Nat) (m V : Value) (J : Nat → Value) : Goroutine :=
  G ((base 20).at ⟨#[.int .i64 (r : Int), .chan (some Cr), .chan (some O), .chan (some Q), J 4, J 5, J 6, J 7, m, .bool true, .chan (some Cr), .chan (some Q), .tuple #[.int .i64 0, .bool true, m, .bool false], .int .i64 0, .bool true, .bool false, m, .bool true, .bool true, .bool false, .chan (some O), .int .i64 (r : Int), m, V, .agg #[.int .i64 (r : Int), V], .chan (some Q), J 26, J 27, J 28, J 29], []⟩
    [.inRegion (cOps (cFst sel2W)) [0, 1, 2, 3], .code (cSnd sel2W), .inBlock 2, .inBlock 1, .inLoop loopW, .inBlock 0]) [fr19 i c o q g r Cr O Q, bot]
set_option maxRecDepth 100000 in
set_option maxHeartbeats 1000000 in
theorem way_got (hby : E.by_ = 5) (hn0 : E.N0 ≤ i.block) {ba : Option Addr} {bn bc : Nat} {bs : List Int} (hbig : bn ≤ 140737488355328) (hF : KW Mine i c o q g r Cr O Q w ∧ Msg (fun _ => Mine) (.slice ba bn bc) bs w) :
    Comes E Mine i c o q g r Cr O Q (fun a w => ∃ m V, a = gSel2 i c o q g r Cr O Q m V J ∧ Msg (BytN E) V bs w) ((gSel1 i c o q g r Cr O Q J).finishComm Try.prog #[rcase Cr (.slice none 0 0), rcase Q (.bool false)] .select 0 (.slice ba bn bc) true) w := by
  refine ⟨100, ?_⟩
  show Goes _ _ _ _ _ _ (Go.Conc.served (gSel1 i c o q g r Cr O Q J) (commResult #[rcase Cr (.slice none 0 0), rcase Q (.bool false)] .select 0 (.slice ba bn bc) true)) w
  rw [resSel _ _ _ _ _ _ _ rfl]
  unfold gSel1
  rw [served_fr, Frame.finish_at]
  simp only [sel1W, loopW, bodyW, Try.f20, Option.getD_some, cIn, cSnd, cFst, cOps]
  walk_nrm
  refine Goes.step rfl (fun _ h₁ => ?_)
  replace hF := And.intro (hF.1.rm h₁) (hF.2.rm h₁)
  clear h₁
  refine goes_oper_k rfl rfl (by decide) (fun K hK => ?_)
  go_simp
  refine hK _ _ ⟨dm_ev (fun e he => ?_), ?_⟩
  · have hm := mem_listed he
    simp [go_sem] at hm
  clear hK K
  refine Goes.step rfl (fun _ h₁ => ?_)
  replace hF := And.intro (hF.1.rm h₁) (hF.2.rm h₁)
  clear h₁
  refine goes_oper_k rfl rfl (by decide) (fun K hK => ?_)
  go_simp
  refine hK _ _ ⟨dm_ev (fun e he => ?_), ?_⟩
  · have hm := mem_listed he
    simp [go_sem] at hm
  clear hK K
  refine Goes.step rfl (fun _ h₁ => ?_)
  replace hF := And.intro (hF.1.rm h₁) (hF.2.rm h₁)
  clear h₁
  refine goes_oper_k rfl rfl (by decide) (fun K hK => ?_)
  go_simp
  refine hK _ _ ⟨dm_ev (fun e he => ?_), ?_⟩
  · have hm := mem_listed he
    simp [go_sem] at hm
  clear hK K
  refine Goes.step rfl (fun _ h₁ => ?_)
  replace hF := And.intro (hF.1.rm h₁) (hF.2.rm h₁)
  clear h₁
  rw [stepG_region_end]
  simp only [goes_go]
  refine ⟨dm_none _, ?_⟩
  refine Goes.step rfl (fun _ h₁ => ?_)
  replace hF := And.intro (hF.1.rm h₁) (hF.2.rm h₁)
  clear h₁
  rw [stepG_block]
  simp only [goes_go]
  refine ⟨dm_none _, ?_⟩
  refine Goes.step rfl (fun _ h₁ => ?_)
  replace hF := And.intro (hF.1.rm h₁) (hF.2.rm h₁)
  clear h₁
  rw [stepG_cond (t := true) rfl]
  simp only [goes_go, if_true, if_false, Bool.false_eq_true, ↓reduceIte]
  refine ⟨dm_none _, ?_⟩
  refine Goes.step rfl (fun _ h₁ => ?_)
  replace hF := And.intro (hF.1.rm h₁) (hF.2.rm h₁)
  clear h₁
  rw [stepG_seq]
  simp only [goes_go]
  refine ⟨dm_none _, ?_⟩
  refine Goes.step rfl (fun _ h₁ => ?_)
  replace hF := And.intro (hF.1.rm h₁) (hF.2.rm h₁)
  clear h₁
  rw [stepG_region]
  simp only [goes_go, List.size_toArray, List.length_cons, List.length_nil, Nat.reduceAdd, Nat.zero_add, List.range, List.range.loop]
  refine ⟨dm_none _, ?_⟩
  refine Goes.step rfl (fun _ h₁ => ?_)
  replace hF := And.intro (hF.1.rm h₁) (hF.2.rm h₁)
  clear h₁
  refine goes_oper_k rfl rfl (by decide) (fun K hK => ?_)
  go_simp
  refine hK _ _ ⟨dm_ev (fun e he => ?_), ?_⟩
  · have hm := mem_listed he
    simp [go_sem] at hm
  clear hK K
  refine Goes.step rfl (fun _ h₁ => ?_)
  replace hF := And.intro (hF.1.rm h₁) (hF.2.rm h₁)
  clear h₁
  refine goes_oper_k rfl rfl (by decide) (fun K hK => ?_)
  go_simp
  refine hK _ _ ⟨dm_ev (fun e he => ?_), ?_⟩
  · have hm := mem_listed he
    simp [go_sem] at hm
  clear hK K
  refine Goes.step rfl (fun _ h₁ => ?_)
  replace hF := And.intro (hF.1.rm h₁) (hF.2.rm h₁)
  clear h₁
  refine goes_oper_k rfl rfl (by decide) (fun K hK => ?_)
  go_simp
  refine hK _ _ ⟨dm_ev (fun e he => ?_), ?_⟩
  · have hm := mem_listed he
    simp [go_sem] at hm
  clear hK K
  refine Goes.step rfl (fun _ h₁ => ?_)
  replace hF := And.intro (hF.1.rm h₁) (hF.2.rm h₁)
  clear h₁
  refine goes_oper_k rfl rfl (by decide) (fun K hK => ?_)
  go_simp
  refine hK _ _ ⟨dm_ev (fun e he => ?_), ?_⟩
  · have hm := mem_listed he
    simp [go_sem] at hm
  clear hK K
  refine Goes.step rfl (fun _ h₁ => ?_)
  replace hF := And.intro (hF.1.rm h₁) (hF.2.rm h₁)
  clear h₁
  rw [stepG_region_end]
  simp only [goes_go]
  refine ⟨dm_none _, ?_⟩
  refine Goes.step rfl (fun _ h₁ => ?_)
  replace hF := And.intro (hF.1.rm h₁) (hF.2.rm h₁)
  clear h₁
  rw [stepG_seq]
  simp only [goes_go]
  refine ⟨dm_none _, ?_⟩
  refine Goes.step rfl (fun _ h₁ => ?_)
  replace hF := And.intro (hF.1.rm h₁) (hF.2.rm h₁)
  clear h₁
  rw [stepG_seq]
  simp only [goes_go]
  refine ⟨dm_none _, ?_⟩
  refine Goes.step rfl (fun _ h₁ => ?_)
  replace hF := And.intro (hF.1.rm h₁) (hF.2.rm h₁)
  clear h₁
  rw [stepG_region]
  simp only [goes_go, List.size_toArray, List.length_cons, List.length_nil, Nat.reduceAdd, Nat.zero_add, List.range, List.range.loop]
  refine ⟨dm_none _, ?_⟩
  refine Goes.step rfl (fun _ h₁ => ?_)
  replace hF := And.intro (hF.1.rm h₁) (hF.2.rm h₁)
  clear h₁
  refine goes_oper_k rfl rfl (by decide) (fun K hK => ?_)
  go_simp
  refine hK _ _ ⟨dm_ev (fun e he => ?_), ?_⟩
  · have hm := mem_listed he
    simp [go_sem] at hm
  clear hK K
  refine Goes.step rfl (fun _ h₁ => ?_)
  replace hF := And.intro (hF.1.rm h₁) (hF.2.rm h₁)
  clear h₁
  refine goes_oper_k rfl rfl (by decide) (fun K hK => ?_)
  go_simp
  refine hK _ _ ⟨dm_ev (fun e he => ?_), ?_⟩
  · have hm := mem_listed he
    simp [go_sem] at hm
  clear hK K
  refine Goes.step rfl (fun _ h₁ => ?_)
  replace hF := And.intro (hF.1.rm h₁) (hF.2.rm h₁)
  clear h₁
  rw [stepG_region_end]
  simp only [goes_go]
  refine ⟨dm_none _, ?_⟩
  refine Goes.step rfl (fun _ h₁ => ?_)
  replace hF := And.intro (hF.1.rm h₁) (hF.2.rm h₁)
  clear h₁
  rw [stepG_cond (t := false) rfl]
  simp only [goes_go, if_true, if_false, Bool.false_eq_true, ↓reduceIte]
  refine ⟨dm_none _, ?_⟩
  refine Goes.step rfl (fun _ h₁ => ?_)
  replace hF := And.intro (hF.1.rm h₁) (hF.2.rm h₁)
  clear h₁
  rw [stepG_skip]
  simp only [goes_go]
  refine ⟨dm_none _, ?_⟩
  refine Goes.step rfl (fun _ h₁ => ?_)
  replace hF := And.intro (hF.1.rm h₁) (hF.2.rm h₁)
  clear h₁
  rw [stepG_seq]
  simp only [goes_go]
  refine ⟨dm_none _, ?_⟩
  refine Goes.step rfl (fun _ h₁ => ?_)
  replace hF := And.intro (hF.1.rm h₁) (hF.2.rm h₁)
  clear h₁
  rw [stepG_seq]
  simp only [goes_go]
  refine ⟨dm_none _, ?_⟩
  refine Goes.step rfl (fun _ h₁ => ?_)
  replace hF := And.intro (hF.1.rm h₁) (hF.2.rm h₁)
  clear h₁
  rw [stepG_seq]
  simp only [goes_go]
  refine ⟨dm_none _, ?_⟩
  refine Goes.step rfl (fun _ h₁ => ?_)
  replace hF := And.intro (hF.1.rm h₁) (hF.2.rm h₁)
  clear h₁
  rw [stepG_region]
  simp only [goes_go, List.size_toArray, List.length_cons, List.length_nil, Nat.reduceAdd, Nat.zero_add, List.range, List.range.loop]
  refine ⟨dm_none _, ?_⟩
  refine Goes.step rfl (fun _ h₁ => ?_)
  replace hF := And.intro (hF.1.rm h₁) (hF.2.rm h₁)
  clear h₁
  refine goes_oper_k rfl rfl (by decide) (fun K hK => ?_)
  go_simp
  refine hK _ _ ⟨dm_ev (fun e he => ?_), ?_⟩
  · have hm := mem_listed he
    simp [go_sem] at hm
  clear hK K
  refine Goes.step rfl (fun _ h₁ => ?_)
  replace hF := And.intro (hF.1.rm h₁) (hF.2.rm h₁)
  clear h₁
  rw [stepG_region_end]
  simp only [goes_go]
  refine ⟨dm_none _, ?_⟩
  refine Goes.step rfl (fun _ h₁ => ?_)
  replace hF := And.intro (hF.1.rm h₁) (hF.2.rm h₁)
  clear h₁
  rw [stepG_region]
  simp only [goes_go, List.size_toArray, List.length_cons, List.length_nil, Nat.reduceAdd, Nat.zero_add, List.range, List.range.loop]
  refine ⟨dm_none _, ?_⟩
  refine Goes.step rfl (fun _ h₁ => ?_)
  replace hF := And.intro (hF.1.rm h₁) (hF.2.rm h₁)
  clear h₁
  refine goes_oper_k rfl rfl (by decide) (fun K hK => ?_)
  go_simp
  refine hK _ _ ⟨dm_ev (fun e he => ?_), ?_⟩
  · have hm := mem_listed he
    simp [go_sem] at hm
  clear hK K
  refine Goes.step rfl (fun _ h₁ => ?_)
  replace hF := And.intro (hF.1.rm h₁) (hF.2.rm h₁)
  clear h₁
  refine goes_oper_k rfl rfl (by decide) (fun K hK => ?_)
  go_simp
  refine hK _ _ ⟨dm_ev (fun e he => ?_), ?_⟩
  · have hm := mem_listed he
    simp [go_sem] at hm
  clear hK K
  refine Goes.step rfl (fun _ h₁ => ?_)
  replace hF := And.intro (hF.1.rm h₁) (hF.2.rm h₁)
  clear h₁
  refine goes_call rfl rfl (by decide) rfl Try.func38 nm_clone rfl ⟨dm_none _, ?_⟩
  walk_nrmf Try.f38
  refine Goes.step rfl (fun _ h₁ => ?_)
  replace hF := And.intro (hF.1.rm h₁) (hF.2.rm h₁)
  clear h₁
  rw [stepG_seq]
  simp only [goes_go]
  refine ⟨dm_none _, ?_⟩
  refine Goes.step rfl (fun _ h₁ => ?_)
  replace hF := And.intro (hF.1.rm h₁) (hF.2.rm h₁)
  clear h₁
  rw [stepG_region]
  simp only [goes_go, List.size_toArray, List.length_cons, List.length_nil, Nat.reduceAdd, Nat.zero_add, List.range, List.range.loop]
  refine ⟨dm_none _, ?_⟩
  refine Goes.step rfl (fun _ h₁ => ?_)
  replace hF := And.intro (hF.1.rm h₁) (hF.2.rm h₁)
  clear h₁
  refine goes_oper_k rfl rfl (by decide) (fun K hK => ?_)
  go_simp
  refine hK _ _ ⟨dm_ev (fun e he => ?_), ?_⟩
  · have hm := mem_listed he
    simp [go_sem] at hm
  clear hK K
  refine Goes.step rfl (fun _ h₁ => ?_)
  replace hF := And.intro (hF.1.rm h₁) (hF.2.rm h₁)
  clear h₁
  rw [stepG_region_end]
  simp only [goes_go]
  refine ⟨dm_none _, ?_⟩
  refine Goes.step rfl (fun _ h₁ => ?_)
  replace hF := And.intro (hF.1.rm h₁) (hF.2.rm h₁)
  clear h₁
  rw [stepG_seq]
  simp only [goes_go]
  refine ⟨dm_none _, ?_⟩
  refine Goes.step rfl (fun _ h₁ => ?_)
  replace hF := And.intro (hF.1.rm h₁) (hF.2.rm h₁)
  clear h₁
  rw [stepG_seq]
  simp only [goes_go]
  refine ⟨dm_none _, ?_⟩
  refine Goes.step rfl (fun _ h₁ => ?_)
  replace hF := And.intro (hF.1.rm h₁) (hF.2.rm h₁)
  clear h₁
  rw [stepG_region]
  simp only [goes_go, List.size_toArray, List.length_cons, List.length_nil, Nat.reduceAdd, Nat.zero_add, List.range, List.range.loop]
  refine ⟨dm_none _, ?_⟩
  refine Goes.step rfl (fun _ h₁ => ?_)
  replace hF := And.intro (hF.1.rm h₁) (hF.2.rm h₁)
  clear h₁
  refine goes_oper_k rfl rfl (by decide) (fun K hK => ?_)
  go_simp
  refine hK _ _ ⟨dm_ev (fun e he => ?_), ?_⟩
  · have hm := mem_listed he
    simp [go_sem] at hm
  clear hK K
  cases ba with
  | none =>
    refine Goes.step rfl (fun _ h₁ => ?_)
    replace hF := And.intro (hF.1.rm h₁) (hF.2.rm h₁)
    clear h₁
    refine goes_oper_k rfl rfl (by decide) (fun K hK => ?_)
    go_simp
    refine hK _ _ ⟨dm_ev (fun e he => ?_), ?_⟩
    · have hm := mem_listed he
      simp [go_sem, events_eql_slice_nil Try.underlying30] at hm
    clear hK K
    refine Goes.step rfl (fun _ h₁ => ?_)
    replace hF := And.intro (hF.1.rm h₁) (hF.2.rm h₁)
    clear h₁
    rw [stepG_region_end]
    simp only [goes_go]
    refine ⟨dm_none _, ?_⟩
    refine Goes.step rfl (fun _ h₁ => ?_)
    replace hF := And.intro (hF.1.rm h₁) (hF.2.rm h₁)
    clear h₁
    rw [stepG_cond (t := true) rfl]
    simp only [goes_go, if_true, if_false, Bool.false_eq_true, ↓reduceIte]
    refine ⟨dm_none _, ?_⟩
    refine Goes.step rfl (fun _ h₁ => ?_)
    replace hF := And.intro (hF.1.rm h₁) (hF.2.rm h₁)
    clear h₁
    rw [stepG_seq]
    simp only [goes_go]
    refine ⟨dm_none _, ?_⟩
    refine Goes.step rfl (fun _ h₁ => ?_)
    replace hF := And.intro (hF.1.rm h₁) (hF.2.rm h₁)
    clear h₁
    rw [stepG_region]
    simp only [goes_go, List.size_toArray, List.length_cons, List.length_nil, Nat.reduceAdd, Nat.zero_add, List.range, List.range.loop]
    refine ⟨dm_none _, ?_⟩
    refine Goes.step rfl (fun _ h₁ => ?_)
    replace hF := And.intro (hF.1.rm h₁) (hF.2.rm h₁)
    clear h₁
    refine goes_oper_k rfl rfl (by decide) (fun K hK => ?_)
    go_simp
    refine hK _ _ ⟨dm_ev (fun e he => ?_), ?_⟩
    · have hm := mem_listed he
      simp [go_sem] at hm
    clear hK K
    refine Goes.step rfl (fun _ h₁ => ?_)
    replace hF := And.intro (hF.1.rm h₁) (hF.2.rm h₁)
    clear h₁
    rw [stepG_region_end]
    simp only [goes_go]
    refine ⟨dm_none _, ?_⟩
    refine Goes.step rfl (fun _ h₁ => ?_)
    replace hF := And.intro (hF.1.rm h₁) (hF.2.rm h₁)
    clear h₁
    rw [stepG_ret']
    simp only [goes_go]
    refine ⟨dm_none _, ?_⟩
    refine Goes.step rfl (fun _ h₁ => ?_)
    replace hF := And.intro (hF.1.rm h₁) (hF.2.rm h₁)
    clear h₁
    refine goes_leave1 rfl rfl Try.func38 rfl ⟨dm_none _, ?_⟩
    walk_nrm
    refine Goes.step rfl (fun _ h₁ => ?_)
    replace hF := And.intro (hF.1.rm h₁) (hF.2.rm h₁)
    clear h₁
    refine goes_oper_k rfl rfl (by decide) (fun K hK => ?_)
    go_simp
    refine hK _ _ ⟨dm_ev (fun e he => ?_), ?_⟩
    · have hm := mem_listed he
      simp [go_sem] at hm
    clear hK K
    refine Goes.step rfl (fun _ h₁ => ?_)
    replace hF := And.intro (hF.1.rm h₁) (hF.2.rm h₁)
    clear h₁
    rw [stepG_region_end]
    simp only [goes_go]
    refine ⟨dm_none _, ?_⟩
    refine Goes.step rfl (fun _ h₁ => ?_)
    replace hF := And.intro (hF.1.rm h₁) (hF.2.rm h₁)
    clear h₁
    rw [stepG_region]
    simp only [goes_go, List.size_toArray, List.length_cons, List.length_nil, Nat.reduceAdd, Nat.zero_add, List.range, List.range.loop]
    refine ⟨dm_none _, ?_⟩
    refine Goes.step rfl (fun _ h₁ => ?_)
    replace hF := And.intro (hF.1.rm h₁) (hF.2.rm h₁)
    clear h₁
    refine goes_oper_k rfl rfl (by decide) (fun K hK => ?_)
    go_simp
    refine hK _ _ ⟨dm_ev (fun e he => ?_), ?_⟩
    · have hm := mem_listed he
      simp [go_sem] at hm
    clear hK K
    refine Goes.step rfl (fun _ h₁ => ?_)
    replace hF := And.intro (hF.1.rm h₁) (hF.2.rm h₁)
    clear h₁
    rw [stepG_region_end]
    simp only [goes_go]
    refine ⟨dm_none _, ?_⟩
    refine Goes.step rfl (fun _ h₁ => ?_)
    replace hF := And.intro (hF.1.rm h₁) (hF.2.rm h₁)
    clear h₁
    rw [stepG_seq]
    simp only [goes_go]
    refine ⟨dm_none _, ?_⟩
    refine Goes.step rfl (fun _ h₁ => ?_)
    replace hF := And.intro (hF.1.rm h₁) (hF.2.rm h₁)
    clear h₁
    rw [stepG_region]
    simp only [goes_go, List.size_toArray, List.length_cons, List.length_nil, Nat.reduceAdd, Nat.zero_add, List.range, List.range.loop]
    refine ⟨dm_none _, ?_⟩
    exact Goes.stop fun w₁ h₁ => ⟨⟨_, _, rfl, msg_nil hF.2⟩, hF.1.rm h₁⟩
  | some ba =>
    refine Goes.step rfl (fun _ h₁ => ?_)
    replace hF := And.intro (hF.1.rm h₁) (hF.2.rm h₁)
    clear h₁
    refine goes_oper_k rfl rfl (by decide) (fun K hK => ?_)
    go_simp
    refine hK _ _ ⟨dm_ev (fun e he => ?_), ?_⟩
    · have hm := mem_listed he
      simp [go_sem, events_eql_slice_nil Try.underlying30] at hm
    clear hK K
    refine Goes.step rfl (fun _ h₁ => ?_)
    replace hF := And.intro (hF.1.rm h₁) (hF.2.rm h₁)
    clear h₁
    rw [stepG_region_end]
    simp only [goes_go]
    refine ⟨dm_none _, ?_⟩
    refine Goes.step rfl (fun _ h₁ => ?_)
    replace hF := And.intro (hF.1.rm h₁) (hF.2.rm h₁)
    clear h₁
    rw [stepG_cond (t := false) rfl]
    simp only [goes_go, if_true, if_false, Bool.false_eq_true, ↓reduceIte]
    refine ⟨dm_none _, ?_⟩
    refine Goes.step rfl (fun _ h₁ => ?_)
    replace hF := And.intro (hF.1.rm h₁) (hF.2.rm h₁)
    clear h₁
    rw [stepG_skip]
    simp only [goes_go]
    refine ⟨dm_none _, ?_⟩
    refine Goes.step rfl (fun _ h₁ => ?_)
    replace hF := And.intro (hF.1.rm h₁) (hF.2.rm h₁)
    clear h₁
    rw [stepG_seq]
    simp only [goes_go]
    refine ⟨dm_none _, ?_⟩
    refine Goes.step rfl (fun _ h₁ => ?_)
    replace hF := And.intro (hF.1.rm h₁) (hF.2.rm h₁)
    clear h₁
    rw [stepG_region]
    simp only [goes_go, List.size_toArray, List.length_cons, List.length_nil, Nat.reduceAdd, Nat.zero_add, List.range, List.range.loop]
    refine ⟨dm_none _, ?_⟩
    refine Goes.step rfl (fun wa h₁ => ?_)
    replace hF := And.intro (hF.1.rm h₁) (hF.2.rm h₁)
    clear h₁
    refine goes_oper_k rfl rfl (by decide) (fun K hK => ?_)
    go_simp
    refine hK _ _ ⟨dm_alloc hby (fun e he => ?_), ?_⟩
    · have hm := mem_listed he
      simp [go_sem] at hm
    clear hK K
    replace hF := And.intro (hF.1.grow (w₁ := wa.alloc (.cells #[] 5)) (by simp) fun b hl => heap_alloc_old _ _ hl) (hF.2.grow (w₁ := wa.alloc (.cells #[] 5)) (by simp) fun b hl => heap_alloc_old _ _ hl)
    refine Goes.step rfl (fun _ h₁ => ?_)
    replace hF := And.intro (hF.1.rm h₁) (hF.2.rm h₁)
    clear h₁
    refine goes_oper_k rfl rfl (by decide) (fun K hK => ?_)
    go_simp
    refine hK _ _ ⟨dm_ev (fun e he => ?_), ?_⟩
    · have hm := mem_listed he
      simp [go_sem] at hm
    clear hK K
    refine Goes.step rfl (fun wc h₁ => ?_)
    replace hF := And.intro (hF.1.rm h₁) (hF.2.rm h₁)
    clear h₁
    obtain ⟨a, n, c, h1, h2, h3, h4, h5, h6, h7⟩ := id hF.2
    simp only [Value.slice.injEq] at h1
    obtain ⟨rfl, rfl, rfl⟩ := h1
    refine goes_oper_k rfl rfl (by decide) (fun K hK => ?_)
    by_cases hn : bn = 0
    · subst hn
      obtain ⟨hr, hev⟩ := append_none (ty := 30) (w := wc) Try.oneBy ⟨wa.heap.size, 0, none⟩ (some ba) bc
      refine uponK_append (.tmp 5) (.tmp 6) 30 rfl rfl rfl hr (hK _ _ ⟨dm_ev (fun e he => ?_), ?_⟩)
      · have hm := mem_listed he
        rw [events_append_op (.tmp 5) (.tmp 6) 30 rfl rfl rfl] at hm
        exact (hev e hm).elim
      clear hK K
      replace hF := And.intro hF.1 (show Msg (BytN E) (.slice (some ⟨wa.heap.size, 0, none⟩) 0 0) bs wc from ⟨_, 0, 0, rfl, h2, Nat.le_refl _, by unfold maxLen; omega, fun _ => rfl, h6, .inl rfl⟩)
      clear h2 h3 h4 h5 h6 h7 hr hev hbig
      walk_nrm
      refine Goes.step rfl (fun _ h₁ => ?_)
      replace hF := And.intro (hF.1.rm h₁) (hF.2.rmB h₁)
      clear h₁
      refine goes_oper_k rfl rfl (by decide) (fun K hK => ?_)
      go_simp
      refine hK _ _ ⟨dm_ev (fun e he => ?_), ?_⟩
      · have hm := mem_listed he
        simp [go_sem] at hm
      clear hK K
      refine Goes.step rfl (fun _ h₁ => ?_)
      replace hF := And.intro (hF.1.rm h₁) (hF.2.rmB h₁)
      clear h₁
      rw [stepG_region_end]
      simp only [goes_go]
      refine ⟨dm_none _, ?_⟩
      refine Goes.step rfl (fun _ h₁ => ?_)
      replace hF := And.intro (hF.1.rm h₁) (hF.2.rmB h₁)
      clear h₁
      rw [stepG_ret']
      simp only [goes_go]
      refine ⟨dm_none _, ?_⟩
      refine Goes.step rfl (fun _ h₁ => ?_)
      replace hF := And.intro (hF.1.rm h₁) (hF.2.rmB h₁)
      clear h₁
      refine goes_leave1 rfl rfl Try.func38 rfl ⟨dm_none _, ?_⟩
      walk_nrm
      refine Goes.step rfl (fun _ h₁ => ?_)
      replace hF := And.intro (hF.1.rm h₁) (hF.2.rmB h₁)
      clear h₁
      refine goes_oper_k rfl rfl (by decide) (fun K hK => ?_)
      go_simp
      refine hK _ _ ⟨dm_ev (fun e he => ?_), ?_⟩
      · have hm := mem_listed he
        simp [go_sem] at hm
      clear hK K
      refine Goes.step rfl (fun _ h₁ => ?_)
      replace hF := And.intro (hF.1.rm h₁) (hF.2.rmB h₁)
      clear h₁
      rw [stepG_region_end]
      simp only [goes_go]
      refine ⟨dm_none _, ?_⟩
      refine Goes.step rfl (fun _ h₁ => ?_)
      replace hF := And.intro (hF.1.rm h₁) (hF.2.rmB h₁)
      clear h₁
      rw [stepG_region]
      simp only [goes_go, List.size_toArray, List.length_cons, List.length_nil, Nat.reduceAdd, Nat.zero_add, List.range, List.range.loop]
      refine ⟨dm_none _, ?_⟩
      refine Goes.step rfl (fun _ h₁ => ?_)
      replace hF := And.intro (hF.1.rm h₁) (hF.2.rmB h₁)
      clear h₁
      refine goes_oper_k rfl rfl (by decide) (fun K hK => ?_)
      go_simp
      refine hK _ _ ⟨dm_ev (fun e he => ?_), ?_⟩
      · have hm := mem_listed he
        simp [go_sem] at hm
      clear hK K
      refine Goes.step rfl (fun _ h₁ => ?_)
      replace hF := And.intro (hF.1.rm h₁) (hF.2.rmB h₁)
      clear h₁
      rw [stepG_region_end]
      simp only [goes_go]
      refine ⟨dm_none _, ?_⟩
      refine Goes.step rfl (fun _ h₁ => ?_)
      replace hF := And.intro (hF.1.rm h₁) (hF.2.rmB h₁)
      clear h₁
      rw [stepG_seq]
      simp only [goes_go]
      refine ⟨dm_none _, ?_⟩
      refine Goes.step rfl (fun _ h₁ => ?_)
      replace hF := And.intro (hF.1.rm h₁) (hF.2.rmB h₁)
      clear h₁
      rw [stepG_region]
      simp only [goes_go, List.size_toArray, List.length_cons, List.length_nil, Nat.reduceAdd, Nat.zero_add, List.range, List.range.loop]
      refine ⟨dm_none _, ?_⟩
      exact Goes.stop fun w₁ h₁ => ⟨⟨_, _, rfl, hF.2.rmB h₁⟩, hF.1.rm h₁⟩
    · obtain ⟨b, off, e0, hbl, hbm, hcl⟩ := h7.resolve_left hn
      simp only [Option.some.injEq] at e0
      subst e0
      obtain ⟨cap, w', hr, hge, hcm, hcells, ⟨cur, hcur⟩, hbelow, hsz, hev⟩ := append_empty (ty := 30) (w := wc) Try.oneBy ⟨wa.heap.size, 0, none⟩ (c := bc) h2 (by omega) hcl (by omega) hbig
      refine uponK_append (.tmp 5) (.tmp 6) 30 rfl rfl rfl hr (hK _ _ ⟨dm_new hbelow (fun b' h1' h2' => ?_) (fun e he => ?_), ?_⟩)
      · have : b' = wc.heap.size := by omega
        subst this
        exact ⟨cur, by rw [hby]; exact hcur⟩
      · have hm := mem_listed he
        rw [events_append_op (.tmp 5) (.tmp 6) 30 rfl rfl rfl] at hm
        rcases hev e hm with ⟨a, sy, rfl, hab⟩ | rfl
        · exact .inl ⟨a, false, sy, rfl, by omega, .inr (.inr ⟨by rw [hab]; exact hbm, rfl⟩)⟩
        · exact .inr rfl
      clear hK K
      replace hF := And.intro (hF.1.grow (w₁ := w') (by omega) hbelow.block) (show Msg (BytN E) (.slice (some ⟨wc.heap.size, 0, none⟩) bn cap) bs w' from ⟨_, _, _, rfl, h2, hge, hcm, (fun x => by cases x), h6, .inr ⟨_, _, rfl, by omega, ⟨by have := hF.1.lt.1; omega, cur, by rw [hby]; exact hcur⟩, hcells⟩⟩)
      clear hev hr hcells hcur hbelow h2 h3 h4 h5 h6 h7 hge hcm hcl hbm hbl hbig hn hsz
      walk_nrm
      refine Goes.step rfl (fun _ h₁ => ?_)
      replace hF := And.intro (hF.1.rm h₁) (hF.2.rmB h₁)
      clear h₁
      refine goes_oper_k rfl rfl (by decide) (fun K hK => ?_)
      go_simp
      refine hK _ _ ⟨dm_ev (fun e he => ?_), ?_⟩
      · have hm := mem_listed he
        simp [go_sem] at hm
      clear hK K
      refine Goes.step rfl (fun _ h₁ => ?_)
      replace hF := And.intro (hF.1.rm h₁) (hF.2.rmB h₁)
      clear h₁
      rw [stepG_region_end]
      simp only [goes_go]
      refine ⟨dm_none _, ?_⟩
      refine Goes.step rfl (fun _ h₁ => ?_)
      replace hF := And.intro (hF.1.rm h₁) (hF.2.rmB h₁)
      clear h₁
      rw [stepG_ret']
      simp only [goes_go]
      refine ⟨dm_none _, ?_⟩
      refine Goes.step rfl (fun _ h₁ => ?_)
      replace hF := And.intro (hF.1.rm h₁) (hF.2.rmB h₁)
      clear h₁
      refine goes_leave1 rfl rfl Try.func38 rfl ⟨dm_none _, ?_⟩
      walk_nrm
      refine Goes.step rfl (fun _ h₁ => ?_)
      replace hF := And.intro (hF.1.rm h₁) (hF.2.rmB h₁)
      clear h₁
      refine goes_oper_k rfl rfl (by decide) (fun K hK => ?_)
      go_simp
      refine hK _ _ ⟨dm_ev (fun e he => ?_), ?_⟩
      · have hm := mem_listed he
        simp [go_sem] at hm
      clear hK K
      refine Goes.step rfl (fun _ h₁ => ?_)
      replace hF := And.intro (hF.1.rm h₁) (hF.2.rmB h₁)
      clear h₁
      rw [stepG_region_end]
      simp only [goes_go]
      refine ⟨dm_none _, ?_⟩
      refine Goes.step rfl (fun _ h₁ => ?_)
      replace hF := And.intro (hF.1.rm h₁) (hF.2.rmB h₁)
      clear h₁
      rw [stepG_region]
      simp only [goes_go, List.size_toArray, List.length_cons, List.length_nil, Nat.reduceAdd, Nat.zero_add, List.range, List.range.loop]
      refine ⟨dm_none _, ?_⟩
      refine Goes.step rfl (fun _ h₁ => ?_)
      replace hF := And.intro (hF.1.rm h₁) (hF.2.rmB h₁)
      clear h₁
      refine goes_oper_k rfl rfl (by decide) (fun K hK => ?_)
      go_simp
      refine hK _ _ ⟨dm_ev (fun e he => ?_), ?_⟩
      · have hm := mem_listed he
        simp [go_sem] at hm
      clear hK K
      refine Goes.step rfl (fun _ h₁ => ?_)
      replace hF := And.intro (hF.1.rm h₁) (hF.2.rmB h₁)
      clear h₁
      rw [stepG_region_end]
      simp only [goes_go]
      refine ⟨dm_none _, ?_⟩
      refine Goes.step rfl (fun _ h₁ => ?_)
      replace hF := And.intro (hF.1.rm h₁) (hF.2.rmB h₁)
      clear h₁
      rw [stepG_seq]
      simp only [goes_go]
      refine ⟨dm_none _, ?_⟩
      refine Goes.step rfl (fun _ h₁ => ?_)
      replace hF := And.intro (hF.1.rm h₁) (hF.2.rmB h₁)
      clear h₁
      rw [stepG_region]
      simp only [goes_go, List.size_toArray, List.length_cons, List.length_nil, Nat.reduceAdd, Nat.zero_add, List.range, List.range.loop]
      refine ⟨dm_none _, ?_⟩
      exact Goes.stop fun w₁ h₁ => ⟨⟨_, _, rfl, hF.2.rmB h₁⟩, hF.1.rm h₁⟩
end Go.Proofs.Ytiobhgemjbjipaa
