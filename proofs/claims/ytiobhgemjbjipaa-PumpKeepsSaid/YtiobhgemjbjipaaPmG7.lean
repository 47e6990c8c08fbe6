/- Contracts and plain laws that this claim uses, each with its conditions as premises. -/
import Derived.Test.YtiobhgemjbjipaaPmG5
import Derived.Test.YtiobhgemjbjipaaPmPumpGather
/- First: it takes what comes till it has enough, closes its stop, passes over the rest. Conditions stand as premises. -/
set_option linter.unusedSimpArgs false
set_option linter.unusedVariables false
namespace Go.Proofs.Ytiobhgemjbjipaa
open Go.Conc Go.RowKit Go.Conc.Lib
open Go.ConcR (KK wgBlock WgAt stA smA rd wr mk DC0)
open Go.ConcN (WgLive)
variable {E : PE} {w0 w w₁ : World} {N c : Nat} {nF : Int} {Jn : Nat → Value} {c0 : Frame} {cs : List Frame} {lv wsl sl : Value} {MB : Value → List Int → Prop} {ys : List (Nat × Value × Value)}
noncomputable def bodyF : Code := (Try.f14).body.getD .skip
noncomputable def t4F : Code := cSnd (cSnd (cSnd (cSnd bodyF)))
noncomputable def loop1F : Code := cIn (cIn (cFst t4F))
noncomputable def rest1F : Code := cSnd t4F
noncomputable def t8F : Code := cSnd rest1F
noncomputable def loop2F : Code := cIn (cIn (cSnd (cFst t8F)))
noncomputable def rest2F : Code := cSnd t8F
/-- First at its receive; at its close; at the second loop's receive. -/
noncomputable def gF1 (E : PE) (lv : Value) (nF : Int) (c : Nat) (sl : Value) (J : Nat → Value) (c0 : Frame) (cs : List Frame) : Goroutine :=
  G ((base 14).at ⟨#[lv, .int .i64 nF, undef, undef, .slice none 0 0, .chan (some c), .chan (some E.O), sl, J 8, J 9, J 10, J 11, J 12, J 13, J 14, J 15, J 16, J 17, J 18, J 19, .chan (some E.O), J 21, J 22, J 23, J 24, J 25, J 26, J 27, J 28, J 29, J 30, J 31, J 32, J 33, J 34], []⟩ [.inRegion (cOps (cFst (cIn (cSnd loop1F)))) [1, 2, 3, 4, 5, 6, 7], .code (cSnd (cIn (cSnd loop1F))), .inBlock 1, .inLoop loop1F, .inBlock 0, .code rest1F]) (c0 :: cs)
noncomputable def gFc (E : PE) (lv : Value) (nF : Int) (c : Nat) (sl : Value) (J : Nat → Value) (c0 : Frame) (cs : List Frame) : Goroutine :=
  G ((base 14).at ⟨#[lv, .int .i64 nF, undef, undef, .slice none 0 0, .chan (some c), .chan (some E.O), sl, J 8, J 9, J 10, J 11, J 12, J 13, J 14, J 15, J 16, J 17, J 18, J 19, J 20, J 21, J 22, J 23, J 24, J 25, J 26, J 27, J 28, J 29, .chan (some c), J 31, J 32, J 33, J 34], []⟩ [.inRegion (cOps (cFst rest1F)) [1], .code (cSnd rest1F)]) (c0 :: cs)
noncomputable def gFd (E : PE) (lv : Value) (nF : Int) (c : Nat) (sl : Value) (J : Nat → Value) (c0 : Frame) (cs : List Frame) : Goroutine :=
  G ((base 14).at ⟨#[lv, .int .i64 nF, undef, undef, .slice none 0 0, .chan (some c), .chan (some E.O), sl, J 8, J 9, J 10, J 11, J 12, J 13, J 14, J 15, J 16, J 17, J 18, J 19, J 20, J 21, J 22, J 23, J 24, J 25, J 26, J 27, J 28, J 29, .chan (some c), J 31, J 32, J 33, J 34], []⟩ [.inRegion (cOps (cFst rest1F)) [], .code (cSnd rest1F)]) (c0 :: cs)
noncomputable def gF2 (E : PE) (lv : Value) (nF : Int) (c : Nat) (sl : Value) (J : Nat → Value) (c0 : Frame) (cs : List Frame) : Goroutine :=
  G ((base 14).at ⟨#[lv, .int .i64 nF, undef, undef, .slice none 0 0, .chan (some c), .chan (some E.O), sl, J 8, J 9, J 10, J 11, J 12, J 13, J 14, J 15, J 16, J 17, J 18, J 19, J 20, J 21, J 22, J 23, J 24, J 25, J 26, J 27, J 28, J 29, J 30, .chan (some E.O), J 32, J 33, J 34], []⟩ [.inRegion (cOps (cFst loop2F)) [0, 1], .code (cSnd loop2F), .inLoop loop2F, .inBlock 2, .code rest2F]) (c0 :: cs)
theorem KG.eq (h : KG E w0 N sl ys [] w) : ∃ a n cap, n ≤ ys.length ∧ ys.length ≤ n ∧ sl = .slice a n cap := by
  rcases h.own.2 with ⟨rfl, h0⟩ | ⟨g, cap, cur, rfl, _⟩
  · exact ⟨none, 0, 0, Nat.zero_le _, Nat.le_of_eq h0, rfl⟩
  · exact ⟨_, _, _, Nat.le_refl _, Nat.le_refl _, rfl⟩
theorem r0_close (hE : E.Ok) (hSt : E.St = some c) {s r : Nat} {tm : Bool} (hc : w.heap[c]? = some (.chan 0 #[] false s r tm)) : R0 E w (w.setChan c 0 #[] true s r tm) := by
  have hcw : c ≠ E.Wg := (hE.st c hSt).1
  refine ⟨by rw [size_setChan]; exact Nat.le_refl _, fun b hb _ => ?_, fun ⟨st, sm, x⟩ => ⟨st, sm, x.of_block (heap_setChan_ne _ _ _ _ _ _ _ hcw)⟩, ⟨rfl, rfl⟩⟩
  refine heap_setChan_ne _ _ _ _ _ _ _ fun e => ?_
  subst e
  rcases hb with hb | ⟨vs, hv⟩
  · exact hb (.inr (.inr (.inr (.inr (.inl hSt)))))
  · rw [hc] at hv; cases hv
/-- First has so much: it stands at its receive, or at its close. -/
def FStop (E : PE) (w0 : World) (N : Nat) (lv : Value) (nF : Int) (c : Nat) (c0 : Frame) (cs : List Frame) (ys : List (Nat × Value × Value)) (g : Goroutine) (w : World) : Prop :=
  ∃ sl J, ((g = gF1 E lv nF c sl J c0 cs ∧ (ys.length : Int) < nF) ∨ (g = gFc E lv nF c sl J c0 cs ∧ nF ≤ (ys.length : Int))) ∧ KG E w0 N sl ys [] w
set_option maxRecDepth 100000 in
set_option maxHeartbeats 8000000 in
theorem first_take (hE : E.Ok) (W : EW E MB) {kn : Nat} {v : Value} {kk : Int} {va : Option Addr} {vn vc : Nat} (hlen : ys.length < 1000000) (hk : kn < E.n) (hfx : E.Fits kn v (.agg #[.int .i64 kk, .slice va vn vc]) w) (hF : KG E w0 N sl ys [] w) :
    Goes Try.prog true (R0 E) (D0 E N) (FStop E w0 N lv nF c c0 cs (ys ++ [(kn, v, .agg #[.int .i64 kk, .slice va vn vc])])) 80 ((core (gF1 E lv nF c sl Jn c0 cs)).finishComm Try.prog E.cs5 (.recv true) 0 (.agg #[.int .i64 kk, .slice va vn vc]) true) w := by
  unfold FStop gF1 gFc
  simp only [loop1F, loop2F, rest1F, rest2F, t8F, t4F, bodyF, Try.f14, Option.getD_some, cSnd, cFst, cIn, cOps]
  rw [fin_G, Frame.finish_at, show commResult E.cs5 (.recv true) 0 (.agg #[.int .i64 kk, .slice va vn vc]) true = .tuple #[.agg #[.int .i64 kk, .slice va vn vc], .bool true] from rfl]
  walk_nrm
  refine Goes.step rfl (fun _ h₁ => ?_)
  replace hfx := fits_keep W hfx h₁.size (fun b hb => h₁.block b (.inr hb) (byt_lt hb))
  replace hF := hF.r0 hE W h₁
  clear h₁
  refine goes_oper_k rfl rfl (by decide) (fun K hK => ?_)
  go_simp
  refine hK _ _ ⟨d0_ev (fun e he => ?_), ?_⟩
  · have hm := mem_listed he
    simp [go_sem] at hm
  clear hK K
  refine Goes.step rfl (fun _ h₁ => ?_)
  replace hfx := fits_keep W hfx h₁.size (fun b hb => h₁.block b (.inr hb) (byt_lt hb))
  replace hF := hF.r0 hE W h₁
  clear h₁
  refine goes_oper_k rfl rfl (by decide) (fun K hK => ?_)
  go_simp
  refine hK _ _ ⟨d0_ev (fun e he => ?_), ?_⟩
  · have hm := mem_listed he
    simp [go_sem] at hm
  clear hK K
  refine Goes.step rfl (fun _ h₁ => ?_)
  replace hfx := fits_keep W hfx h₁.size (fun b hb => h₁.block b (.inr hb) (byt_lt hb))
  replace hF := hF.r0 hE W h₁
  clear h₁
  refine goes_oper_k rfl rfl (by decide) (fun K hK => ?_)
  go_simp
  refine hK _ _ ⟨d0_ev (fun e he => ?_), ?_⟩
  · have hm := mem_listed he
    simp [go_sem] at hm
  clear hK K
  refine g0_opv rfl rfl (by decide) (fun w1 h₁ => ?_)
  replace hfx := fits_keep W hfx h₁.size (fun b hb => h₁.block b (.inr hb) (byt_lt hb))
  replace hF := hF.r0 hE W h₁
  clear h₁
  refine ⟨.pointer (some ⟨w1.heap.size, 0, none⟩), w1.alloc (.cells #[.int .i64 0, .slice none 0 0] 33), by simp [go_sem, execOp], adds_alloc _, fun e he => ?_, ?_⟩
  · simp [go_sem, execOp] at he
  replace hF := hF.alloc hE W #[.int .i64 0, .slice none 0 0]
  obtain ⟨p, hp⟩ : ∃ p, p = w1.heap.size := ⟨_, rfl⟩
  rw [← hp] at hF ⊢
  clear hp
  walk_nrm
  replace hfx := fits_keep (w' := w1.alloc (.cells #[.int .i64 0, .slice none 0 0] 33)) W hfx (by simp) (fun b hb => ah_old w1 _ (byt_lt hb))
  refine g0_opn rfl rfl (by decide) (fun w1 h₁ => ?_)
  replace hfx := fits_keep W hfx h₁.size (fun b hb => h₁.block b (.inr hb) (byt_lt hb))
  replace hF := hF.r0 hE W h₁
  clear h₁
  have hq := hF.l (p, #[.int .i64 0, .slice none 0 0]) (by simp)
  have hst := got_store (kk := kk) (va := va) (vn := vn) (vc := vc) hq.2.1
  have hz := (aside_setCell (w1.setCell ⟨p, 0, none⟩ (.int .i64 kk)) ⟨p, 1, none⟩ (.slice va vn vc)).size.trans (aside_setCell w1 ⟨p, 0, none⟩ (.int .i64 kk)).size
  have hb : ∀ b, b ≠ p → ((w1.setCell ⟨p, 0, none⟩ (.int .i64 kk)).setCell ⟨p, 1, none⟩ (.slice va vn vc)).heap[b]? = w1.heap[b]? := fun b hb => ((aside_setCell (w1.setCell ⟨p, 0, none⟩ (.int .i64 kk)) ⟨p, 1, none⟩ (.slice va vn vc)).block b hb).trans ((aside_setCell w1 ⟨p, 0, none⟩ (.int .i64 kk)).block b hb)
  have hFp : F0 E N w1 p := ⟨hq.1, notByt33 W.by_ hq.2.1⟩
  refine ⟨(w1.setCell ⟨p, 0, none⟩ (.int .i64 kk)).setCell ⟨p, 1, none⟩ (.slice va vn vc), run_u hst.1, ⟨rfl, rfl, rfl, Nat.le_of_eq hz.symm, fun b _ hn => hb b fun e => hn (e ▸ hFp)⟩, fun e he => ?_, ?_⟩
  · have he' : e ∈ (Instr.storeAt 33 (.pointer (some ⟨p, 0, none⟩)) (.agg #[.int .i64 kk, .slice va vn vc])).events Try.prog w1 #[] := by
      rw [← ev_u hst.1]; exact he
    obtain ⟨ad, rfl, hab⟩ := hst.2 e he'
    exact ev_F (by rw [hab]; exact hFp) (by rw [hab, hz]; exact lt_of_heap hq.2.1)
  replace hfx := fits_keep (w' := (w1.setCell ⟨p, 0, none⟩ (.int .i64 kk)).setCell ⟨p, 1, none⟩ (.slice va vn vc)) W hfx (Nat.le_of_eq hz.symm) (fun b hB => hb b fun e => notByt33 W.by_ hq.2.1 (e ▸ hB))
  replace hF := hF.turn hE W W.by_ hz hb (setCell_two1 (setCell_two0 hq.2.1))
  clear hq hst hz hb hFp
  walk_nrm
  refine Goes.step rfl (fun _ h₁ => ?_)
  replace hfx := fits_keep W hfx h₁.size (fun b hb => h₁.block b (.inr hb) (byt_lt hb))
  replace hF := hF.r0 hE W h₁
  clear h₁
  refine goes_oper_k rfl rfl (by decide) (fun K hK => ?_)
  go_simp
  refine hK _ _ ⟨d0_ev (fun e he => ?_), ?_⟩
  · have hm := mem_listed he
    simp [go_sem] at hm
  clear hK K
  refine Goes.step rfl (fun _ h₁ => ?_)
  replace hfx := fits_keep W hfx h₁.size (fun b hb => h₁.block b (.inr hb) (byt_lt hb))
  replace hF := hF.r0 hE W h₁
  clear h₁
  rw [stepG_region_end]
  simp only [goes_go]
  refine ⟨d0_none _, ?_⟩
  refine Goes.step rfl (fun _ h₁ => ?_)
  replace hfx := fits_keep W hfx h₁.size (fun b hb => h₁.block b (.inr hb) (byt_lt hb))
  replace hF := hF.r0 hE W h₁
  clear h₁
  rw [stepG_seq]
  simp only [goes_go]
  refine ⟨d0_none _, ?_⟩
  refine Goes.step rfl (fun _ h₁ => ?_)
  replace hfx := fits_keep W hfx h₁.size (fun b hb => h₁.block b (.inr hb) (byt_lt hb))
  replace hF := hF.r0 hE W h₁
  clear h₁
  rw [stepG_seq]
  simp only [goes_go]
  refine ⟨d0_none _, ?_⟩
  refine Goes.step rfl (fun _ h₁ => ?_)
  replace hfx := fits_keep W hfx h₁.size (fun b hb => h₁.block b (.inr hb) (byt_lt hb))
  replace hF := hF.r0 hE W h₁
  clear h₁
  rw [stepG_region]
  simp only [goes_go, List.size_toArray, List.length_cons, List.length_nil, Nat.reduceAdd, Nat.zero_add, List.range, List.range.loop]
  refine ⟨d0_none _, ?_⟩
  refine Goes.step rfl (fun _ h₁ => ?_)
  replace hfx := fits_keep W hfx h₁.size (fun b hb => h₁.block b (.inr hb) (byt_lt hb))
  replace hF := hF.r0 hE W h₁
  clear h₁
  refine goes_oper_k rfl rfl (by decide) (fun K hK => ?_)
  go_simp
  refine hK _ _ ⟨d0_ev (fun e he => ?_), ?_⟩
  · have hm := mem_listed he
    simp [go_sem] at hm
  clear hK K
  refine Goes.step rfl (fun _ h₁ => ?_)
  replace hfx := fits_keep W hfx h₁.size (fun b hb => h₁.block b (.inr hb) (byt_lt hb))
  replace hF := hF.r0 hE W h₁
  clear h₁
  refine goes_oper_k rfl rfl (by decide) (fun K hK => ?_)
  go_simp
  refine hK _ _ ⟨d0_ev (fun e he => ?_), ?_⟩
  · have hm := mem_listed he
    simp [go_sem] at hm
  clear hK K
  refine Goes.step rfl (fun _ h₁ => ?_)
  replace hfx := fits_keep W hfx h₁.size (fun b hb => h₁.block b (.inr hb) (byt_lt hb))
  replace hF := hF.r0 hE W h₁
  clear h₁
  rw [stepG_region_end]
  simp only [goes_go]
  refine ⟨d0_none _, ?_⟩
  refine Goes.step rfl (fun _ h₁ => ?_)
  replace hfx := fits_keep W hfx h₁.size (fun b hb => h₁.block b (.inr hb) (byt_lt hb))
  replace hF := hF.r0 hE W h₁
  clear h₁
  rw [stepG_cond (t := false) rfl]
  simp only [goes_go, if_true, if_false, Bool.false_eq_true, ↓reduceIte]
  refine ⟨d0_none _, ?_⟩
  refine Goes.step rfl (fun _ h₁ => ?_)
  replace hfx := fits_keep W hfx h₁.size (fun b hb => h₁.block b (.inr hb) (byt_lt hb))
  replace hF := hF.r0 hE W h₁
  clear h₁
  rw [stepG_skip]
  simp only [goes_go]
  refine ⟨d0_none _, ?_⟩
  refine Goes.step rfl (fun _ h₁ => ?_)
  replace hfx := fits_keep W hfx h₁.size (fun b hb => h₁.block b (.inr hb) (byt_lt hb))
  replace hF := hF.r0 hE W h₁
  clear h₁
  rw [stepG_region]
  simp only [goes_go, List.size_toArray, List.length_cons, List.length_nil, Nat.reduceAdd, Nat.zero_add, List.range, List.range.loop]
  refine ⟨d0_none _, ?_⟩
  refine Goes.step rfl (fun _ h₁ => ?_)
  replace hfx := fits_keep W hfx h₁.size (fun b hb => h₁.block b (.inr hb) (byt_lt hb))
  replace hF := hF.r0 hE W h₁
  clear h₁
  refine goes_oper_k rfl rfl (by decide) (fun K hK => ?_)
  go_simp
  refine hK _ _ ⟨d0_ev (fun e he => ?_), ?_⟩
  · have hm := mem_listed he
    simp [go_sem] at hm
  clear hK K
  refine g0_opv rfl rfl (by decide) (fun w1 h₁ => ?_)
  replace hfx := fits_keep W hfx h₁.size (fun b hb => h₁.block b (.inr hb) (byt_lt hb))
  replace hF := hF.r0 hE W h₁
  clear h₁
  have hq := hF.l (p, #[.int .i64 kk, .slice va vn vc]) (by simp)
  have hst := got_load hq.2.1
  refine ⟨.agg #[.int .i64 kk, .slice va vn vc], w1, run_v hst.1, .refl _, fun e he => ?_, ?_⟩
  · have he' : e ∈ (Instr.loadAt 33 (.pointer (some ⟨p, 0, none⟩))).events Try.prog w1 #[] := by
      rw [← ev_v hst.1]; exact he
    obtain ⟨ad, rfl, hab⟩ := hst.2 e he'
    exact ev_F (by rw [hab]; exact ⟨hq.1, notByt33 W.by_ hq.2.1⟩) (by rw [hab]; exact lt_of_heap hq.2.1)
  clear hq hst
  walk_nrm
  refine g0_opv rfl rfl (by decide) (fun w1 h₁ => ?_)
  replace hfx := fits_keep W hfx h₁.size (fun b hb => h₁.block b (.inr hb) (byt_lt hb))
  replace hF := hF.r0 hE W h₁
  clear h₁
  refine ⟨.slice (some ⟨w1.heap.size, 0, none⟩) 1 1, w1.alloc (.cells #[.int .i64 kk, .slice va vn vc] 33), by simp [go_sem, execOp], adds_alloc _, fun e he => ?_, ?_⟩
  · simp [go_sem, execOp] at he
  replace hF := hF.alloc hE W #[.int .i64 kk, .slice va vn vc]
  obtain ⟨tb, hp⟩ : ∃ p, p = w1.heap.size := ⟨_, rfl⟩
  rw [← hp] at hF ⊢
  clear hp
  walk_nrm
  replace hfx := fits_keep (w' := w1.alloc (.cells #[.int .i64 kk, .slice va vn vc] 33)) W hfx (by simp) (fun b hb => ah_old w1 _ (byt_lt hb))
  refine g0_opv rfl rfl (by decide) (fun w1 h₁ => ?_)
  have hfx := fits_keep W hfx h₁.size (fun b hb => h₁.block b (.inr hb) (byt_lt hb))
  replace hF := hF.r0 hE W h₁
  clear h₁
  have hq := hF.l (tb, #[.int .i64 kk, .slice va vn vc]) (by simp)
  obtain ⟨v', w', r1, r2, r3, r4⟩ := got_append (ty := 25) (tc := 1) hF.own hF.j.n1 hlen hq.2.1
  refine ⟨v', w', run_append_op (.tmp 26) (.tmp 28) 25 rfl rfl rfl r1, adds_grown r3 (hF.ownF W.by_), fun e he => ?_, ?_⟩
  · rw [events_append_op (.tmp 26) (.tmp 28) 25 rfl rfl rfl] at he
    rcases r4 e he with ⟨ad, wr, sy, rfl, hab | hab⟩ | rfl
    · exact ev_F (by rw [hab]; exact ⟨hq.1, notByt33 W.by_ hq.2.1⟩) (by rw [hab]; exact Nat.lt_of_lt_of_le (lt_of_heap hq.2.1) r3.size)
    · exact ev_F (hF.ownF W.by_ _ hab.symm) (Nat.lt_of_lt_of_le (World.ownsRow.lt hF.own _ hab.symm).2 r3.size)
    · exact .inr rfl
  replace hF := hF.put hE W W.by_ r2 r3 hk hfx
  clear hq r1 r2 r3 r4 hfx
  walk_nrm
  obtain ⟨oa, on, oc, hon1, hon2, rfl⟩ := hF.eq
  refine Goes.step rfl (fun _ h₁ => ?_)
  replace hF := hF.r0 hE W h₁
  clear h₁
  refine goes_oper_k rfl rfl (by decide) (fun K hK => ?_)
  go_simp
  refine hK _ _ ⟨d0_ev (fun e he => ?_), ?_⟩
  · have hm := mem_listed he
    simp [go_sem] at hm
  clear hK K
  refine Goes.step rfl (fun _ h₁ => ?_)
  replace hF := hF.r0 hE W h₁
  clear h₁
  rw [stepG_region_end]
  simp only [goes_go]
  refine ⟨d0_none _, ?_⟩
  refine Goes.step rfl (fun _ h₁ => ?_)
  replace hF := hF.r0 hE W h₁
  clear h₁
  rw [stepG_inBlock]
  simp only [goes_go]
  refine ⟨d0_none _, ?_⟩
  refine Goes.step rfl (fun _ h₁ => ?_)
  replace hF := hF.r0 hE W h₁
  clear h₁
  rw [stepG_inLoop]
  simp only [goes_go]
  refine ⟨d0_none _, ?_⟩
  refine Goes.step rfl (fun _ h₁ => ?_)
  replace hF := hF.r0 hE W h₁
  clear h₁
  rw [stepG_seq]
  simp only [goes_go]
  refine ⟨d0_none _, ?_⟩
  refine Goes.step rfl (fun _ h₁ => ?_)
  replace hF := hF.r0 hE W h₁
  clear h₁
  rw [stepG_seq]
  simp only [goes_go]
  refine ⟨d0_none _, ?_⟩
  refine Goes.step rfl (fun _ h₁ => ?_)
  replace hF := hF.r0 hE W h₁
  clear h₁
  rw [stepG_region]
  simp only [goes_go, List.size_toArray, List.length_cons, List.length_nil, Nat.reduceAdd, Nat.zero_add, List.range, List.range.loop]
  refine ⟨d0_none _, ?_⟩
  refine Goes.step rfl (fun _ h₁ => ?_)
  replace hF := hF.r0 hE W h₁
  clear h₁
  refine goes_oper_k rfl rfl (by decide) (fun K hK => ?_)
  go_simp
  refine hK _ _ ⟨d0_ev (fun e he => ?_), ?_⟩
  · have hm := mem_listed he
    simp [go_sem] at hm
  clear hK K
  refine Goes.step rfl (fun _ h₁ => ?_)
  replace hF := hF.r0 hE W h₁
  clear h₁
  refine goes_oper_k rfl rfl (by decide) (fun K hK => ?_)
  go_simp
  refine hK _ _ ⟨d0_ev (fun e he => ?_), ?_⟩
  · have hm := mem_listed he
    simp [go_sem] at hm
  clear hK K
  refine Goes.step rfl (fun _ h₁ => ?_)
  replace hF := hF.r0 hE W h₁
  clear h₁
  refine goes_oper_k rfl rfl (by decide) (fun K hK => ?_)
  go_simp
  refine hK _ _ ⟨d0_ev (fun e he => ?_), ?_⟩
  · have hm := mem_listed he
    simp [go_sem] at hm
  clear hK K
  cases hd : decide ((on : Int) < nF)
  ·
    refine Goes.step rfl (fun _ h₁ => ?_)
    replace hF := hF.r0 hE W h₁
    clear h₁
    refine goes_oper_k rfl rfl (by decide) (fun K hK => ?_)
    have f0 := hd
    go_simp
    refine hK _ _ ⟨d0_ev (fun e he => ?_), ?_⟩
    · have hm := mem_listed he
      simp [go_sem, f0] at hm
    clear hK K f0
    refine Goes.step rfl (fun _ h₁ => ?_)
    replace hF := hF.r0 hE W h₁
    clear h₁
    rw [stepG_region_end]
    simp only [goes_go]
    refine ⟨d0_none _, ?_⟩
    refine Goes.step rfl (fun _ h₁ => ?_)
    replace hF := hF.r0 hE W h₁
    clear h₁
    rw [stepG_cond (t := false) rfl]
    simp only [goes_go, if_true, if_false, Bool.false_eq_true, ↓reduceIte]
    refine ⟨d0_none _, ?_⟩
    refine Goes.step rfl (fun _ h₁ => ?_)
    replace hF := hF.r0 hE W h₁
    clear h₁
    refine goes_exit rfl ?_
    refine ⟨d0_none _, ?_⟩
    refine Goes.step rfl (fun _ h₁ => ?_)
    replace hF := hF.r0 hE W h₁
    clear h₁
    rw [stepG_seq]
    simp only [goes_go]
    refine ⟨d0_none _, ?_⟩
    refine Goes.step rfl (fun _ h₁ => ?_)
    replace hF := hF.r0 hE W h₁
    clear h₁
    rw [stepG_region]
    simp only [goes_go, List.size_toArray, List.length_cons, List.length_nil, Nat.reduceAdd, Nat.zero_add, List.range, List.range.loop]
    refine ⟨d0_none _, ?_⟩
    refine Goes.step rfl (fun _ h₁ => ?_)
    replace hF := hF.r0 hE W h₁
    clear h₁
    refine goes_oper_k rfl rfl (by decide) (fun K hK => ?_)
    go_simp
    refine hK _ _ ⟨d0_ev (fun e he => ?_), ?_⟩
    · have hm := mem_listed he
      simp [go_sem] at hm
    clear hK K
    have hge : nF ≤ (on : Int) := by have := of_decide_eq_false hd; omega
    exact Goes.stop (fun w2 h₁ => ⟨_, (fun k => (#[lv, .int .i64 nF, undef, undef, .slice none 0 0, .chan (some c), .chan (some E.O), .slice oa on oc, .pointer (some ⟨p, 0, none⟩), .bool true, Jn 10, Jn 11, Jn 12, Jn 13, Jn 14, .slice oa on oc, .int .i64 (on : Int), .int .i64 nF, .bool false, .tuple #[.agg #[.int .i64 kk, .slice va vn vc], .bool true], .chan (some E.O), .tuple #[.agg #[.int .i64 kk, .slice va vn vc], .bool true], .agg #[.int .i64 kk, .slice va vn vc], .bool true, .bool true, .bool false, sl, .agg #[.int .i64 kk, .slice va vn vc], .slice (some ⟨tb, 0, none⟩) 1 1, .slice oa on oc, .chan (some c), Jn 31, Jn 32, Jn 33, Jn 34] : Array Value).getD k undef), .inr ⟨rfl, by omega⟩, hF.r0 hE W h₁⟩)
  ·
    refine Goes.step rfl (fun _ h₁ => ?_)
    replace hF := hF.r0 hE W h₁
    clear h₁
    refine goes_oper_k rfl rfl (by decide) (fun K hK => ?_)
    have f0 := hd
    go_simp
    refine hK _ _ ⟨d0_ev (fun e he => ?_), ?_⟩
    · have hm := mem_listed he
      simp [go_sem, f0] at hm
    clear hK K f0
    refine Goes.step rfl (fun _ h₁ => ?_)
    replace hF := hF.r0 hE W h₁
    clear h₁
    rw [stepG_region_end]
    simp only [goes_go]
    refine ⟨d0_none _, ?_⟩
    refine Goes.step rfl (fun _ h₁ => ?_)
    replace hF := hF.r0 hE W h₁
    clear h₁
    rw [stepG_cond (t := true) rfl]
    simp only [goes_go, if_true, if_false, Bool.false_eq_true, ↓reduceIte]
    refine ⟨d0_none _, ?_⟩
    refine Goes.step rfl (fun _ h₁ => ?_)
    replace hF := hF.r0 hE W h₁
    clear h₁
    rw [stepG_skip]
    simp only [goes_go]
    refine ⟨d0_none _, ?_⟩
    refine Goes.step rfl (fun _ h₁ => ?_)
    replace hF := hF.r0 hE W h₁
    clear h₁
    rw [stepG_block]
    simp only [goes_go]
    refine ⟨d0_none _, ?_⟩
    refine Goes.step rfl (fun _ h₁ => ?_)
    replace hF := hF.r0 hE W h₁
    clear h₁
    rw [stepG_seq]
    simp only [goes_go]
    refine ⟨d0_none _, ?_⟩
    refine Goes.step rfl (fun _ h₁ => ?_)
    replace hF := hF.r0 hE W h₁
    clear h₁
    rw [stepG_region]
    simp only [goes_go, List.size_toArray, List.length_cons, List.length_nil, Nat.reduceAdd, Nat.zero_add, List.range, List.range.loop]
    refine ⟨d0_none _, ?_⟩
    refine Goes.step rfl (fun _ h₁ => ?_)
    replace hF := hF.r0 hE W h₁
    clear h₁
    refine goes_oper_k rfl rfl (by decide) (fun K hK => ?_)
    go_simp
    refine hK _ _ ⟨d0_ev (fun e he => ?_), ?_⟩
    · have hm := mem_listed he
      simp [go_sem] at hm
    clear hK K
    have hlt : (on : Int) < nF := of_decide_eq_true hd
    exact Goes.stop (fun w2 h₁ => ⟨_, (fun k => (#[lv, .int .i64 nF, undef, undef, .slice none 0 0, .chan (some c), .chan (some E.O), .slice oa on oc, .pointer (some ⟨p, 0, none⟩), .bool true, Jn 10, Jn 11, Jn 12, Jn 13, Jn 14, .slice oa on oc, .int .i64 (on : Int), .int .i64 nF, .bool true, .tuple #[.agg #[.int .i64 kk, .slice va vn vc], .bool true], .chan (some E.O), .tuple #[.agg #[.int .i64 kk, .slice va vn vc], .bool true], .agg #[.int .i64 kk, .slice va vn vc], .bool true, .bool true, .bool false, sl, .agg #[.int .i64 kk, .slice va vn vc], .slice (some ⟨tb, 0, none⟩) 1 1, .slice oa on oc, Jn 30, Jn 31, Jn 32, Jn 33, Jn 34] : Array Value).getD k undef), .inl ⟨rfl, by omega⟩, hF.r0 hE W h₁⟩)
set_option maxRecDepth 100000 in
set_option maxHeartbeats 8000000 in
/-- In the second loop what comes is passed over. -/
theorem first_pass (hE : E.Ok) (W : EW E MB) {x : Value} (hF : KG E w0 N sl ys [] w) :
    Goes Try.prog true (R0 E) (D0 E N) (fun g w => ∃ J, g = gF2 E lv nF c sl J c0 cs ∧ KG E w0 N sl ys [] w) 20 ((core (gF2 E lv nF c sl Jn c0 cs)).finishComm Try.prog E.cs5 (.recv true) 0 x true) w := by
  unfold gF2
  simp only [loop1F, loop2F, rest1F, rest2F, t8F, t4F, bodyF, Try.f14, Option.getD_some, cSnd, cFst, cIn, cOps]
  rw [fin_G, Frame.finish_at, show commResult E.cs5 (.recv true) 0 x true = .tuple #[x, .bool true] from rfl]
  walk_nrm
  refine Goes.step rfl (fun _ h₁ => ?_)
  replace hF := hF.r0 hE W h₁
  clear h₁
  refine goes_oper_k rfl rfl (by decide) (fun K hK => ?_)
  go_simp
  refine hK _ _ ⟨d0_ev (fun e he => ?_), ?_⟩
  · have hm := mem_listed he
    simp [go_sem] at hm
  clear hK K
  refine Goes.step rfl (fun _ h₁ => ?_)
  replace hF := hF.r0 hE W h₁
  clear h₁
  rw [stepG_region_end]
  simp only [goes_go]
  refine ⟨d0_none _, ?_⟩
  refine Goes.step rfl (fun _ h₁ => ?_)
  replace hF := hF.r0 hE W h₁
  clear h₁
  rw [stepG_seq]
  simp only [goes_go]
  refine ⟨d0_none _, ?_⟩
  refine Goes.step rfl (fun _ h₁ => ?_)
  replace hF := hF.r0 hE W h₁
  clear h₁
  rw [stepG_cond (t := true) rfl]
  simp only [goes_go, if_true, if_false, Bool.false_eq_true, ↓reduceIte]
  refine ⟨d0_none _, ?_⟩
  refine Goes.step rfl (fun _ h₁ => ?_)
  replace hF := hF.r0 hE W h₁
  clear h₁
  rw [stepG_skip]
  simp only [goes_go]
  refine ⟨d0_none _, ?_⟩
  refine Goes.step rfl (fun _ h₁ => ?_)
  replace hF := hF.r0 hE W h₁
  clear h₁
  rw [stepG_block]
  simp only [goes_go]
  refine ⟨d0_none _, ?_⟩
  refine Goes.step rfl (fun _ h₁ => ?_)
  replace hF := hF.r0 hE W h₁
  clear h₁
  rw [stepG_skip]
  simp only [goes_go]
  refine ⟨d0_none _, ?_⟩
  refine Goes.step rfl (fun _ h₁ => ?_)
  replace hF := hF.r0 hE W h₁
  clear h₁
  rw [stepG_inBlock]
  simp only [goes_go]
  refine ⟨d0_none _, ?_⟩
  refine Goes.step rfl (fun _ h₁ => ?_)
  replace hF := hF.r0 hE W h₁
  clear h₁
  rw [stepG_inLoop]
  simp only [goes_go]
  refine ⟨d0_none _, ?_⟩
  refine Goes.step rfl (fun _ h₁ => ?_)
  replace hF := hF.r0 hE W h₁
  clear h₁
  rw [stepG_seq]
  simp only [goes_go]
  refine ⟨d0_none _, ?_⟩
  refine Goes.step rfl (fun _ h₁ => ?_)
  replace hF := hF.r0 hE W h₁
  clear h₁
  rw [stepG_region]
  simp only [goes_go, List.size_toArray, List.length_cons, List.length_nil, Nat.reduceAdd, Nat.zero_add, List.range, List.range.loop]
  refine ⟨d0_none _, ?_⟩
  exact Goes.stop (fun w2 h₁ => ⟨fun k => (#[lv, .int .i64 nF, undef, undef, .slice none 0 0, .chan (some c), .chan (some E.O), sl, Jn 8, Jn 9, Jn 10, Jn 11, Jn 12, Jn 13, Jn 14, Jn 15, Jn 16, Jn 17, Jn 18, Jn 19, Jn 20, Jn 21, Jn 22, Jn 23, Jn 24, Jn 25, Jn 26, Jn 27, Jn 28, Jn 29, Jn 30, .chan (some E.O), .tuple #[x, .bool true], .bool true, Jn 34] : Array Value).getD k undef, rfl, hF.r0 hE W h₁⟩)
set_option maxRecDepth 100000 in
set_option maxHeartbeats 8000000 in
/-- Behind the close it comes to the second loop's receive. -/
theorem first_shut (hE : E.Ok) (W : EW E MB) (hF : KG E w0 N sl ys [] w) :
    Goes Try.prog true (R0 E) (D0 E N) (fun g w => ∃ J, g = gF2 E lv nF c sl J c0 cs ∧ KG E w0 N sl ys [] w) 20 (gFd E lv nF c sl Jn c0 cs) w := by
  unfold gF2 gFd
  simp only [loop1F, loop2F, rest1F, rest2F, t8F, t4F, bodyF, Try.f14, Option.getD_some, cSnd, cFst, cIn, cOps]
  refine Goes.step rfl (fun _ h₁ => ?_)
  replace hF := hF.r0 hE W h₁
  clear h₁
  rw [stepG_region_end]
  simp only [goes_go]
  refine ⟨d0_none _, ?_⟩
  refine Goes.step rfl (fun _ h₁ => ?_)
  replace hF := hF.r0 hE W h₁
  clear h₁
  rw [stepG_seq]
  simp only [goes_go]
  refine ⟨d0_none _, ?_⟩
  refine Goes.step rfl (fun _ h₁ => ?_)
  replace hF := hF.r0 hE W h₁
  clear h₁
  rw [stepG_seq]
  simp only [goes_go]
  refine ⟨d0_none _, ?_⟩
  refine Goes.step rfl (fun _ h₁ => ?_)
  replace hF := hF.r0 hE W h₁
  clear h₁
  rw [stepG_region]
  simp only [goes_go, List.size_toArray, List.length_cons, List.length_nil, Nat.reduceAdd, Nat.zero_add, List.range, List.range.loop]
  refine ⟨d0_none _, ?_⟩
  refine Goes.step rfl (fun _ h₁ => ?_)
  replace hF := hF.r0 hE W h₁
  clear h₁
  refine goes_oper_k rfl rfl (by decide) (fun K hK => ?_)
  go_simp
  refine hK _ _ ⟨d0_ev (fun e he => ?_), ?_⟩
  · have hm := mem_listed he
    simp [go_sem] at hm
  clear hK K
  refine Goes.step rfl (fun _ h₁ => ?_)
  replace hF := hF.r0 hE W h₁
  clear h₁
  rw [stepG_region_end]
  simp only [goes_go]
  refine ⟨d0_none _, ?_⟩
  refine Goes.step rfl (fun _ h₁ => ?_)
  replace hF := hF.r0 hE W h₁
  clear h₁
  rw [stepG_block]
  simp only [goes_go]
  refine ⟨d0_none _, ?_⟩
  refine Goes.step rfl (fun _ h₁ => ?_)
  replace hF := hF.r0 hE W h₁
  clear h₁
  rw [stepG_loop]
  simp only [goes_go]
  refine ⟨d0_none _, ?_⟩
  refine Goes.step rfl (fun _ h₁ => ?_)
  replace hF := hF.r0 hE W h₁
  clear h₁
  rw [stepG_seq]
  simp only [goes_go]
  refine ⟨d0_none _, ?_⟩
  refine Goes.step rfl (fun _ h₁ => ?_)
  replace hF := hF.r0 hE W h₁
  clear h₁
  rw [stepG_region]
  simp only [goes_go, List.size_toArray, List.length_cons, List.length_nil, Nat.reduceAdd, Nat.zero_add, List.range, List.range.loop]
  refine ⟨d0_none _, ?_⟩
  exact Goes.stop (fun w2 h₁ => ⟨fun k => (#[lv, .int .i64 nF, undef, undef, .slice none 0 0, .chan (some c), .chan (some E.O), sl, Jn 8, Jn 9, Jn 10, Jn 11, Jn 12, Jn 13, Jn 14, Jn 15, Jn 16, Jn 17, Jn 18, Jn 19, Jn 20, Jn 21, Jn 22, Jn 23, Jn 24, Jn 25, Jn 26, Jn 27, Jn 28, Jn 29, .chan (some c), .chan (some E.O), Jn 32, Jn 33, Jn 34] : Array Value).getD k undef, rfl, hF.r0 hE W h₁⟩)
/-- First has found the channel closed: ahead of its own close, or behind it. -/
def ExitF (E : PE) (w0 : World) (lv : Value) (nF : Int) (c : Nat) (c0 : Frame) (cs : List Frame) (b : Bool) (ys : List (Nat × Value × Value)) (g : Goroutine) (w : World) : Prop :=
  ∃ N sl J, (b = true ∧ g = (core (gF1 E lv nF c sl J c0 cs)).finishComm Try.prog E.cs5 (.recv true) 0 E.zG false ∧ KG E w0 N sl ys [] w ∧ (ys.length : Int) < nF) ∨
    (b = false ∧ g = (core (gF2 E lv nF c sl J c0 cs)).finishComm Try.prog E.cs5 (.recv true) 0 E.zG false ∧ ∃ zs t, ys = zs ++ t ∧ KG E w0 N sl zs [] w ∧ (zs.length : Int) = max nF 0)
theorem first_at1 (W : EW E MB) {R : World → World → Prop} : AtC Try.prog true R E.cs5 (.recv true) (gF1 E lv nF c sl Jn c0 cs) w := by
  unfold PE.cs5 gF1
  rw [W.zG]
  simp only [loop1F, loop2F, rest1F, rest2F, t8F, t4F, bodyF, Try.f14, Option.getD_some, cSnd, cFst, cIn, cOps]
  exact atC_of rfl rfl (by decide) (fun w => by simp [go_sem, execOp, rcase, Act.eval]) (fun w => by simp [go_sem, execOp, Act.eval])
theorem first_at2 (W : EW E MB) {R : World → World → Prop} : AtC Try.prog true R E.cs5 (.recv true) (gF2 E lv nF c sl Jn c0 cs) w := by
  unfold PE.cs5 gF2
  rw [W.zG]
  simp only [loop1F, loop2F, rest1F, rest2F, t8F, t4F, bodyF, Try.f14, Option.getD_some, cSnd, cFst, cIn, cOps]
  exact atC_of rfl rfl (by decide) (fun w => by simp [go_sem, execOp, rcase, Act.eval]) (fun w => by simp [go_sem, execOp, Act.eval])
theorem first_recv2 (hE : E.Ok) (W : EW E MB) : ∀ (n : Nat) (ys zs t : List (Nat × Value × Value)) (sl : Value) (J : Nat → Value) (w : World), ys = zs ++ t → (zs.length : Int) = max nF 0 → KG E w0 N sl zs [] w →
    MRecv Try.prog E (ExitF E w0 lv nF c c0 cs) n false ys N (some (E.cs5, .recv true)) (gF2 E lv nF c sl J c0 cs) w := by
  intro n
  induction n with
  | zero =>
    intro ys zs t sl J w hy hz hF
    unfold MRecv
    exact ⟨rfl, first_at2 W, fun w₁ h₁ => ⟨N, sl, J, .inr ⟨rfl, rfl, zs, t, hy, hF.r0 hE W h₁, hz⟩⟩⟩
  | succ n ih =>
    intro ys zs t sl J w hy hz hF
    unfold MRecv
    refine .inl ⟨rfl, first_at2 W, fun w₁ h₁ => ⟨N, sl, J, .inr ⟨rfl, rfl, zs, t, hy, hF.r0 hE W h₁, hz⟩⟩, fun k v x w₁ h₁ hk hf => ?_⟩
    refine ⟨20, Goes.weaken (fun _ _ x => x) (fun _ _ _ x => x) (fun g w hx => ?_) (first_pass hE W (hF.r0 hE W h₁))⟩
    obtain ⟨J', rfl, hF'⟩ := hx
    exact ⟨_, ih _ zs (t ++ [(k, v, x)]) sl J' w (by rw [hy, List.append_assoc]) hz hF'⟩
set_option maxRecDepth 100000 in
theorem first_shuts (hE : E.Ok) (W : EW E MB) (hSt : E.St = some c) {n : Nat} (hz : (ys.length : Int) = max nF 0) (hF : KG E w0 N sl ys [] w) :
    MRecv Try.prog E (ExitF E w0 lv nF c c0 cs) (n + 1) true ys N none (gFc E lv nF c sl Jn c0 cs) w := by
  unfold MRecv
  refine .inr ⟨rfl, rfl, rfl, fun w₁ h₁ => ⟨c, hSt, ?_⟩⟩
  have hm : mayWake Try.prog (core (gFc E lv nF c sl Jn c0 cs)) = true := by
    unfold gFc
    simp only [loop1F, loop2F, rest1F, rest2F, t8F, t4F, bodyF, Try.f14, Option.getD_some, cSnd, cFst, cIn, cOps]
    rfl
  have hfin : ∀ (J : Nat → Value) s r tm, w₁.heap[c]? = some (.chan 0 #[] false s r tm) → W0 Try.prog E N (fun g w => ∃ o, MRecv Try.prog E (ExitF E w0 lv nF c c0 cs) n false ys N o g w) (gFd E lv nF c sl J c0 cs) (w₁.setChan c 0 #[] true s r tm) := fun J s r tm hc =>
    ⟨20, Goes.weaken (fun _ _ x => x) (fun _ _ _ x => x) (fun g w hx => by
      obtain ⟨J', rfl, hF'⟩ := hx
      exact ⟨_, first_recv2 hE W n ys ys [] sl J' w (by simp) hz hF'⟩) (first_shut hE W ((hF.r0 hE W h₁).r0 hE W (r0_close hE hSt hc)))⟩
  unfold gFc at hm ⊢
  unfold gFd at hfin
  rw [show ∀ fr l, core (G fr l) = G fr l from fun _ _ => rfl] at hm ⊢
  simp only [loop1F, loop2F, rest1F, rest2F, t8F, t4F, bodyF, Try.f14, Option.getD_some, cSnd, cFst, cIn, cOps] at hm hfin ⊢
  refine ⟨rfl, hm, _, rfl, fun s r tm hc => ⟨stepG_close (c := c) rfl rfl (by decide) rfl rfl hc (by kernel_rfl), ?_⟩⟩
  walk_nrm
  exact hfin Jn s r tm hc
theorem first_recv (hE : E.Ok) (W : EW E MB) (hSt : E.St = some c) : ∀ (n : Nat) (ys : List (Nat × Value × Value)) (g : Goroutine) (w : World), ys.length + n < 1000000 → nF ≠ ((ys.length + n : Nat) : Int) → (nF < ((ys.length + n : Nat) : Int) → 0 < n) → ((ys.length : Int) ≤ max nF 0) → FStop E w0 N lv nF c c0 cs ys g w →
    ∃ o, MRecv Try.prog E (ExitF E w0 lv nF c c0 cs) n true ys N o g w := by
  intro n
  induction n with
  | zero =>
    intro ys g w hn hne hpos hle hx
    obtain ⟨sl, J, hg, hF⟩ := hx
    rcases hg with ⟨rfl, hlt⟩ | ⟨rfl, hge⟩
    · refine ⟨some (E.cs5, .recv true), ?_⟩
      unfold MRecv
      exact ⟨rfl, first_at1 W, fun w₁ h₁ => ⟨N, sl, J, .inl ⟨rfl, rfl, hF.r0 hE W h₁, hlt⟩⟩⟩
    · have := hpos (by omega)
      omega
  | succ n ih =>
    intro ys g w hn hne hpos hle hx
    obtain ⟨sl, J, hg, hF⟩ := hx
    rcases hg with ⟨rfl, hlt⟩ | ⟨rfl, hge⟩
    · refine ⟨some (E.cs5, .recv true), ?_⟩
      unfold MRecv
      refine .inl ⟨rfl, first_at1 W, fun w₁ h₁ => ⟨N, sl, J, .inl ⟨rfl, rfl, hF.r0 hE W h₁, hlt⟩⟩, fun k v x w₁ h₁ hk hf => ?_⟩
      have hf' := hf
      rw [W.fits] at hf
      obtain ⟨bs, V, hmb, rfl, hmsg⟩ := hf
      obtain ⟨va, vn, vc, rfl, _⟩ := id hmsg
      refine ⟨80, Goes.weaken (fun _ _ x => x) (fun _ _ _ x => x) (fun g w hx => ?_) (first_take hE W (by omega) hk hf' (hF.r0 hE W h₁))⟩
      refine ih _ g w (by simp; omega) (by simp; omega) (fun h => ?_) (by simp; omega) hx
      simp at h
      omega
    · exact ⟨none, first_shuts hE W hSt (by omega) hF⟩
end Go.Proofs.Ytiobhgemjbjipaa

/- First's ways out, beside leavers. Conditions stand as premises. -/
set_option linter.unusedSimpArgs false
set_option linter.unusedVariables false
namespace Go.Proofs.Ytiobhgemjbjipaa
open Go.Conc Go.RowKit Go.Conc.Lib
variable {P : Program} {Post : Value → World → Prop} {Old : Nat → Prop} {m : Nat} {g : Goroutine} {E : PE} {w0 w : World} {N c : Nat} {nF : Int} {Jn : Nat → Value} {cs : List Frame} {lv wsl sl : Value} {MB : Value → List Int → Prop} {ys : List (Nat × Value × Value)}
  {b₀ : Frame} {a₀ : Act} {ops₀ : Array Oper} {i₀ : Nat} {rest₀ : List Nat} {k₀ : List Item}
/-- A RECEIVE FROM A CHANNEL THAT IS CLOSED AND EMPTY. -/
theorem Ok.recv_closed (hr : g.status = .running) {g₂ : Goroutine} {c cap s r : Nat} {z : Value} {tm blocking : Bool} {shape : CommShape} (hst : ∀ w₁, AtRel w w₁ → stepG P true g w₁ = .comm g₂ #[rcase c z] blocking shape w₁ #[])
    (hc : w.heap[c]? = some (.chan cap #[] true s r tm)) (h : Ok P Post Old m (g₂.finishComm P #[rcase c z] shape 0 z false) w) : Ok P Post Old m g w := by
  refine ok_pick hr fun gs sl t q d h0 hsz hL hC => ?_
  have hp : partners (gs.setIfInBounds 0 ph) c true = [] := by
    refine List.eq_nil_iff_forall_not_mem.2 fun ⟨j, k⟩ hm => ?_
    obtain ⟨y, hy, hk⟩ := mem_partners.1 hm
    rcases getElem?_stand gs _ j y hy with ⟨_, rfl⟩ | ⟨hji, hy'⟩
    · rw [offersAt_ph] at hk; cases hk
    · have hq := (hL.old j y (by omega) hy').status
      unfold offersAt at hk
      rcases hq with hq | hq <;> simp [hq] at hk
  have hrun := crowd_recv_closed (sl := sl) (i := 0) h0 (show stepG P (0 == 0) g (w.at d) = _ from hst _ ⟨d, rfl⟩) (show (w.at d).heap[c]? = _ from hc) hp
  have hlt : 0 < gs.size := (Array.getElem?_eq_some_iff.1 h0).1
  have hcl : c < w.heap.size := (Array.getElem?_eq_some_iff.1 hc).1
  refine ⟨_, _, hrun, h _ sl _ q (w.at d).drawn (Array.getElem?_setIfInBounds_self_of_lt hlt) (by simpa using hsz) ⟨fun j x hj hx => ?_, fun j hj => ?_⟩ ?_⟩
  · have hne : 0 ≠ j := by omega
    rw [Array.getElem?_setIfInBounds_ne hne] at hx
    rw [Go.ConcN.Deaf_still t j _ fun op hop => by simp [MemOp.ofEvents] at hop; rcases hop with rfl; simp]
    exact hL.old j x hj hx
  · rw [Go.ConcN.Deaf_still t j _ fun op hop => by simp [MemOp.ofEvents] at hop; rcases hop with rfl; simp]
    exact hL.above j (by simpa using hj)
  · have hu : ∀ op ∈ MemOp.ofEvents 0 g.frame.fn g.frame.place #[] ++ #[({ g := 0, fn := g₂.frame.fn, pos := g₂.frame.place, act := .recvClosed c } : MemOp)], op.g = 0 ∧ op.act.touch? = none ∧ op.act.low w.heap.size ∧ ∀ m, op.act ≠ .mark m := fun op hop => by
      simp [MemOp.ofEvents] at hop
      rcases hop with rfl
      exact ⟨rfl, rfl, hcl, by simp⟩
    exact ⟨hC.past.app0 (fun op hop => (hu op hop).1) (fun op hop b hb => by rw [(hu op hop).2.1] at hb; cases hb) (Go.ConcN.Deaf_still t 0 _ fun op hop => ⟨(hu op hop).2.2.2 _, (hu op hop).2.2.2 _⟩) (fun op hop => (hu op hop).2.2.1), obj_app hC.obj fun op hop a c ha _ => by rw [(hu op hop).2.1] at ha; cases ha⟩
set_option maxRecDepth 100000 in
set_option maxHeartbeats 8000000 in
/-- Out of the second loop. -/
theorem first_out2 (W : EW E MB) (h : Ok Try.prog Post Old m (G (b₀.at (a₀.put ((ops₀[i₀]?).bind (·.dst)) sl) (.inRegion ops₀ rest₀ :: k₀)) cs) w) :
    Ok Try.prog Post Old m ((core (gF2 E lv nF c sl Jn (b₀.at a₀ (.inRegion ops₀ (i₀ :: rest₀) :: k₀)) cs)).finishComm Try.prog E.cs5 (.recv true) 0 E.zG false) w := by
  unfold gF2
  simp only [loop1F, loop2F, rest1F, rest2F, t8F, t4F, bodyF, Try.f14, Option.getD_some, cSnd, cFst, cIn, cOps]
  rw [fin_G, Frame.finish_at, show commResult E.cs5 (.recv true) 0 E.zG false = .tuple #[E.zG, .bool false] from rfl]
  walk_nrm
  refine Ok.step rfl (fun _ h₁ => ?_)
  obtain ⟨d, rfl⟩ := h₁
  refine goes_oper_k rfl rfl (by decide) (fun K hK => ?_)
  go_simp
  refine hK _ _ ⟨⟨Nat.le_refl _, fun e he => ?_⟩, Ok.at ?_⟩
  · have hm := mem_listed he
    simp [go_sem] at hm
  clear hK K d
  refine Ok.step rfl (fun _ h₁ => ?_)
  obtain ⟨d, rfl⟩ := h₁
  rw [stepG_region_end]
  simp only [goes_go]
  refine ⟨ok_none _, Ok.at ?_⟩
  clear d
  refine Ok.step rfl (fun _ h₁ => ?_)
  obtain ⟨d, rfl⟩ := h₁
  rw [stepG_seq]
  simp only [goes_go]
  refine ⟨ok_none _, Ok.at ?_⟩
  clear d
  refine Ok.step rfl (fun _ h₁ => ?_)
  obtain ⟨d, rfl⟩ := h₁
  rw [stepG_cond (t := false) rfl]
  simp only [goes_go, if_true, if_false, Bool.false_eq_true, ↓reduceIte]
  refine ⟨ok_none _, Ok.at ?_⟩
  clear d
  refine Ok.step rfl (fun _ h₁ => ?_)
  obtain ⟨d, rfl⟩ := h₁
  refine goes_exit rfl ?_
  refine ⟨ok_none _, Ok.at ?_⟩
  clear d
  refine Ok.step rfl (fun _ h₁ => ?_)
  obtain ⟨d, rfl⟩ := h₁
  rw [stepG_seq]
  simp only [goes_go]
  refine ⟨ok_none _, Ok.at ?_⟩
  clear d
  refine Ok.step rfl (fun _ h₁ => ?_)
  obtain ⟨d, rfl⟩ := h₁
  rw [stepG_region]
  simp only [goes_go, List.size_toArray, List.length_cons, List.length_nil, Nat.reduceAdd, Nat.zero_add, List.range, List.range.loop]
  refine ⟨ok_none _, Ok.at ?_⟩
  clear d
  refine Ok.step rfl (fun _ h₁ => ?_)
  obtain ⟨d, rfl⟩ := h₁
  refine goes_oper_k rfl rfl (by decide) (fun K hK => ?_)
  go_simp
  refine hK _ _ ⟨⟨Nat.le_refl _, fun e he => ?_⟩, Ok.at ?_⟩
  · have hm := mem_listed he
    simp [go_sem] at hm
  clear hK K d
  refine Ok.step rfl (fun _ h₁ => ?_)
  obtain ⟨d, rfl⟩ := h₁
  refine goes_oper_k rfl rfl (by decide) (fun K hK => ?_)
  go_simp
  refine hK _ _ ⟨⟨Nat.le_refl _, fun e he => ?_⟩, Ok.at ?_⟩
  · have hm := mem_listed he
    simp [go_sem] at hm
  clear hK K d
  refine Ok.step rfl (fun _ h₁ => ?_)
  obtain ⟨d, rfl⟩ := h₁
  rw [stepG_region_end]
  simp only [goes_go]
  refine ⟨ok_none _, Ok.at ?_⟩
  clear d
  refine Ok.step rfl (fun _ h₁ => ?_)
  obtain ⟨d, rfl⟩ := h₁
  rw [stepG_ret']
  simp only [goes_go]
  refine ⟨ok_none _, Ok.at ?_⟩
  clear d
  refine Ok.step rfl (fun _ h₁ => ?_)
  obtain ⟨d, rfl⟩ := h₁
  refine goes_leave1 rfl rfl Try.func14 rfl ⟨ok_none _, Ok.at ?_⟩
  clear d
  walk_nrm
  exact h
set_option maxRecDepth 100000 in
set_option maxHeartbeats 8000000 in
/-- Out of the first loop: the channel is closed; First closes its own, finds the other one closed again. -/
theorem first_out1 (W : EW E MB) (hold : ∀ b, Old b → b < w.heap.size) (hO : ∃ s r tm, w.heap[E.O]? = some (.chan 0 #[] true s r tm)) (hc : ∃ s r tm, w.heap[c]? = some (.chan 0 #[] false s r tm))
    (h : ∀ w', w.heap.size ≤ w'.heap.size → (∀ b, b < w.heap.size → b ≠ c → w'.heap[b]? = w.heap[b]?) → SO w w' → Ok Try.prog Post Old m (G (b₀.at (a₀.put ((ops₀[i₀]?).bind (·.dst)) sl) (.inRegion ops₀ rest₀ :: k₀)) cs) w') :
    Ok Try.prog Post Old m ((core (gF1 E lv nF c sl Jn (b₀.at a₀ (.inRegion ops₀ (i₀ :: rest₀) :: k₀)) cs)).finishComm Try.prog E.cs5 (.recv true) 0 E.zG false) w := by
  have hfin : ∀ (J : Nat → Value) w', w.heap.size ≤ w'.heap.size → (∀ b, b < w.heap.size → b ≠ c → w'.heap[b]? = w.heap[b]?) → SO w w' → Ok Try.prog Post Old m (gF2 E lv nF c sl J (b₀.at a₀ (.inRegion ops₀ (i₀ :: rest₀) :: k₀)) cs) w' := fun J w' h1 h2 h3 => by
    obtain ⟨s, r, tm, x⟩ := hO
    obtain ⟨s', r', tm', x'⟩ := hc
    refine Ok.recv_closed rfl (fun w₁ h₁ => (first_at2 W (R := AtRel) (w := w')).comm w₁ h₁) (c := E.O) (cap := 0) (s := s) (r := r) (tm := tm) ?_ (first_out2 W (h w' h1 h2 h3))
    rw [h2 _ (lt_of_heap x) (fun e => by rw [e, x'] at x; cases x)]
    exact x
  obtain ⟨s, r, tm, hc⟩ := hc
  rw [W.zG]
  unfold gF1
  unfold gF2 at hfin
  simp only [loop1F, loop2F, rest1F, rest2F, t8F, t4F, bodyF, Try.f14, Option.getD_some, cSnd, cFst, cIn, cOps] at hfin ⊢
  rw [fin_G, Frame.finish_at, show commResult E.cs5 (.recv true) 0 (.agg #[.int .i64 0, .slice none 0 0]) false = .tuple #[.agg #[.int .i64 0, .slice none 0 0], .bool false] from rfl]
  walk_nrm
  refine Ok.step rfl (fun _ h₁ => ?_)
  obtain ⟨d, rfl⟩ := h₁
  refine goes_oper_k rfl rfl (by decide) (fun K hK => ?_)
  go_simp
  refine hK _ _ ⟨⟨Nat.le_refl _, fun e he => ?_⟩, Ok.at ?_⟩
  · have hm := mem_listed he
    simp [go_sem] at hm
  clear hK K d
  refine Ok.step rfl (fun _ h₁ => ?_)
  obtain ⟨d, rfl⟩ := h₁
  refine goes_oper_k rfl rfl (by decide) (fun K hK => ?_)
  go_simp
  refine hK _ _ ⟨⟨Nat.le_refl _, fun e he => ?_⟩, Ok.at ?_⟩
  · have hm := mem_listed he
    simp [go_sem] at hm
  clear hK K d
  refine Ok.step rfl (fun _ h₁ => ?_)
  obtain ⟨d, rfl⟩ := h₁
  refine goes_oper_k rfl rfl (by decide) (fun K hK => ?_)
  go_simp
  refine hK _ _ ⟨⟨Nat.le_refl _, fun e he => ?_⟩, Ok.at ?_⟩
  · have hm := mem_listed he
    simp [go_sem] at hm
  clear hK K d
  refine Ok.opv rfl rfl (by decide) (fun _ h₁ => ?_)
  obtain ⟨d, rfl⟩ := h₁
  refine ⟨.pointer (some ⟨w.heap.size, 0, none⟩), (w.at d).alloc (.cells #[.int .i64 0, .slice none 0 0] 33), by simp [go_sem, execOp, World.at], by simp, fun e he => ?_, ?_⟩
  · simp [go_sem, execOp] at he
  obtain ⟨w2, hw2⟩ : ∃ w2, w2 = (w.at d).alloc (.cells #[.int .i64 0, .slice none 0 0] 33) := ⟨_, rfl⟩
  have hs2 : w.heap.size < w2.heap.size := by rw [hw2, World.size_alloc]; exact Nat.lt_succ_self _
  have hl2 : ∀ b, b < w.heap.size → w2.heap[b]? = w.heap[b]? := fun b hb => by rw [hw2]; exact ah_old (w.at d) _ hb
  have hoo2 : SO w w2 := by rw [hw2]; exact ⟨rfl, rfl⟩
  obtain ⟨p, hp⟩ : ∃ p, p = w.heap.size := ⟨_, rfl⟩
  have hp2 : w2.heap[p]? = some (.cells #[.int .i64 0, .slice none 0 0] 33) := by rw [hw2, hp]; exact heap_alloc_new (w.at d) _
  rw [← hw2, ← hp]
  have hpa : p ≤ w.heap.size := Nat.le_of_eq hp
  have hpb : w.heap.size ≤ p := Nat.le_of_eq hp.symm
  clear hw2 hp
  walk_nrm
  refine Ok.opn rfl rfl (by decide) (fun _ h₁ => ?_)
  obtain ⟨e2, rfl⟩ := h₁
  have hst := got_store (w := w2.at e2) (kk := 0) (va := none) (vn := 0) (vc := 0) hp2
  have hz := (aside_setCell ((w2.at e2).setCell ⟨p, 0, none⟩ (.int .i64 0)) ⟨p, 1, none⟩ (.slice none 0 0)).size.trans (aside_setCell (w2.at e2) ⟨p, 0, none⟩ (.int .i64 0)).size
  have hb : ∀ b, b ≠ p → (((w2.at e2).setCell ⟨p, 0, none⟩ (.int .i64 0)).setCell ⟨p, 1, none⟩ (.slice none 0 0)).heap[b]? = w2.heap[b]? := fun b hb => ((aside_setCell ((w2.at e2).setCell ⟨p, 0, none⟩ (.int .i64 0)) ⟨p, 1, none⟩ (.slice none 0 0)).block b hb).trans ((aside_setCell (w2.at e2) ⟨p, 0, none⟩ (.int .i64 0)).block b hb)
  refine ⟨_, run_u hst.1, Nat.le_of_eq hz.symm, fun e he => ?_, ?_⟩
  · have he' : e ∈ (Instr.storeAt 33 (.pointer (some ⟨p, 0, none⟩)) (.agg #[.int .i64 0, .slice none 0 0])).events Try.prog (w2.at e2) #[] := by
      rw [← ev_u hst.1]; exact he
    obtain ⟨ad, rfl, hab⟩ := hst.2 e he'
    refine .inl ⟨ad, true, false, rfl, ?_, ?_⟩
    · rw [hab, hz]; exact lt_of_heap (w := w2) hp2
    · rw [hab]; exact fun x => by have := hold _ x; omega
  obtain ⟨w3, hw3⟩ : ∃ w3, w3 = ((w2.at e2).setCell ⟨p, 0, none⟩ (.int .i64 0)).setCell ⟨p, 1, none⟩ (.slice none 0 0) := ⟨_, rfl⟩
  rw [← hw3] at hz hb ⊢
  have hs3 : w.heap.size < w3.heap.size := by rw [hz]; exact hs2
  have hoo3 : SO w w3 := by rw [hw3]; exact hoo2.trans ⟨rfl, rfl⟩
  have hl3 : ∀ b, b < w.heap.size → w3.heap[b]? = w.heap[b]? := fun b hl => (hb b (by omega)).trans (hl2 b hl)
  clear hst hz hb hw3 hp2 hs2 hl2
  walk_nrm
  refine Ok.step rfl (fun _ h₁ => ?_)
  obtain ⟨d, rfl⟩ := h₁
  refine goes_oper_k rfl rfl (by decide) (fun K hK => ?_)
  go_simp
  refine hK _ _ ⟨⟨Nat.le_refl _, fun e he => ?_⟩, Ok.at ?_⟩
  · have hm := mem_listed he
    simp [go_sem] at hm
  clear hK K d
  refine Ok.step rfl (fun _ h₁ => ?_)
  obtain ⟨d, rfl⟩ := h₁
  rw [stepG_region_end]
  simp only [goes_go]
  refine ⟨ok_none _, Ok.at ?_⟩
  clear d
  refine Ok.step rfl (fun _ h₁ => ?_)
  obtain ⟨d, rfl⟩ := h₁
  rw [stepG_seq]
  simp only [goes_go]
  refine ⟨ok_none _, Ok.at ?_⟩
  clear d
  refine Ok.step rfl (fun _ h₁ => ?_)
  obtain ⟨d, rfl⟩ := h₁
  rw [stepG_seq]
  simp only [goes_go]
  refine ⟨ok_none _, Ok.at ?_⟩
  clear d
  refine Ok.step rfl (fun _ h₁ => ?_)
  obtain ⟨d, rfl⟩ := h₁
  rw [stepG_region]
  simp only [goes_go, List.size_toArray, List.length_cons, List.length_nil, Nat.reduceAdd, Nat.zero_add, List.range, List.range.loop]
  refine ⟨ok_none _, Ok.at ?_⟩
  clear d
  refine Ok.step rfl (fun _ h₁ => ?_)
  obtain ⟨d, rfl⟩ := h₁
  refine goes_oper_k rfl rfl (by decide) (fun K hK => ?_)
  go_simp
  refine hK _ _ ⟨⟨Nat.le_refl _, fun e he => ?_⟩, Ok.at ?_⟩
  · have hm := mem_listed he
    simp [go_sem] at hm
  clear hK K d
  refine Ok.step rfl (fun _ h₁ => ?_)
  obtain ⟨d, rfl⟩ := h₁
  refine goes_oper_k rfl rfl (by decide) (fun K hK => ?_)
  go_simp
  refine hK _ _ ⟨⟨Nat.le_refl _, fun e he => ?_⟩, Ok.at ?_⟩
  · have hm := mem_listed he
    simp [go_sem] at hm
  clear hK K d
  refine Ok.step rfl (fun _ h₁ => ?_)
  obtain ⟨d, rfl⟩ := h₁
  rw [stepG_region_end]
  simp only [goes_go]
  refine ⟨ok_none _, Ok.at ?_⟩
  clear d
  refine Ok.step rfl (fun _ h₁ => ?_)
  obtain ⟨d, rfl⟩ := h₁
  rw [stepG_cond (t := true) rfl]
  simp only [goes_go, if_true, if_false, Bool.false_eq_true, ↓reduceIte]
  refine ⟨ok_none _, Ok.at ?_⟩
  clear d
  refine Ok.step rfl (fun _ h₁ => ?_)
  obtain ⟨d, rfl⟩ := h₁
  refine goes_exit rfl ?_
  refine ⟨ok_none _, Ok.at ?_⟩
  clear d
  refine Ok.step rfl (fun _ h₁ => ?_)
  obtain ⟨d, rfl⟩ := h₁
  rw [stepG_seq]
  simp only [goes_go]
  refine ⟨ok_none _, Ok.at ?_⟩
  clear d
  refine Ok.step rfl (fun _ h₁ => ?_)
  obtain ⟨d, rfl⟩ := h₁
  rw [stepG_region]
  simp only [goes_go, List.size_toArray, List.length_cons, List.length_nil, Nat.reduceAdd, Nat.zero_add, List.range, List.range.loop]
  refine ⟨ok_none _, Ok.at ?_⟩
  clear d
  refine Ok.step rfl (fun _ h₁ => ?_)
  obtain ⟨d, rfl⟩ := h₁
  refine goes_oper_k rfl rfl (by decide) (fun K hK => ?_)
  go_simp
  refine hK _ _ ⟨⟨Nat.le_refl _, fun e he => ?_⟩, Ok.at ?_⟩
  · have hm := mem_listed he
    simp [go_sem] at hm
  clear hK K d
  have hc3 : w3.heap[c]? = some (.chan 0 #[] false s r tm) := (hl3 c (lt_of_heap hc)).trans hc
  refine Ok.close_op rfl rfl (by decide) rfl rfl hc3 (by kernel_rfl) ?_
  walk_nrm
  refine Ok.step rfl (fun _ h₁ => ?_)
  obtain ⟨d, rfl⟩ := h₁
  rw [stepG_region_end]
  simp only [goes_go]
  refine ⟨ok_none _, Ok.at ?_⟩
  clear d
  refine Ok.step rfl (fun _ h₁ => ?_)
  obtain ⟨d, rfl⟩ := h₁
  rw [stepG_seq]
  simp only [goes_go]
  refine ⟨ok_none _, Ok.at ?_⟩
  clear d
  refine Ok.step rfl (fun _ h₁ => ?_)
  obtain ⟨d, rfl⟩ := h₁
  rw [stepG_seq]
  simp only [goes_go]
  refine ⟨ok_none _, Ok.at ?_⟩
  clear d
  refine Ok.step rfl (fun _ h₁ => ?_)
  obtain ⟨d, rfl⟩ := h₁
  rw [stepG_region]
  simp only [goes_go, List.size_toArray, List.length_cons, List.length_nil, Nat.reduceAdd, Nat.zero_add, List.range, List.range.loop]
  refine ⟨ok_none _, Ok.at ?_⟩
  clear d
  refine Ok.step rfl (fun _ h₁ => ?_)
  obtain ⟨d, rfl⟩ := h₁
  refine goes_oper_k rfl rfl (by decide) (fun K hK => ?_)
  go_simp
  refine hK _ _ ⟨⟨Nat.le_refl _, fun e he => ?_⟩, Ok.at ?_⟩
  · have hm := mem_listed he
    simp [go_sem] at hm
  clear hK K d
  refine Ok.step rfl (fun _ h₁ => ?_)
  obtain ⟨d, rfl⟩ := h₁
  rw [stepG_region_end]
  simp only [goes_go]
  refine ⟨ok_none _, Ok.at ?_⟩
  clear d
  refine Ok.step rfl (fun _ h₁ => ?_)
  obtain ⟨d, rfl⟩ := h₁
  rw [stepG_block]
  simp only [goes_go]
  refine ⟨ok_none _, Ok.at ?_⟩
  clear d
  refine Ok.step rfl (fun _ h₁ => ?_)
  obtain ⟨d, rfl⟩ := h₁
  rw [stepG_loop]
  simp only [goes_go]
  refine ⟨ok_none _, Ok.at ?_⟩
  clear d
  refine Ok.step rfl (fun _ h₁ => ?_)
  obtain ⟨d, rfl⟩ := h₁
  rw [stepG_seq]
  simp only [goes_go]
  refine ⟨ok_none _, Ok.at ?_⟩
  clear d
  refine Ok.step rfl (fun _ h₁ => ?_)
  obtain ⟨d, rfl⟩ := h₁
  rw [stepG_region]
  simp only [goes_go, List.size_toArray, List.length_cons, List.length_nil, Nat.reduceAdd, Nat.zero_add, List.range, List.range.loop]
  refine ⟨ok_none _, Ok.at ?_⟩
  clear d
  exact hfin (fun k => (#[lv, .int .i64 nF, undef, undef, .slice none 0 0, .chan (some c), .chan (some E.O), sl, .pointer (some ⟨p, 0, none⟩), .bool false, Jn 10, Jn 11, Jn 12, Jn 13, Jn 14, Jn 15, Jn 16, Jn 17, Jn 18, .tuple #[.agg #[.int .i64 0, .slice none 0 0], .bool false], .chan (some E.O), .tuple #[.agg #[.int .i64 0, .slice none 0 0], .bool false], .agg #[.int .i64 0, .slice none 0 0], .bool false, .bool false, .bool true, Jn 26, Jn 27, Jn 28, Jn 29, .chan (some c), .chan (some E.O), Jn 32, Jn 33, Jn 34] : Array Value).getD k undef) (w3.setChan c 0 #[] true s r tm) (by rw [size_setChan]; omega) (fun b hb hne => by (rw [heap_setChan_ne _ _ _ _ _ _ _ (Ne.symm hne)]; exact hl3 b hb)) ⟨hoo3.1, hoo3.2⟩
end Go.Proofs.Ytiobhgemjbjipaa
