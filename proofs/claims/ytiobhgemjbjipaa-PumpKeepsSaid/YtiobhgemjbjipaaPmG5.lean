/- Contracts and plain laws that this claim uses, each with its conditions as premises. -/
import Derived.Test.YtiobhgemjbjipaaPmPumpTake
/- Gather: it takes what comes. Conditions stand as premises. -/
set_option linter.unusedSimpArgs false
set_option linter.unusedVariables false
namespace Go.Proofs.Ytiobhgemjbjipaa
open Go.Conc Go.RowKit Go.Conc.Lib
open Go.ConcR (KK wgBlock WgAt stA smA rd wr mk DC0)
open Go.ConcN (WgLive)
variable {E : PE} {w0 w w₁ : World} {N : Nat} {Jn : Nat → Value} {c : Frame} {cs : List Frame} {lv wsl sl : Value} {MB : Value → List Int → Prop} {ys : List (Nat × Value × Value)}
theorem run_append_op {P : Program} {o : Oper} {a : Act} {w w' : World} {v xv v' : Value} (s x : Operand) (t : TypeId)
    (ho : o.op = .call { callee := .builtin .append, args := #[s, x], argTypes := #[t, t] }) (hs : a.eval s = v) (hx : a.eval x = xv)
    (hr : (Builtin.append_ #[t, t] o.type #[v, xv]).run P w = .ok v' w') : (execOp a.eval o).run P w = .ok (.value v') w' := by
  unfold execOp
  simp only [ho, resolve, invoke, builtin, Sem.run_bind, Sem.run_pure, Result.andThen_ok, List.map_toArray, List.map_cons, List.map_nil, hs, hx, hr]
noncomputable def bodyG : Code := (Try.f9).body.getD .skip
noncomputable def tailG : Code := cSnd (cSnd bodyG)
noncomputable def loopG : Code := cIn (cIn (cSnd (cFst tailG)))
noncomputable def restG : Code := cSnd tailG
/-- Gather at its receive. -/
noncomputable def gG (E : PE) (lv wsl sl : Value) (J : Nat → Value) (c : Frame) (cs : List Frame) : Goroutine :=
  G ((base 9).at ⟨#[lv, undef, .slice none 0 0, sl, J 4, lv, wsl, .chan (some E.O), J 8, J 9, J 10, J 11, J 12, J 13, J 14, J 15], []⟩ [.inRegion (cOps (cFst loopG)) [0, 1], .code (cSnd loopG), .inLoop loopG, .inBlock 0, .code restG]) (c :: cs)
set_option maxRecDepth 100000 in
set_option maxHeartbeats 8000000 in
theorem gath_take (hE : E.Ok) (W : EW E MB) {kn : Nat} {v : Value} {kk : Int} {va : Option Addr} {vn vc : Nat} (hlen : ys.length < 1000000) (hk : kn < E.n) (hfx : E.Fits kn v (.agg #[.int .i64 kk, .slice va vn vc]) w) (hF : KG E w0 N sl ys [] w) :
    Goes Try.prog true (R0 E) (D0 E N) (fun g w => ∃ sl' J', g = gG E lv wsl sl' J' c cs ∧ KG E w0 N sl' (ys ++ [(kn, v, .agg #[.int .i64 kk, .slice va vn vc])]) [] w) 60 ((core (gG E lv wsl sl Jn c cs)).finishComm Try.prog E.cs5 (.recv true) 0 (.agg #[.int .i64 kk, .slice va vn vc]) true) w := by
  unfold gG
  simp only [loopG, restG, tailG, bodyG, Try.f9, Option.getD_some, cSnd, cFst, cIn, cOps]
  rw [fin_G, Frame.finish_at, show commResult E.cs5 (.recv true) 0 (.agg #[.int .i64 kk, .slice va vn vc]) true = .tuple #[.agg #[.int .i64 kk, .slice va vn vc], .bool true] from rfl]
  walk_nrm
  refine Goes.step rfl (fun _ h₁ => ?_)
  replace hfx := fits_keep W hfx h₁.size (fun b hb => h₁.block b (.inr hb) (byt_lt hb))
  replace hF := hF.r0 hE W h₁
  clear h₁
  refine goes_oper_k rfl rfl (by decide) (fun K hK => ?_)
  go_simp
  refine hK _ _ ⟨d0_ev (fun e he => ?_), ?_⟩
  · have hm := mem_listed he
    simp [go_sem] at hm
  clear hK K
  refine Goes.step rfl (fun _ h₁ => ?_)
  replace hfx := fits_keep W hfx h₁.size (fun b hb => h₁.block b (.inr hb) (byt_lt hb))
  replace hF := hF.r0 hE W h₁
  clear h₁
  rw [stepG_region_end]
  simp only [goes_go]
  refine ⟨d0_none _, ?_⟩
  refine Goes.step rfl (fun _ h₁ => ?_)
  replace hfx := fits_keep W hfx h₁.size (fun b hb => h₁.block b (.inr hb) (byt_lt hb))
  replace hF := hF.r0 hE W h₁
  clear h₁
  rw [stepG_seq]
  simp only [goes_go]
  refine ⟨d0_none _, ?_⟩
  refine Goes.step rfl (fun _ h₁ => ?_)
  replace hfx := fits_keep W hfx h₁.size (fun b hb => h₁.block b (.inr hb) (byt_lt hb))
  replace hF := hF.r0 hE W h₁
  clear h₁
  rw [stepG_cond (t := true) rfl]
  simp only [goes_go, if_true, if_false, Bool.false_eq_true, ↓reduceIte]
  refine ⟨d0_none _, ?_⟩
  refine Goes.step rfl (fun _ h₁ => ?_)
  replace hfx := fits_keep W hfx h₁.size (fun b hb => h₁.block b (.inr hb) (byt_lt hb))
  replace hF := hF.r0 hE W h₁
  clear h₁
  rw [stepG_skip]
  simp only [goes_go]
  refine ⟨d0_none _, ?_⟩
  refine Goes.step rfl (fun _ h₁ => ?_)
  replace hfx := fits_keep W hfx h₁.size (fun b hb => h₁.block b (.inr hb) (byt_lt hb))
  replace hF := hF.r0 hE W h₁
  clear h₁
  rw [stepG_block]
  simp only [goes_go]
  refine ⟨d0_none _, ?_⟩
  refine Goes.step rfl (fun _ h₁ => ?_)
  replace hfx := fits_keep W hfx h₁.size (fun b hb => h₁.block b (.inr hb) (byt_lt hb))
  replace hF := hF.r0 hE W h₁
  clear h₁
  rw [stepG_seq]
  simp only [goes_go]
  refine ⟨d0_none _, ?_⟩
  refine Goes.step rfl (fun _ h₁ => ?_)
  replace hfx := fits_keep W hfx h₁.size (fun b hb => h₁.block b (.inr hb) (byt_lt hb))
  replace hF := hF.r0 hE W h₁
  clear h₁
  rw [stepG_region]
  simp only [goes_go, List.size_toArray, List.length_cons, List.length_nil, Nat.reduceAdd, Nat.zero_add, List.range, List.range.loop]
  refine ⟨d0_none _, ?_⟩
  refine Goes.step rfl (fun _ h₁ => ?_)
  replace hfx := fits_keep W hfx h₁.size (fun b hb => h₁.block b (.inr hb) (byt_lt hb))
  replace hF := hF.r0 hE W h₁
  clear h₁
  refine goes_oper_k rfl rfl (by decide) (fun K hK => ?_)
  go_simp
  refine hK _ _ ⟨d0_ev (fun e he => ?_), ?_⟩
  · have hm := mem_listed he
    simp [go_sem] at hm
  clear hK K
  refine g0_opv rfl rfl (by decide) (fun w1 h₁ => ?_)
  replace hfx := fits_keep W hfx h₁.size (fun b hb => h₁.block b (.inr hb) (byt_lt hb))
  replace hF := hF.r0 hE W h₁
  clear h₁
  refine ⟨.pointer (some ⟨w1.heap.size, 0, none⟩), w1.alloc (.cells #[.int .i64 0, .slice none 0 0] 33), by simp [go_sem, execOp], adds_alloc _, fun e he => ?_, ?_⟩
  · simp [go_sem, execOp] at he
  replace hF := hF.alloc hE W #[.int .i64 0, .slice none 0 0]
  obtain ⟨p, hp⟩ : ∃ p, p = w1.heap.size := ⟨_, rfl⟩
  rw [← hp] at hF ⊢
  clear hp
  walk_nrm
  replace hfx := fits_keep (w' := w1.alloc (.cells #[.int .i64 0, .slice none 0 0] 33)) W hfx (by simp) (fun b hb => ah_old w1 _ (byt_lt hb))
  refine g0_opn rfl rfl (by decide) (fun w1 h₁ => ?_)
  replace hfx := fits_keep W hfx h₁.size (fun b hb => h₁.block b (.inr hb) (byt_lt hb))
  replace hF := hF.r0 hE W h₁
  clear h₁
  have hq := hF.l (p, #[.int .i64 0, .slice none 0 0]) (by simp)
  have hst := got_store (kk := kk) (va := va) (vn := vn) (vc := vc) hq.2.1
  have hz := (aside_setCell (w1.setCell ⟨p, 0, none⟩ (.int .i64 kk)) ⟨p, 1, none⟩ (.slice va vn vc)).size.trans (aside_setCell w1 ⟨p, 0, none⟩ (.int .i64 kk)).size
  have hb : ∀ b, b ≠ p → ((w1.setCell ⟨p, 0, none⟩ (.int .i64 kk)).setCell ⟨p, 1, none⟩ (.slice va vn vc)).heap[b]? = w1.heap[b]? := fun b hb => ((aside_setCell (w1.setCell ⟨p, 0, none⟩ (.int .i64 kk)) ⟨p, 1, none⟩ (.slice va vn vc)).block b hb).trans ((aside_setCell w1 ⟨p, 0, none⟩ (.int .i64 kk)).block b hb)
  have hFp : F0 E N w1 p := ⟨hq.1, notByt33 W.by_ hq.2.1⟩
  refine ⟨(w1.setCell ⟨p, 0, none⟩ (.int .i64 kk)).setCell ⟨p, 1, none⟩ (.slice va vn vc), run_u hst.1, ⟨rfl, rfl, rfl, Nat.le_of_eq hz.symm, fun b _ hn => hb b fun e => hn (e ▸ hFp)⟩, fun e he => ?_, ?_⟩
  · have he' : e ∈ (Instr.storeAt 33 (.pointer (some ⟨p, 0, none⟩)) (.agg #[.int .i64 kk, .slice va vn vc])).events Try.prog w1 #[] := by
      rw [← ev_u hst.1]; exact he
    obtain ⟨ad, rfl, hab⟩ := hst.2 e he'
    exact ev_F (by rw [hab]; exact hFp) (by rw [hab, hz]; exact lt_of_heap hq.2.1)
  replace hfx := fits_keep (w' := (w1.setCell ⟨p, 0, none⟩ (.int .i64 kk)).setCell ⟨p, 1, none⟩ (.slice va vn vc)) W hfx (Nat.le_of_eq hz.symm) (fun b hB => hb b fun e => notByt33 W.by_ hq.2.1 (e ▸ hB))
  replace hF := hF.turn hE W W.by_ hz hb (setCell_two1 (setCell_two0 hq.2.1))
  clear hq hst hz hb hFp
  walk_nrm
  refine Goes.step rfl (fun _ h₁ => ?_)
  replace hfx := fits_keep W hfx h₁.size (fun b hb => h₁.block b (.inr hb) (byt_lt hb))
  replace hF := hF.r0 hE W h₁
  clear h₁
  rw [stepG_region_end]
  simp only [goes_go]
  refine ⟨d0_none _, ?_⟩
  refine Goes.step rfl (fun _ h₁ => ?_)
  replace hfx := fits_keep W hfx h₁.size (fun b hb => h₁.block b (.inr hb) (byt_lt hb))
  replace hF := hF.r0 hE W h₁
  clear h₁
  rw [stepG_region]
  simp only [goes_go, List.size_toArray, List.length_cons, List.length_nil, Nat.reduceAdd, Nat.zero_add, List.range, List.range.loop]
  refine ⟨d0_none _, ?_⟩
  refine Goes.step rfl (fun _ h₁ => ?_)
  replace hfx := fits_keep W hfx h₁.size (fun b hb => h₁.block b (.inr hb) (byt_lt hb))
  replace hF := hF.r0 hE W h₁
  clear h₁
  refine goes_oper_k rfl rfl (by decide) (fun K hK => ?_)
  go_simp
  refine hK _ _ ⟨d0_ev (fun e he => ?_), ?_⟩
  · have hm := mem_listed he
    simp [go_sem] at hm
  clear hK K
  refine g0_opv rfl rfl (by decide) (fun w1 h₁ => ?_)
  replace hfx := fits_keep W hfx h₁.size (fun b hb => h₁.block b (.inr hb) (byt_lt hb))
  replace hF := hF.r0 hE W h₁
  clear h₁
  have hq := hF.l (p, #[.int .i64 kk, .slice va vn vc]) (by simp)
  have hst := got_load hq.2.1
  refine ⟨.agg #[.int .i64 kk, .slice va vn vc], w1, run_v hst.1, .refl _, fun e he => ?_, ?_⟩
  · have he' : e ∈ (Instr.loadAt 33 (.pointer (some ⟨p, 0, none⟩))).events Try.prog w1 #[] := by
      rw [← ev_v hst.1]; exact he
    obtain ⟨ad, rfl, hab⟩ := hst.2 e he'
    exact ev_F (by rw [hab]; exact ⟨hq.1, notByt33 W.by_ hq.2.1⟩) (by rw [hab]; exact lt_of_heap hq.2.1)
  clear hq hst
  walk_nrm
  refine g0_opv rfl rfl (by decide) (fun w1 h₁ => ?_)
  replace hfx := fits_keep W hfx h₁.size (fun b hb => h₁.block b (.inr hb) (byt_lt hb))
  replace hF := hF.r0 hE W h₁
  clear h₁
  refine ⟨.slice (some ⟨w1.heap.size, 0, none⟩) 1 1, w1.alloc (.cells #[.int .i64 kk, .slice va vn vc] 33), by simp [go_sem, execOp], adds_alloc _, fun e he => ?_, ?_⟩
  · simp [go_sem, execOp] at he
  replace hF := hF.alloc hE W #[.int .i64 kk, .slice va vn vc]
  obtain ⟨tb, hp⟩ : ∃ p, p = w1.heap.size := ⟨_, rfl⟩
  rw [← hp] at hF ⊢
  clear hp
  walk_nrm
  replace hfx := fits_keep (w' := w1.alloc (.cells #[.int .i64 kk, .slice va vn vc] 33)) W hfx (by simp) (fun b hb => ah_old w1 _ (byt_lt hb))
  refine g0_opv rfl rfl (by decide) (fun w1 h₁ => ?_)
  have hfx := fits_keep W hfx h₁.size (fun b hb => h₁.block b (.inr hb) (byt_lt hb))
  replace hF := hF.r0 hE W h₁
  clear h₁
  have hq := hF.l (tb, #[.int .i64 kk, .slice va vn vc]) (by simp)
  obtain ⟨v', w', r1, r2, r3, r4⟩ := got_append (ty := 25) (tc := 1) hF.own hF.j.n1 hlen hq.2.1
  refine ⟨v', w', run_append_op (.tmp 11) (.tmp 13) 25 rfl rfl rfl r1, adds_grown r3 (hF.ownF W.by_), fun e he => ?_, ?_⟩
  · rw [events_append_op (.tmp 11) (.tmp 13) 25 rfl rfl rfl] at he
    rcases r4 e he with ⟨ad, wr, sy, rfl, hab | hab⟩ | rfl
    · exact ev_F (by rw [hab]; exact ⟨hq.1, notByt33 W.by_ hq.2.1⟩) (by rw [hab]; exact Nat.lt_of_lt_of_le (lt_of_heap hq.2.1) r3.size)
    · exact ev_F (hF.ownF W.by_ _ hab.symm) (Nat.lt_of_lt_of_le (World.ownsRow.lt hF.own _ hab.symm).2 r3.size)
    · exact .inr rfl
  replace hF := hF.put hE W W.by_ r2 r3 hk hfx
  clear hq r1 r2 r3 r4 hfx
  walk_nrm
  refine Goes.step rfl (fun _ h₁ => ?_)
  replace hF := hF.r0 hE W h₁
  clear h₁
  refine goes_oper_k rfl rfl (by decide) (fun K hK => ?_)
  go_simp
  refine hK _ _ ⟨d0_ev (fun e he => ?_), ?_⟩
  · have hm := mem_listed he
    simp [go_sem] at hm
  clear hK K
  refine Goes.step rfl (fun _ h₁ => ?_)
  replace hF := hF.r0 hE W h₁
  clear h₁
  rw [stepG_region_end]
  simp only [goes_go]
  refine ⟨d0_none _, ?_⟩
  refine Goes.step rfl (fun _ h₁ => ?_)
  replace hF := hF.r0 hE W h₁
  clear h₁
  rw [stepG_inBlock]
  simp only [goes_go]
  refine ⟨d0_none _, ?_⟩
  refine Goes.step rfl (fun _ h₁ => ?_)
  replace hF := hF.r0 hE W h₁
  clear h₁
  rw [stepG_inLoop]
  simp only [goes_go]
  refine ⟨d0_none _, ?_⟩
  refine Goes.step rfl (fun _ h₁ => ?_)
  replace hF := hF.r0 hE W h₁
  clear h₁
  rw [stepG_seq]
  simp only [goes_go]
  refine ⟨d0_none _, ?_⟩
  refine Goes.step rfl (fun _ h₁ => ?_)
  replace hF := hF.r0 hE W h₁
  clear h₁
  rw [stepG_region]
  simp only [goes_go, List.size_toArray, List.length_cons, List.length_nil, Nat.reduceAdd, Nat.zero_add, List.range, List.range.loop]
  refine ⟨d0_none _, ?_⟩
  exact Goes.stop (fun w2 h₁ => ⟨v', fun k => (#[undef, undef, undef, undef, .pointer (some ⟨p, 0, none⟩), undef, undef, undef, .tuple #[.agg #[.int .i64 kk, .slice va vn vc], .bool true], .bool true, .agg #[.int .i64 kk, .slice va vn vc], sl, .agg #[.int .i64 kk, .slice va vn vc], .slice (some ⟨tb, 0, none⟩) 1 1, v', Jn 15] : Array Value).getD k undef, rfl, hF.r0 hE W h₁⟩)
end Go.Proofs.Ytiobhgemjbjipaa

/- Gather's receives as the machine theorem asks them; its way out. Conditions stand as premises. -/
set_option linter.unusedSimpArgs false
set_option linter.unusedVariables false
namespace Go.Proofs.Ytiobhgemjbjipaa
open Go.Conc Go.RowKit Go.Conc.Lib
open Go.ConcN (WgLive)
variable {E : PE} {w0 w w₁ : World} {N : Nat} {Jn : Nat → Value} {c : Frame} {cs : List Frame} {lv wsl sl : Value} {MB : Value → List Int → Prop} {ys : List (Nat × Value × Value)}
theorem ok_none {Old : Nat → Prop} (w : World) : w.heap.size ≤ w.heap.size ∧ ∀ e ∈ (#[] : Array Event), EvO Old w.heap.size e := ⟨Nat.le_refl _, fun e he => by simp at he⟩
/-- Gather has found the channel closed. -/
def ExitG (E : PE) (w0 : World) (lv wsl : Value) (c : Frame) (cs : List Frame) (b : Bool) (ys : List (Nat × Value × Value)) (g : Goroutine) (w : World) : Prop :=
  ∃ N sl J, g = (core (gG E lv wsl sl J c cs)).finishComm Try.prog E.cs5 (.recv true) 0 E.zG false ∧ KG E w0 N sl ys [] w
theorem gath_at (W : EW E MB) {R : World → World → Prop} : AtC Try.prog true R E.cs5 (.recv true) (gG E lv wsl sl Jn c cs) w := by
  unfold PE.cs5 gG
  rw [W.zG]
  simp only [loopG, restG, tailG, bodyG, Try.f9, Option.getD_some, cSnd, cFst, cIn, cOps]
  exact atC_of rfl rfl (by decide) (fun w => by simp [go_sem, execOp, rcase, Act.eval]) (fun w => by simp [go_sem, execOp, Act.eval])
theorem gath_recv (hE : E.Ok) (W : EW E MB) : ∀ (n : Nat) (ys : List (Nat × Value × Value)) (sl : Value) (J : Nat → Value) (w : World), ys.length + n < 1000000 → KG E w0 N sl ys [] w →
    MRecv Try.prog E (ExitG E w0 lv wsl c cs) n false ys N (some (E.cs5, .recv true)) (gG E lv wsl sl J c cs) w := by
  intro n
  induction n with
  | zero =>
    intro ys sl J w hn hF
    unfold MRecv
    exact ⟨rfl, gath_at W, fun w₁ h₁ => ⟨N, sl, J, rfl, hF.r0 hE W h₁⟩⟩
  | succ n ih =>
    intro ys sl J w hn hF
    unfold MRecv
    refine .inl ⟨rfl, gath_at W, fun w₁ h₁ => ⟨N, sl, J, rfl, hF.r0 hE W h₁⟩, fun k v x w₁ h₁ hk hf => ?_⟩
    have hf' := hf
    rw [W.fits] at hf
    obtain ⟨bs, V, hmb, rfl, hmsg⟩ := hf
    obtain ⟨va, vn, vc, rfl, _⟩ := id hmsg
    refine ⟨60, Goes.weaken (fun _ _ x => x) (fun _ _ _ x => x) (fun g w hx => ?_) (gath_take hE W (by omega) hk hf' (hF.r0 hE W h₁))⟩
    obtain ⟨sl', J', rfl, hF'⟩ := hx
    exact ⟨_, ih _ sl' J' w (by simp; omega) hF'⟩
noncomputable def ops2G : Array Oper := cOps (cFst (cFst tailG))
noncomputable def blk0G : Code := cSnd (cFst tailG)
set_option maxRecDepth 100000 in
set_option maxHeartbeats 8000000 in
/-- Behind Join's return Gather comes to its receive. -/
theorem gath_begin (hE : E.Ok) (W : EW E MB) {n : Nat} (hn : n < 1000000) {J7 : Value} (hF : KJ E w0 N w) :
    Goes Try.prog true (R0 E) (D0 E N) (fun g w => ∃ o, MRecv Try.prog E (ExitG E w0 lv wsl c cs) n false [] N o g w) 10
      (G ((base 9).at ⟨#[lv, undef, .slice none 0 0, .slice none 0 0, undef, lv, wsl, .chan (some E.O), undef, undef, undef, undef, undef, undef, undef, undef], []⟩ [.inRegion ops2G [], .code blk0G, .code restG]) (c :: cs)) w := by
  simp only [ops2G, blk0G, loopG, restG, tailG, bodyG, Try.f9, Option.getD_some, cSnd, cFst, cIn, cOps]
  refine Goes.step rfl (fun _ h₁ => ?_)
  replace hF := hF.r0 h₁
  clear h₁
  rw [stepG_region_end]
  simp only [goes_go]
  refine ⟨d0_none _, ?_⟩
  refine Goes.step rfl (fun _ h₁ => ?_)
  replace hF := hF.r0 h₁
  clear h₁
  rw [stepG_block]
  simp only [goes_go]
  refine ⟨d0_none _, ?_⟩
  refine Goes.step rfl (fun _ h₁ => ?_)
  replace hF := hF.r0 h₁
  clear h₁
  rw [stepG_loop]
  simp only [goes_go]
  refine ⟨d0_none _, ?_⟩
  refine Goes.step rfl (fun _ h₁ => ?_)
  replace hF := hF.r0 h₁
  clear h₁
  rw [stepG_seq]
  simp only [goes_go]
  refine ⟨d0_none _, ?_⟩
  refine Goes.step rfl (fun _ h₁ => ?_)
  replace hF := hF.r0 h₁
  clear h₁
  rw [stepG_region]
  simp only [goes_go, List.size_toArray, List.length_cons, List.length_nil, Nat.reduceAdd, Nat.zero_add, List.range, List.range.loop]
  refine ⟨d0_none _, ?_⟩
  refine Goes.stop (fun w2 h₁ => ⟨some (E.cs5, .recv true), ?_⟩)
  have := gath_recv (lv := lv) (wsl := wsl) (c := c) (cs := cs) hE W n [] (.slice none 0 0) (fun _ => undef) w2 (by simpa using hn) (N := N) (w0 := w0) ⟨hF.r0 h₁, World.ownsRow_nil _ _ _ _, fun y hy => by simp at hy, fun q hq => by simp at hq, fun y hy => by simp at hy⟩
  unfold gG at this
  simp only [loopG, restG, tailG, bodyG, Try.f9, Option.getD_some, cSnd, cFst, cIn, cOps] at this
  exact this
set_option maxRecDepth 100000 in
set_option maxHeartbeats 8000000 in
/-- The way out: the channel is closed, Gather hands its row back. -/
theorem gath_out {Post : Value → World → Prop} {Old : Nat → Prop} {m : Nat} {b₀ : Frame} {a₀ : Act} {ops₀ : Array Oper} {i₀ : Nat} {rest₀ : List Nat} {k₀ : List Item} (W : EW E MB)
    (h : Ok Try.prog Post Old m (G (b₀.at (a₀.put ((ops₀[i₀]?).bind (·.dst)) sl) (.inRegion ops₀ rest₀ :: k₀)) cs) w) :
    Ok Try.prog Post Old m ((core (gG E lv wsl sl Jn (b₀.at a₀ (.inRegion ops₀ (i₀ :: rest₀) :: k₀)) cs)).finishComm Try.prog E.cs5 (.recv true) 0 E.zG false) w := by
  unfold gG
  simp only [loopG, restG, tailG, bodyG, Try.f9, Option.getD_some, cSnd, cFst, cIn, cOps]
  rw [fin_G, Frame.finish_at, show commResult E.cs5 (.recv true) 0 E.zG false = .tuple #[E.zG, .bool false] from rfl]
  walk_nrm
  refine Ok.step rfl (fun _ h₁ => ?_)
  obtain ⟨d, rfl⟩ := h₁
  refine goes_oper_k rfl rfl (by decide) (fun K hK => ?_)
  go_simp
  refine hK _ _ ⟨⟨Nat.le_refl _, fun e he => ?_⟩, Ok.at ?_⟩
  · have hm := mem_listed he
    simp [go_sem] at hm
  clear hK K d
  refine Ok.step rfl (fun _ h₁ => ?_)
  obtain ⟨d, rfl⟩ := h₁
  rw [stepG_region_end]
  simp only [goes_go]
  refine ⟨ok_none _, Ok.at ?_⟩
  clear d
  refine Ok.step rfl (fun _ h₁ => ?_)
  obtain ⟨d, rfl⟩ := h₁
  rw [stepG_seq]
  simp only [goes_go]
  refine ⟨ok_none _, Ok.at ?_⟩
  clear d
  refine Ok.step rfl (fun _ h₁ => ?_)
  obtain ⟨d, rfl⟩ := h₁
  rw [stepG_cond (t := false) rfl]
  simp only [goes_go, if_true, if_false, Bool.false_eq_true, ↓reduceIte]
  refine ⟨ok_none _, Ok.at ?_⟩
  clear d
  refine Ok.step rfl (fun _ h₁ => ?_)
  obtain ⟨d, rfl⟩ := h₁
  refine goes_exit rfl ?_
  refine ⟨ok_none _, Ok.at ?_⟩
  clear d
  refine Ok.step rfl (fun _ h₁ => ?_)
  obtain ⟨d, rfl⟩ := h₁
  rw [stepG_seq]
  simp only [goes_go]
  refine ⟨ok_none _, Ok.at ?_⟩
  clear d
  refine Ok.step rfl (fun _ h₁ => ?_)
  obtain ⟨d, rfl⟩ := h₁
  rw [stepG_region]
  simp only [goes_go, List.size_toArray, List.length_cons, List.length_nil, Nat.reduceAdd, Nat.zero_add, List.range, List.range.loop]
  refine ⟨ok_none _, Ok.at ?_⟩
  clear d
  refine Ok.step rfl (fun _ h₁ => ?_)
  obtain ⟨d, rfl⟩ := h₁
  refine goes_oper_k rfl rfl (by decide) (fun K hK => ?_)
  go_simp
  refine hK _ _ ⟨⟨Nat.le_refl _, fun e he => ?_⟩, Ok.at ?_⟩
  · have hm := mem_listed he
    simp [go_sem] at hm
  clear hK K d
  refine Ok.step rfl (fun _ h₁ => ?_)
  obtain ⟨d, rfl⟩ := h₁
  refine goes_oper_k rfl rfl (by decide) (fun K hK => ?_)
  go_simp
  refine hK _ _ ⟨⟨Nat.le_refl _, fun e he => ?_⟩, Ok.at ?_⟩
  · have hm := mem_listed he
    simp [go_sem] at hm
  clear hK K d
  refine Ok.step rfl (fun _ h₁ => ?_)
  obtain ⟨d, rfl⟩ := h₁
  rw [stepG_region_end]
  simp only [goes_go]
  refine ⟨ok_none _, Ok.at ?_⟩
  clear d
  refine Ok.step rfl (fun _ h₁ => ?_)
  obtain ⟨d, rfl⟩ := h₁
  rw [stepG_ret']
  simp only [goes_go]
  refine ⟨ok_none _, Ok.at ?_⟩
  clear d
  refine Ok.step rfl (fun _ h₁ => ?_)
  obtain ⟨d, rfl⟩ := h₁
  refine goes_leave1 rfl rfl Try.func9 rfl ⟨ok_none _, Ok.at ?_⟩
  clear d
  walk_nrm
  exact h
end Go.Proofs.Ytiobhgemjbjipaa
