/- ways, walked: each row on a channel of its own, filled and closed. Conditions stand as premises. -/
import Derived.Test.YtiobhgemjbjipaaPmPumpWaysA
import Derived.Conc.TokenWalk
set_option linter.unusedSimpArgs false
set_option linter.unusedVariables false
namespace Go.Proofs.Ytiobhgemjbjipaa
open Go.Conc Go.RowKit Go.Conc.Lib
open Go.ConcN (upd upd_ne upd_same)
variable {Old : Nat → Prop} {w0 w w' : World} {VS : Nat → List Value} {c : Nat} {Cr : Nat → Nat} {out : Value} {Post : Value → World → Prop} {m : Nat} {a : Option Addr} {n cp : Nat} {J : Nat → Value}
  {b₀ : Frame} {a₀ : Act} {ops₀ : Array Oper} {i₀ : Nat} {rest₀ : List Nat} {k₀ : List Item} {cs : List Frame}
theorem Ok.send_op {P : Program} {b : Frame} {a : Act} {ops : Array Oper} {i : Nat} {rest : List Nat} {k : List Item} {o : Oper} {cap s r : Nat} {buf : Array Value} {tm : Bool} {v z : Value} (ho : ops[i]? = some o) (hw : Region.wanted o (yielded ops a.tmps) = true) (hk : b.kind ≠ .early)
    (hr : ∀ w, (execOp a.eval o).run P w = .ok (.comm #[scase c v z] true .send) w) (he : ∀ w, (execOp a.eval o).events P w #[] = #[]) (hc : w.heap[c]? = some (.chan cap buf false s r tm)) (hroom : buf.size < cap)
    (h : Ok P Post Old m (G (b.at (a.put ((ops[i]?).bind (·.dst)) undef) (.inRegion ops rest :: k)) cs) (w.setChan c cap (buf.push v) false (s + 1) r tm)) : Ok P Post Old m (G (b.at a (.inRegion ops (i :: rest) :: k)) cs) w := by
  refine Ok.send (g₂ := G (b.at a (.inRegion ops (i :: rest) :: k)) cs) (v := v) (z := z) (blocking := true) (shape := .send) rfl (fun w₁ _ => ?_) hc hroom ?_
  · rw [stepG_comm ho hw hk (hr w₁), listed_none (he w₁)]
  · rw [show (G (b.at a (.inRegion ops (i :: rest) :: k)) cs).finishComm P #[scase c v z] .send 0 undef false = G ((b.at a (.inRegion ops (i :: rest) :: k)).finish undef) cs from rfl, Frame.finish_at]
    exact h
theorem Ok.close_op {P : Program} {b : Frame} {a : Act} {ops : Array Oper} {i : Nat} {rest : List Nat} {k : List Item} {o : Oper} {cap s r : Nat} {buf : Array Value} {tm : Bool} {x : Operand} {ats : Array TypeId} (ho : ops[i]? = some o) (hw : Region.wanted o (yielded ops a.tmps) = true) (hk : b.kind ≠ .early)
    (hop : o.op = .call { callee := .builtin .close, args := #[x], argTypes := ats }) (hx : a.eval x = .chan (some c)) (hc : w.heap[c]? = some (.chan cap buf false s r tm)) (hq : (P.funcs[b.fn]?).any (·.norace) = false)
    (h : Ok P Post Old m (G (b.at (a.put o.dst (.tuple #[])) (.inRegion ops rest :: k)) cs) (w.setChan c cap buf true s r tm)) : Ok P Post Old m (G (b.at a (.inRegion ops (i :: rest) :: k)) cs) w := by
  refine Ok.step rfl fun w₁ h₁ => ?_
  obtain ⟨d, rfl⟩ := h₁
  rw [stepG_close (c := c) (w := w.at d) ho hw hk hop hx hc hq]
  refine ⟨⟨Nat.le_of_eq (size_setChan _ _ _ _ _ _ _ _).symm, fun e he => ?_⟩, ?_⟩
  · have hl : c < ((w.at d).setChan c cap buf true s r tm).heap.size := by rw [size_setChan]; exact lt_of_heap hc
    simp only [closeEvents, List.mem_toArray, List.mem_cons, List.not_mem_nil, or_false] at he
    rcases he with rfl | rfl
    · exact .inr (.inl ⟨c, _, rfl, hl⟩)
    · exact .inr (.inl ⟨c, _, rfl, hl⟩)
  · exact Ok.at (d := d) h
theorem make_rows (w : World) (k : Nat) (hk : k < 1000000) : (Instr.makeChan 61 (.int .i64 (k : Int))).run Try.prog w = .ok (.chan (some w.heap.size)) (w.alloc (.chan k #[] false 0 0 false)) ∧ ∀ es, (Instr.makeChan 61 (.int .i64 (k : Int))).events Try.prog w es = es := by
  obtain ⟨i, hi⟩ : ∃ i, Try.prog.info? 30 = some i := ⟨_, rfl⟩
  have hb : i.bytes = 24 ∧ True := by
    have : Try.prog.info? 30 = some i := hi
    revert hi
    intro hi
    cases hi
    exact ⟨by kernel_rfl, trivial⟩
  replace hb := hb.1
  exact ⟨run_makeChan (t := 61) rfl hi .i64 k (by omega) (by rw [hb]; omega), fun es => events_makeChan (t := 61) rfl hi .i64 k (by omega) (by rw [hb]; omega) es⟩
noncomputable def bodyWs : Code := (Try.f17).body.getD .skip
noncomputable def loopWs : Code := cIn (cIn (cSnd (cFst (cSnd (cSnd bodyWs)))))
noncomputable def restWs : Code := cSnd (cSnd (cSnd bodyWs))
noncomputable def blkWs : Code := cIn (cFst (cSnd (cSnd loopWs)))
noncomputable def k1Ws : Code := cSnd (cSnd (cSnd loopWs))
noncomputable def in2Ws : Code := cIn (cIn (cSnd (cFst (cSnd (cSnd blkWs)))))
noncomputable def k2Ws : Code := cSnd (cSnd (cSnd blkWs))
/-- At the outer loop's head. -/
noncomputable def gWs (a : Option Addr) (n cp i : Nat) (out : Value) (J : Nat → Value) (c₀ : Frame) (cs : List Frame) : Goroutine :=
  G ((base 17).at ⟨#[.slice a n cp, J 1, .slice none 0 0, out, J 4, J 5, J 6, J 7, J 8, .slice a n cp, .int .i64 (n : Int), .int .i64 (i : Int), J 12, J 13, J 14, J 15, J 16, J 17, J 18, J 19, J 20, J 21, J 22, J 23, J 24, J 25, J 26, J 27, J 28, J 29, J 30, J 31, J 32, J 33], []⟩ [.code loopWs, .inLoop loopWs, .inBlock 0, .code restWs]) (c₀ :: cs)
/-- At the inner loop's head. -/
noncomputable def gWi (a : Option Addr) (n cp i : Nat) (out : Value) (ra : Option Addr) (ln rc c j : Nat) (J : Nat → Value) (c₀ : Frame) (cs : List Frame) : Goroutine :=
  G ((base 17).at ⟨#[.slice a n cp, J 1, .slice none 0 0, out, J 4, .slice ra ln rc, .chan (some c), J 7, J 8, .slice a n cp, .int .i64 (n : Int), .int .i64 (i : Int), J 12, J 13, J 14, J 15, J 16, J 17, .slice ra ln rc, .int .i64 (ln : Int), .int .i64 (j : Int), J 21, J 22, J 23, J 24, J 25, J 26, J 27, J 28, J 29, J 30, J 31, J 32, J 33], []⟩ [.code in2Ws, .inLoop in2Ws, .inBlock 2, .code k2Ws, .inBlock 1, .code k1Ws, .inLoop loopWs, .inBlock 0, .code restWs]) (c₀ :: cs)
/-- Behind the inner loop. -/
noncomputable def gWk (a : Option Addr) (n cp i : Nat) (out : Value) (ra : Option Addr) (ln rc c j : Nat) (J : Nat → Value) (c₀ : Frame) (cs : List Frame) : Goroutine :=
  G ((base 17).at ⟨#[.slice a n cp, J 1, .slice none 0 0, out, J 4, .slice ra ln rc, .chan (some c), J 7, J 8, .slice a n cp, .int .i64 (n : Int), .int .i64 (i : Int), J 12, J 13, J 14, J 15, J 16, J 17, .slice ra ln rc, .int .i64 (ln : Int), .int .i64 (j : Int), J 21, J 22, J 23, J 24, J 25, J 26, J 27, J 28, J 29, J 30, J 31, J 32, J 33], []⟩ [.code k2Ws, .inBlock 1, .code k1Ws, .inLoop loopWs, .inBlock 0, .code restWs]) (c₀ :: cs)
set_option maxRecDepth 100000 in
set_option maxHeartbeats 8000000 in
theorem ways_in {i : Nat} {ra : Option Addr} {ln rc : Nat} {c₀ : Frame} (hl1 : ln ≤ (VS i).length) (hl2 : (VS i).length ≤ ln) (hbig : ln < 1000000) (hsl : SlOf Old w0 (.slice ra ln rc) (VS i))
    (hS : ∀ J w, WS2 Old w0 VS i Cr out c (VS i).length false w → Ok Try.prog Post Old m (gWk a n cp i out ra ln rc c ln J c₀ cs) w) :
    ∀ (r j : Nat) (J : Nat → Value) (w : World), j + r = ln → WS2 Old w0 VS i Cr out c j false w → Ok Try.prog Post Old m (gWi a n cp i out ra ln rc c j J c₀ cs) w := by
  intro r
  induction r with
  | zero =>
    intro j J w hj hw
    obtain rfl : j = ln := by omega
    have q1 : decide ((j : Int) < (j : Int)) = false := decide_eq_false (by omega)
    replace hw : WS2 Old w0 VS i Cr out c (VS i).length false w := by
      have e : j = (VS i).length := by omega
      rwa [e] at hw
    unfold gWi
    simp only [loopWs, in2Ws, k2Ws, k1Ws, restWs, blkWs, bodyWs, Try.f17, Option.getD_some, cSnd, cFst, cIn, cOps]
    refine Ok.step rfl (fun _ h₁ => ?_)
    obtain ⟨d, rfl⟩ := h₁
    rw [stepG_seq]
    simp only [goes_go]
    refine ⟨ok_none _, Ok.at ?_⟩
    clear d
    refine Ok.step rfl (fun _ h₁ => ?_)
    obtain ⟨d, rfl⟩ := h₁
    rw [stepG_region]
    simp only [goes_go, List.size_toArray, List.length_cons, List.length_nil, Nat.reduceAdd, Nat.zero_add, List.range, List.range.loop]
    refine ⟨ok_none _, Ok.at ?_⟩
    clear d
    refine Ok.step rfl (fun _ h₁ => ?_)
    obtain ⟨d, rfl⟩ := h₁
    refine goes_oper_k rfl rfl (by decide) (fun K hK => ?_)
    go_simp
    refine hK _ _ ⟨⟨Nat.le_refl _, fun e he => ?_⟩, Ok.at ?_⟩
    · have hm := mem_listed he
      simp [go_sem] at hm
    clear hK K d
    refine Ok.step rfl (fun _ h₁ => ?_)
    obtain ⟨d, rfl⟩ := h₁
    rw [stepG_region_end]
    simp only [goes_go]
    refine ⟨ok_none _, Ok.at ?_⟩
    clear d
    refine Ok.step rfl (fun _ h₁ => ?_)
    obtain ⟨d, rfl⟩ := h₁
    rw [stepG_seq]
    simp only [goes_go]
    refine ⟨ok_none _, Ok.at ?_⟩
    clear d
    refine Ok.step rfl (fun _ h₁ => ?_)
    obtain ⟨d, rfl⟩ := h₁
    rw [stepG_cond (t := false) rfl]
    simp only [goes_go, if_true, if_false, Bool.false_eq_true, ↓reduceIte]
    refine ⟨ok_none _, Ok.at ?_⟩
    clear d
    refine Ok.step rfl (fun _ h₁ => ?_)
    obtain ⟨d, rfl⟩ := h₁
    refine goes_exit rfl ?_
    refine ⟨ok_none _, Ok.at ?_⟩
    clear d
    have hfin := hS (fun k => (#[J 0, J 1, J 2, J 3, J 4, J 5, J 6, J 7, J 8, J 9, J 10, J 11, J 12, J 13, J 14, J 15, J 16, J 17, J 18, J 19, J 20, .bool false, J 22, J 23, J 24, J 25, J 26, J 27, J 28, J 29, J 30, J 31, J 32, J 33] : Array Value).getD k undef) _ hw
    unfold gWk at hfin
    simp only [loopWs, in2Ws, k2Ws, k1Ws, restWs, blkWs, bodyWs, Try.f17, Option.getD_some, cSnd, cFst, cIn, cOps] at hfin
    first
    | exact hfin
    | (simp only [Int.natCast_add, Int.cast_ofNat_Int] at hfin; exact hfin)
  | succ r ih =>
    intro j J w hj hw
    have hlt : j < (VS i).length := by omega
    have hv := List.getElem?_eq_getElem hlt
    obtain ⟨v, hvd⟩ : ∃ v, v = (VS i)[j] := ⟨_, rfl⟩
    rw [← hvd] at hv
    clear hvd
    obtain ⟨rb, ro, rfl, hrb, hro, hrc⟩ := hsl.cell hv
    have q1 : decide ((j : Int) < (ln : Int)) = true := decide_eq_true (by omega)
    have q2 : (0 : Int) ≤ (j : Int) ∧ (j : Int) < (ln : Int) := ⟨by omega, by omega⟩
    have q3 : IntKind.i64.wrap ((j : Int) + 1) = ((j + 1 : Nat) : Int) := by rw [IntKind.wrap_i64]; omega
    have hcw : w.cell? ⟨rb, ro + j, none⟩ = some v := (cell_same (a := ⟨rb, ro + j, none⟩) (hw.s.e.low rb hrb)).trans hrc
    have hsz := Nat.lt_of_lt_of_le hrb hw.s.e.size
    unfold gWi
    simp only [loopWs, in2Ws, k2Ws, k1Ws, restWs, blkWs, bodyWs, Try.f17, Option.getD_some, cSnd, cFst, cIn, cOps]
    refine Ok.step rfl (fun _ h₁ => ?_)
    obtain ⟨d, rfl⟩ := h₁
    rw [stepG_seq]
    simp only [goes_go]
    refine ⟨ok_none _, Ok.at ?_⟩
    clear d
    refine Ok.step rfl (fun _ h₁ => ?_)
    obtain ⟨d, rfl⟩ := h₁
    rw [stepG_region]
    simp only [goes_go, List.size_toArray, List.length_cons, List.length_nil, Nat.reduceAdd, Nat.zero_add, List.range, List.range.loop]
    refine ⟨ok_none _, Ok.at ?_⟩
    clear d
    refine Ok.step rfl (fun _ h₁ => ?_)
    obtain ⟨d, rfl⟩ := h₁
    refine goes_oper_k rfl rfl (by decide) (fun K hK => ?_)
    go_simp
    refine hK _ _ ⟨⟨Nat.le_refl _, fun e he => ?_⟩, Ok.at ?_⟩
    · have hm := mem_listed he
      simp [go_sem] at hm
    clear hK K d
    refine Ok.step rfl (fun _ h₁ => ?_)
    obtain ⟨d, rfl⟩ := h₁
    rw [stepG_region_end]
    simp only [goes_go]
    refine ⟨ok_none _, Ok.at ?_⟩
    clear d
    refine Ok.step rfl (fun _ h₁ => ?_)
    obtain ⟨d, rfl⟩ := h₁
    rw [stepG_seq]
    simp only [goes_go]
    refine ⟨ok_none _, Ok.at ?_⟩
    clear d
    refine Ok.step rfl (fun _ h₁ => ?_)
    obtain ⟨d, rfl⟩ := h₁
    rw [stepG_cond (t := true) rfl]
    simp only [goes_go, if_true, if_false, Bool.false_eq_true, ↓reduceIte]
    refine ⟨ok_none _, Ok.at ?_⟩
    clear d
    refine Ok.step rfl (fun _ h₁ => ?_)
    obtain ⟨d, rfl⟩ := h₁
    rw [stepG_skip]
    simp only [goes_go]
    refine ⟨ok_none _, Ok.at ?_⟩
    clear d
    refine Ok.step rfl (fun _ h₁ => ?_)
    obtain ⟨d, rfl⟩ := h₁
    rw [stepG_seq]
    simp only [goes_go]
    refine ⟨ok_none _, Ok.at ?_⟩
    clear d
    refine Ok.step rfl (fun _ h₁ => ?_)
    obtain ⟨d, rfl⟩ := h₁
    rw [stepG_block]
    simp only [goes_go]
    refine ⟨ok_none _, Ok.at ?_⟩
    clear d
    refine Ok.step rfl (fun _ h₁ => ?_)
    obtain ⟨d, rfl⟩ := h₁
    rw [stepG_seq]
    simp only [goes_go]
    refine ⟨ok_none _, Ok.at ?_⟩
    clear d
    refine Ok.step rfl (fun _ h₁ => ?_)
    obtain ⟨d, rfl⟩ := h₁
    rw [stepG_region]
    simp only [goes_go, List.size_toArray, List.length_cons, List.length_nil, Nat.reduceAdd, Nat.zero_add, List.range, List.range.loop]
    refine ⟨ok_none _, Ok.at ?_⟩
    clear d
    refine Ok.step rfl (fun _ h₁ => ?_)
    obtain ⟨d, rfl⟩ := h₁
    refine goes_oper_k rfl rfl (by decide) (fun K hK => ?_)
    have f0 := q2
    go_simp
    refine hK _ _ ⟨⟨Nat.le_refl _, fun e he => ?_⟩, Ok.at ?_⟩
    · have hm := mem_listed he
      simp [go_sem, f0] at hm
    clear hK K f0 d
    refine Ok.step rfl (fun _ h₁ => ?_)
    obtain ⟨d, rfl⟩ := h₁
    refine goes_oper_k rfl rfl (by decide) (fun K hK => ?_)
    have f0 : (w.at d).cell? ⟨rb, ro + j, none⟩ = some v := hcw
    go_simp
    refine hK _ _ ⟨⟨Nat.le_refl _, fun e he => ?_⟩, Ok.at ?_⟩
    · have hm := mem_listed he
      simp [go_sem, f0] at hm
      subst hm
      exact .inl ⟨_, _, _, rfl, hsz, hro⟩
    clear hK K f0 d
    refine Ok.step rfl (fun _ h₁ => ?_)
    obtain ⟨d, rfl⟩ := h₁
    refine goes_oper_k rfl rfl (by decide) (fun K hK => ?_)
    go_simp
    refine hK _ _ ⟨⟨Nat.le_refl _, fun e he => ?_⟩, Ok.at ?_⟩
    · have hm := mem_listed he
      simp [go_sem] at hm
    clear hK K d
    refine Ok.step rfl (fun _ h₁ => ?_)
    obtain ⟨d, rfl⟩ := h₁
    rw [stepG_region_end]
    simp only [goes_go]
    refine ⟨ok_none _, Ok.at ?_⟩
    clear d
    refine Ok.step rfl (fun _ h₁ => ?_)
    obtain ⟨d, rfl⟩ := h₁
    rw [stepG_region]
    simp only [goes_go, List.size_toArray, List.length_cons, List.length_nil, Nat.reduceAdd, Nat.zero_add, List.range, List.range.loop]
    refine ⟨ok_none _, Ok.at ?_⟩
    clear d
    refine Ok.step rfl (fun _ h₁ => ?_)
    obtain ⟨d, rfl⟩ := h₁
    refine goes_oper_k rfl rfl (by decide) (fun K hK => ?_)
    go_simp
    refine hK _ _ ⟨⟨Nat.le_refl _, fun e he => ?_⟩, Ok.at ?_⟩
    · have hm := mem_listed he
      simp [go_sem] at hm
    clear hK K d
    refine Ok.step rfl (fun _ h₁ => ?_)
    obtain ⟨d, rfl⟩ := h₁
    refine goes_oper_k rfl rfl (by decide) (fun K hK => ?_)
    go_simp
    refine hK _ _ ⟨⟨Nat.le_refl _, fun e he => ?_⟩, Ok.at ?_⟩
    · have hm := mem_listed he
      simp [go_sem] at hm
    clear hK K d
    refine Ok.send_op (c := c) (cap := (VS i).length) (v := v) (z := .tuple #[]) rfl rfl (by decide) (fun w => by simp [go_sem, execOp, scase, Act.eval]) (fun w => by simp [go_sem, execOp, Act.eval]) hw.hc (by simp; omega) ?_
    have hw' := hw.send hv
    obtain ⟨w1, hw1⟩ : ∃ w1, w1 = w.setChan c (VS i).length (((VS i).take j).toArray.push v) false (j + 1) 0 false := ⟨_, rfl⟩
    rw [← hw1] at hw' ⊢
    clear hw1
    walk_nrm
    refine Ok.step rfl (fun _ h₁ => ?_)
    obtain ⟨d, rfl⟩ := h₁
    rw [stepG_region_end]
    simp only [goes_go]
    refine ⟨ok_none _, Ok.at ?_⟩
    clear d
    refine Ok.step rfl (fun _ h₁ => ?_)
    obtain ⟨d, rfl⟩ := h₁
    rw [stepG_inBlock]
    simp only [goes_go]
    refine ⟨ok_none _, Ok.at ?_⟩
    clear d
    refine Ok.step rfl (fun _ h₁ => ?_)
    obtain ⟨d, rfl⟩ := h₁
    rw [stepG_region]
    simp only [goes_go, List.size_toArray, List.length_cons, List.length_nil, Nat.reduceAdd, Nat.zero_add, List.range, List.range.loop]
    refine ⟨ok_none _, Ok.at ?_⟩
    clear d
    refine Ok.step rfl (fun _ h₁ => ?_)
    obtain ⟨d, rfl⟩ := h₁
    refine goes_oper_k rfl rfl (by decide) (fun K hK => ?_)
    have f0 := q3
    go_simp
    refine hK _ _ ⟨⟨Nat.le_refl _, fun e he => ?_⟩, Ok.at ?_⟩
    · have hm := mem_listed he
      simp [go_sem, f0] at hm
    clear hK K f0 d
    refine Ok.step rfl (fun _ h₁ => ?_)
    obtain ⟨d, rfl⟩ := h₁
    refine goes_oper_k rfl rfl (by decide) (fun K hK => ?_)
    go_simp
    refine hK _ _ ⟨⟨Nat.le_refl _, fun e he => ?_⟩, Ok.at ?_⟩
    · have hm := mem_listed he
      simp [go_sem] at hm
    clear hK K d
    refine Ok.step rfl (fun _ h₁ => ?_)
    obtain ⟨d, rfl⟩ := h₁
    rw [stepG_region_end]
    simp only [goes_go]
    refine ⟨ok_none _, Ok.at ?_⟩
    clear d
    refine Ok.step rfl (fun _ h₁ => ?_)
    obtain ⟨d, rfl⟩ := h₁
    rw [stepG_inLoop]
    simp only [goes_go]
    refine ⟨ok_none _, Ok.at ?_⟩
    clear d
    have hfin := ih (j + 1) (fun k => (#[J 0, J 1, J 2, J 3, J 4, J 5, J 6, J 7, v, J 9, J 10, J 11, J 12, J 13, J 14, J 15, J 16, J 17, J 18, J 19, J 20, .bool true, .pointer (some ⟨rb, ro + j, none⟩), v, .chan (some c), v, .int .i64 ((j + 1 : Nat) : Int), J 27, J 28, J 29, J 30, J 31, J 32, J 33] : Array Value).getD k undef) _ (by omega) hw'
    unfold gWi at hfin
    simp only [loopWs, in2Ws, k2Ws, k1Ws, restWs, blkWs, bodyWs, Try.f17, Option.getD_some, cSnd, cFst, cIn, cOps] at hfin
    first
    | exact hfin
    | (simp only [Int.natCast_add, Int.cast_ofNat_Int] at hfin; exact hfin)
set_option maxRecDepth 100000 in
set_option maxHeartbeats 8000000 in
theorem ways_next {i j : Nat} {ra : Option Addr} {ln rc : Nat} {c₀ : Frame} (hi : i < 1000000) (hS : ∀ J Cr' out' w, WS Old w0 VS (i + 1) Cr' out' w → Ok Try.prog Post Old m (gWs a n cp (i + 1) out' J c₀ cs) w) (hold : ∀ b, Old b → b < w0.heap.size)
    (hw : WS2 Old w0 VS i Cr out c (VS i).length false w) : Ok Try.prog Post Old m (gWk a n cp i out ra ln rc c j J c₀ cs) w := by
  have q3 : IntKind.i64.wrap ((i : Int) + 1) = ((i + 1 : Nat) : Int) := by rw [IntKind.wrap_i64]; omega
  unfold gWk
  simp only [loopWs, in2Ws, k2Ws, k1Ws, restWs, blkWs, bodyWs, Try.f17, Option.getD_some, cSnd, cFst, cIn, cOps]
  refine Ok.step rfl (fun _ h₁ => ?_)
  obtain ⟨d, rfl⟩ := h₁
  rw [stepG_seq]
  simp only [goes_go]
  refine ⟨ok_none _, Ok.at ?_⟩
  clear d
  refine Ok.step rfl (fun _ h₁ => ?_)
  obtain ⟨d, rfl⟩ := h₁
  rw [stepG_region]
  simp only [goes_go, List.size_toArray, List.length_cons, List.length_nil, Nat.reduceAdd, Nat.zero_add, List.range, List.range.loop]
  refine ⟨ok_none _, Ok.at ?_⟩
  clear d
  refine Ok.step rfl (fun _ h₁ => ?_)
  obtain ⟨d, rfl⟩ := h₁
  refine goes_oper_k rfl rfl (by decide) (fun K hK => ?_)
  go_simp
  refine hK _ _ ⟨⟨Nat.le_refl _, fun e he => ?_⟩, Ok.at ?_⟩
  · have hm := mem_listed he
    simp [go_sem] at hm
  clear hK K d
  refine Ok.close_op (c := c) (cap := (VS i).length) (buf := ((VS i).take (VS i).length).toArray) (s := (VS i).length) (r := 0) (tm := false) rfl rfl (by decide) rfl rfl hw.hc (by kernel_rfl) ?_
  replace hw := hw.chan (VS i).length ((VS i).take (VS i).length).toArray true rfl
  obtain ⟨w1, hw1⟩ : ∃ w1, w1 = w.setChan c (VS i).length ((VS i).take (VS i).length).toArray true (VS i).length 0 false := ⟨_, rfl⟩
  rw [← hw1] at hw ⊢
  clear hw1
  walk_nrm
  refine Ok.step rfl (fun _ h₁ => ?_)
  obtain ⟨d, rfl⟩ := h₁
  rw [stepG_region_end]
  simp only [goes_go]
  refine ⟨ok_none _, Ok.at ?_⟩
  clear d
  refine Ok.step rfl (fun _ h₁ => ?_)
  obtain ⟨d, rfl⟩ := h₁
  rw [stepG_region]
  simp only [goes_go, List.size_toArray, List.length_cons, List.length_nil, Nat.reduceAdd, Nat.zero_add, List.range, List.range.loop]
  refine ⟨ok_none _, Ok.at ?_⟩
  clear d
  refine Ok.step rfl (fun _ h₁ => ?_)
  obtain ⟨d, rfl⟩ := h₁
  refine goes_oper_k rfl rfl (by decide) (fun K hK => ?_)
  go_simp
  refine hK _ _ ⟨⟨Nat.le_refl _, fun e he => ?_⟩, Ok.at ?_⟩
  · have hm := mem_listed he
    simp [go_sem] at hm
  clear hK K d
  refine Ok.step rfl (fun _ h₁ => ?_)
  obtain ⟨d, rfl⟩ := h₁
  refine goes_oper_k rfl rfl (by decide) (fun K hK => ?_)
  go_simp
  refine hK _ _ ⟨⟨Nat.le_refl _, fun e he => ?_⟩, Ok.at ?_⟩
  · have hm := mem_listed he
    simp [go_sem] at hm
  clear hK K d
  refine Ok.opv rfl rfl (by decide) (fun w2 h₁ => ?_)
  refine ⟨.slice (some ⟨w2.heap.size, 0, none⟩) 1 1, w2.alloc (.cells #[.chan (some c)] 58), by simp [go_sem, execOp], by simp, fun e he => ?_, ?_⟩
  · simp [go_sem, execOp] at he
  obtain ⟨d, rfl⟩ := h₁
  rw [show (w1.at d).alloc (.cells #[.chan (some c)] 58) = (w1.alloc (.cells #[.chan (some c)] 58)).at d from rfl]
  refine Ok.at ?_
  rw [show (w1.at d).heap.size = w1.heap.size from rfl]
  clear d
  have ht := heap_alloc_new w1 (.cells #[.chan (some c)] 58)
  have htb := hw.s.e.size
  replace hw := hw.alloc (.cells #[.chan (some c)] 58)
  obtain ⟨tb, htbd⟩ : ∃ tb, tb = w1.heap.size := ⟨_, rfl⟩
  rw [← htbd] at ht htb ⊢
  obtain ⟨w2, hw2⟩ : ∃ w2, w2 = w1.alloc (.cells #[.chan (some c)] 58) := ⟨_, rfl⟩
  rw [← hw2] at hw ht ⊢
  clear hw2 htbd
  walk_nrm
  refine Ok.opv rfl rfl (by decide) (fun w3 h₁ => ?_)
  obtain ⟨d, rfl⟩ := h₁
  obtain ⟨v', w', r1, r2, r3, r4⟩ := chan_append (w := w2.at d) (ty := 41) (tc := 1) (c := c) hw.s.own hw.s.e.size hi ht
  refine ⟨v', w', run_append_op (.tmp 28) (.tmp 30) 41 rfl rfl rfl r1, r3.size, fun e he => ?_, ?_⟩
  · rw [events_append_op (.tmp 28) (.tmp 30) 41 rfl rfl rfl] at he
    rcases r4 e he with ⟨ad, wr, sy, rfl, hab | hab⟩ | rfl
    · exact .inl ⟨_, _, _, rfl, by rw [hab]; exact Nat.lt_of_lt_of_le (lt_of_heap ht) r3.size, by rw [hab]; exact fun x => by have := hold _ x; omega⟩
    · have hl := World.ownsRow.lt hw.s.own _ hab.symm
      exact .inl ⟨_, _, _, rfl, Nat.lt_of_lt_of_le hl.2 r3.size, fun x => by have := hold _ x; omega⟩
    · exact .inr (.inr rfl)
  have hwS := hw.put r2 ⟨r3.os, r3.tape, r3.output, r3.size, r3.block⟩
  clear hw r1 r2 r3 r4 ht
  walk_nrm
  refine Ok.step rfl (fun _ h₁ => ?_)
  obtain ⟨d, rfl⟩ := h₁
  refine goes_oper_k rfl rfl (by decide) (fun K hK => ?_)
  go_simp
  refine hK _ _ ⟨⟨Nat.le_refl _, fun e he => ?_⟩, Ok.at ?_⟩
  · have hm := mem_listed he
    simp [go_sem] at hm
  clear hK K d
  refine Ok.step rfl (fun _ h₁ => ?_)
  obtain ⟨d, rfl⟩ := h₁
  rw [stepG_region_end]
  simp only [goes_go]
  refine ⟨ok_none _, Ok.at ?_⟩
  clear d
  refine Ok.step rfl (fun _ h₁ => ?_)
  obtain ⟨d, rfl⟩ := h₁
  rw [stepG_inBlock]
  simp only [goes_go]
  refine ⟨ok_none _, Ok.at ?_⟩
  clear d
  refine Ok.step rfl (fun _ h₁ => ?_)
  obtain ⟨d, rfl⟩ := h₁
  rw [stepG_region]
  simp only [goes_go, List.size_toArray, List.length_cons, List.length_nil, Nat.reduceAdd, Nat.zero_add, List.range, List.range.loop]
  refine ⟨ok_none _, Ok.at ?_⟩
  clear d
  refine Ok.step rfl (fun _ h₁ => ?_)
  obtain ⟨d, rfl⟩ := h₁
  refine goes_oper_k rfl rfl (by decide) (fun K hK => ?_)
  have f0 := q3
  go_simp
  refine hK _ _ ⟨⟨Nat.le_refl _, fun e he => ?_⟩, Ok.at ?_⟩
  · have hm := mem_listed he
    simp [go_sem, f0] at hm
  clear hK K f0 d
  refine Ok.step rfl (fun _ h₁ => ?_)
  obtain ⟨d, rfl⟩ := h₁
  refine goes_oper_k rfl rfl (by decide) (fun K hK => ?_)
  go_simp
  refine hK _ _ ⟨⟨Nat.le_refl _, fun e he => ?_⟩, Ok.at ?_⟩
  · have hm := mem_listed he
    simp [go_sem] at hm
  clear hK K d
  refine Ok.step rfl (fun _ h₁ => ?_)
  obtain ⟨d, rfl⟩ := h₁
  rw [stepG_region_end]
  simp only [goes_go]
  refine ⟨ok_none _, Ok.at ?_⟩
  clear d
  refine Ok.step rfl (fun _ h₁ => ?_)
  obtain ⟨d, rfl⟩ := h₁
  rw [stepG_inLoop]
  simp only [goes_go]
  refine ⟨ok_none _, Ok.at ?_⟩
  clear d
  have hfin := hS (fun k => (#[J 0, J 1, J 2, J 3, J 4, .slice ra ln rc, .chan (some c), J 7, J 8, J 9, J 10, J 11, J 12, J 13, J 14, J 15, J 16, J 17, .slice ra ln rc, .int .i64 (ln : Int), .int .i64 (j : Int), J 21, J 22, J 23, J 24, J 25, J 26, .chan (some c), out, .chan (some c), .slice (some ⟨tb, 0, none⟩) 1 1, v', .int .i64 ((i + 1 : Nat) : Int), J 33] : Array Value).getD k undef) _ _ _ hwS
  unfold gWs at hfin
  simp only [loopWs, in2Ws, k2Ws, k1Ws, restWs, blkWs, bodyWs, Try.f17, Option.getD_some, cSnd, cFst, cIn, cOps] at hfin
  first
  | exact hfin
  | (simp only [Int.natCast_add, Int.cast_ofNat_Int] at hfin; exact hfin)
set_option maxRecDepth 100000 in
set_option maxHeartbeats 8000000 in
theorem ways_all {RS : List Value} {c₀ : Frame} (hn : RS.length = n) (hbig : n < 1000000) (hsl : SlOf Old w0 (.slice a n cp) RS) (hrow : ∀ (k : Nat) v, RS[k]? = some v → SlOf Old w0 v (VS k) ∧ (VS k).length < 1000000) (hold : ∀ b, Old b → b < w0.heap.size)
    (hS : ∀ J Cr out w, WS Old w0 VS n Cr out w → Ok Try.prog Post Old m (gWs a n cp n out J c₀ cs) w) :
    ∀ (r i : Nat) (J : Nat → Value) (Cr : Nat → Nat) (out : Value) (w : World), i + r = n → WS Old w0 VS i Cr out w → Ok Try.prog Post Old m (gWs a n cp i out J c₀ cs) w := by
  intro r
  induction r with
  | zero =>
    intro i J Cr out w hi hw
    obtain rfl : i = n := by omega
    exact hS J Cr out w hw
  | succ r ih =>
    intro i J Cr out w hi hw
    have hlt : i < RS.length := by omega
    have hv := List.getElem?_eq_getElem hlt
    obtain ⟨hsr, hlr⟩ := hrow i _ hv
    obtain ⟨ra, rc, hrv, _⟩ := id hsr
    obtain ⟨ln, hln⟩ : ∃ ln, ln = (VS i).length := ⟨_, rfl⟩
    rw [hrv] at hv hsr
    rw [← hln] at hv hsr hlr
    have hmk : ∀ {w}, WS Old w0 VS i Cr out w → WS2 Old w0 VS i Cr out w.heap.size 0 false (w.alloc (.chan ln #[] false 0 0 false)) := by rw [hln]; exact fun h => h.make
    have hl1 : ln ≤ (VS i).length := by omega
    have hl2 : (VS i).length ≤ ln := by omega
    clear hrv hln
    obtain ⟨b, off, rfl, hb, ho, hc⟩ := hsl.cell hv
    have q1 : decide ((i : Int) < (n : Int)) = true := decide_eq_true (by omega)
    have q2 : (0 : Int) ≤ (i : Int) ∧ (i : Int) < (n : Int) := ⟨by omega, by omega⟩
    have hcw : w.cell? ⟨b, off + i, none⟩ = some (.slice ra ln rc) := (cell_same (a := ⟨b, off + i, none⟩) (hw.e.low b hb)).trans hc
    have hsz := Nat.lt_of_lt_of_le hb hw.e.size
    unfold gWs
    simp only [loopWs, in2Ws, k2Ws, k1Ws, restWs, blkWs, bodyWs, Try.f17, Option.getD_some, cSnd, cFst, cIn, cOps]
    refine Ok.step rfl (fun _ h₁ => ?_)
    obtain ⟨d, rfl⟩ := h₁
    rw [stepG_seq]
    simp only [goes_go]
    refine ⟨ok_none _, Ok.at ?_⟩
    clear d
    refine Ok.step rfl (fun _ h₁ => ?_)
    obtain ⟨d, rfl⟩ := h₁
    rw [stepG_region]
    simp only [goes_go, List.size_toArray, List.length_cons, List.length_nil, Nat.reduceAdd, Nat.zero_add, List.range, List.range.loop]
    refine ⟨ok_none _, Ok.at ?_⟩
    clear d
    refine Ok.step rfl (fun _ h₁ => ?_)
    obtain ⟨d, rfl⟩ := h₁
    refine goes_oper_k rfl rfl (by decide) (fun K hK => ?_)
    go_simp
    refine hK _ _ ⟨⟨Nat.le_refl _, fun e he => ?_⟩, Ok.at ?_⟩
    · have hm := mem_listed he
      simp [go_sem] at hm
    clear hK K d
    refine Ok.step rfl (fun _ h₁ => ?_)
    obtain ⟨d, rfl⟩ := h₁
    rw [stepG_region_end]
    simp only [goes_go]
    refine ⟨ok_none _, Ok.at ?_⟩
    clear d
    refine Ok.step rfl (fun _ h₁ => ?_)
    obtain ⟨d, rfl⟩ := h₁
    rw [stepG_seq]
    simp only [goes_go]
    refine ⟨ok_none _, Ok.at ?_⟩
    clear d
    refine Ok.step rfl (fun _ h₁ => ?_)
    obtain ⟨d, rfl⟩ := h₁
    rw [stepG_cond (t := true) rfl]
    simp only [goes_go, if_true, if_false, Bool.false_eq_true, ↓reduceIte]
    refine ⟨ok_none _, Ok.at ?_⟩
    clear d
    refine Ok.step rfl (fun _ h₁ => ?_)
    obtain ⟨d, rfl⟩ := h₁
    rw [stepG_skip]
    simp only [goes_go]
    refine ⟨ok_none _, Ok.at ?_⟩
    clear d
    refine Ok.step rfl (fun _ h₁ => ?_)
    obtain ⟨d, rfl⟩ := h₁
    rw [stepG_seq]
    simp only [goes_go]
    refine ⟨ok_none _, Ok.at ?_⟩
    clear d
    refine Ok.step rfl (fun _ h₁ => ?_)
    obtain ⟨d, rfl⟩ := h₁
    rw [stepG_block]
    simp only [goes_go]
    refine ⟨ok_none _, Ok.at ?_⟩
    clear d
    refine Ok.step rfl (fun _ h₁ => ?_)
    obtain ⟨d, rfl⟩ := h₁
    rw [stepG_seq]
    simp only [goes_go]
    refine ⟨ok_none _, Ok.at ?_⟩
    clear d
    refine Ok.step rfl (fun _ h₁ => ?_)
    obtain ⟨d, rfl⟩ := h₁
    rw [stepG_region]
    simp only [goes_go, List.size_toArray, List.length_cons, List.length_nil, Nat.reduceAdd, Nat.zero_add, List.range, List.range.loop]
    refine ⟨ok_none _, Ok.at ?_⟩
    clear d
    refine Ok.step rfl (fun _ h₁ => ?_)
    obtain ⟨d, rfl⟩ := h₁
    refine goes_oper_k rfl rfl (by decide) (fun K hK => ?_)
    have f0 := q2
    go_simp
    refine hK _ _ ⟨⟨Nat.le_refl _, fun e he => ?_⟩, Ok.at ?_⟩
    · have hm := mem_listed he
      simp [go_sem, f0] at hm
    clear hK K f0 d
    refine Ok.step rfl (fun _ h₁ => ?_)
    obtain ⟨d, rfl⟩ := h₁
    refine goes_oper_k rfl rfl (by decide) (fun K hK => ?_)
    have f0 : (w.at d).cell? ⟨b, off + i, none⟩ = some (.slice ra ln rc) := hcw
    go_simp
    refine hK _ _ ⟨⟨Nat.le_refl _, fun e he => ?_⟩, Ok.at ?_⟩
    · have hm := mem_listed he
      simp [go_sem, f0] at hm
      subst hm
      exact .inl ⟨_, _, _, rfl, hsz, ho⟩
    clear hK K f0 d
    refine Ok.step rfl (fun _ h₁ => ?_)
    obtain ⟨d, rfl⟩ := h₁
    refine goes_oper_k rfl rfl (by decide) (fun K hK => ?_)
    go_simp
    refine hK _ _ ⟨⟨Nat.le_refl _, fun e he => ?_⟩, Ok.at ?_⟩
    · have hm := mem_listed he
      simp [go_sem] at hm
    clear hK K d
    refine Ok.step rfl (fun _ h₁ => ?_)
    obtain ⟨d, rfl⟩ := h₁
    rw [stepG_region_end]
    simp only [goes_go]
    refine ⟨ok_none _, Ok.at ?_⟩
    clear d
    refine Ok.step rfl (fun _ h₁ => ?_)
    obtain ⟨d, rfl⟩ := h₁
    rw [stepG_seq]
    simp only [goes_go]
    refine ⟨ok_none _, Ok.at ?_⟩
    clear d
    refine Ok.step rfl (fun _ h₁ => ?_)
    obtain ⟨d, rfl⟩ := h₁
    rw [stepG_region]
    simp only [goes_go, List.size_toArray, List.length_cons, List.length_nil, Nat.reduceAdd, Nat.zero_add, List.range, List.range.loop]
    refine ⟨ok_none _, Ok.at ?_⟩
    clear d
    refine Ok.step rfl (fun _ h₁ => ?_)
    obtain ⟨d, rfl⟩ := h₁
    refine goes_oper_k rfl rfl (by decide) (fun K hK => ?_)
    go_simp
    refine hK _ _ ⟨⟨Nat.le_refl _, fun e he => ?_⟩, Ok.at ?_⟩
    · have hm := mem_listed he
      simp [go_sem] at hm
    clear hK K d
    refine Ok.step rfl (fun _ h₁ => ?_)
    obtain ⟨d, rfl⟩ := h₁
    refine goes_oper_k rfl rfl (by decide) (fun K hK => ?_)
    go_simp
    refine hK _ _ ⟨⟨Nat.le_refl _, fun e he => ?_⟩, Ok.at ?_⟩
    · have hm := mem_listed he
      simp [go_sem] at hm
    clear hK K d
    refine Ok.opv rfl rfl (by decide) (fun w1 h₁ => ?_)
    obtain ⟨hm1, hm2⟩ := make_rows w1 ln hlr
    refine ⟨.chan (some w1.heap.size), w1.alloc (.chan ln #[] false 0 0 false), by simp [go_sem, execOp, hm1], by simp, fun e he => ?_, ?_⟩
    · simp [go_sem, execOp, hm2] at he
    clear hm1 hm2
    obtain ⟨d, rfl⟩ := h₁
    rw [show (w.at d).alloc (.chan ln #[] false 0 0 false) = (w.alloc (.chan ln #[] false 0 0 false)).at d from rfl]
    refine Ok.at ?_
    rw [show (w.at d).heap.size = w.heap.size from rfl]
    clear d
    have hw2 := hmk hw
    obtain ⟨w2, hw2d⟩ : ∃ w2, w2 = w.alloc (.chan ln #[] false 0 0 false) := ⟨_, rfl⟩
    rw [← hw2d] at hw2 ⊢
    clear hw2d
    walk_nrm
    refine Ok.step rfl (fun _ h₁ => ?_)
    obtain ⟨d, rfl⟩ := h₁
    refine goes_oper_k rfl rfl (by decide) (fun K hK => ?_)
    go_simp
    refine hK _ _ ⟨⟨Nat.le_refl _, fun e he => ?_⟩, Ok.at ?_⟩
    · have hm := mem_listed he
      simp [go_sem] at hm
    clear hK K d
    refine Ok.step rfl (fun _ h₁ => ?_)
    obtain ⟨d, rfl⟩ := h₁
    rw [stepG_region_end]
    simp only [goes_go]
    refine ⟨ok_none _, Ok.at ?_⟩
    clear d
    refine Ok.step rfl (fun _ h₁ => ?_)
    obtain ⟨d, rfl⟩ := h₁
    rw [stepG_seq]
    simp only [goes_go]
    refine ⟨ok_none _, Ok.at ?_⟩
    clear d
    refine Ok.step rfl (fun _ h₁ => ?_)
    obtain ⟨d, rfl⟩ := h₁
    rw [stepG_seq]
    simp only [goes_go]
    refine ⟨ok_none _, Ok.at ?_⟩
    clear d
    refine Ok.step rfl (fun _ h₁ => ?_)
    obtain ⟨d, rfl⟩ := h₁
    rw [stepG_region]
    simp only [goes_go, List.size_toArray, List.length_cons, List.length_nil, Nat.reduceAdd, Nat.zero_add, List.range, List.range.loop]
    refine ⟨ok_none _, Ok.at ?_⟩
    clear d
    refine Ok.step rfl (fun _ h₁ => ?_)
    obtain ⟨d, rfl⟩ := h₁
    refine goes_oper_k rfl rfl (by decide) (fun K hK => ?_)
    go_simp
    refine hK _ _ ⟨⟨Nat.le_refl _, fun e he => ?_⟩, Ok.at ?_⟩
    · have hm := mem_listed he
      simp [go_sem] at hm
    clear hK K d
    refine Ok.step rfl (fun _ h₁ => ?_)
    obtain ⟨d, rfl⟩ := h₁
    refine goes_oper_k rfl rfl (by decide) (fun K hK => ?_)
    go_simp
    refine hK _ _ ⟨⟨Nat.le_refl _, fun e he => ?_⟩, Ok.at ?_⟩
    · have hm := mem_listed he
      simp [go_sem] at hm
    clear hK K d
    refine Ok.step rfl (fun _ h₁ => ?_)
    obtain ⟨d, rfl⟩ := h₁
    refine goes_oper_k rfl rfl (by decide) (fun K hK => ?_)
    go_simp
    refine hK _ _ ⟨⟨Nat.le_refl _, fun e he => ?_⟩, Ok.at ?_⟩
    · have hm := mem_listed he
      simp [go_sem] at hm
    clear hK K d
    refine Ok.step rfl (fun _ h₁ => ?_)
    obtain ⟨d, rfl⟩ := h₁
    rw [stepG_region_end]
    simp only [goes_go]
    refine ⟨ok_none _, Ok.at ?_⟩
    clear d
    refine Ok.step rfl (fun _ h₁ => ?_)
    obtain ⟨d, rfl⟩ := h₁
    rw [stepG_block]
    simp only [goes_go]
    refine ⟨ok_none _, Ok.at ?_⟩
    clear d
    refine Ok.step rfl (fun _ h₁ => ?_)
    obtain ⟨d, rfl⟩ := h₁
    rw [stepG_loop]
    simp only [goes_go]
    refine ⟨ok_none _, Ok.at ?_⟩
    clear d
    have hfin := ways_in (a := some ⟨b, off, none⟩) (n := n) (cp := cp) (c₀ := c₀) (cs := cs) (Post := Post) (m := m) hl1 hl2 hlr hsr (fun J w hw => ways_next (by omega) (fun J Cr' out' w hw => ih (i + 1) J Cr' out' w (by omega) hw) hold hw) ln 0 (fun k => (#[J 0, J 1, J 2, J 3, J 4, .slice ra ln rc, J 6, J 7, J 8, J 9, J 10, J 11, .bool true, .pointer (some ⟨b, off + i, none⟩), .slice ra ln rc, .slice ra ln rc, .int .i64 (ln : Int), .chan (some w.heap.size), J 18, J 19, J 20, J 21, J 22, J 23, J 24, J 25, J 26, J 27, J 28, J 29, J 30, J 31, J 32, J 33] : Array Value).getD k undef) w2 (by omega) hw2
    unfold gWi at hfin
    simp only [loopWs, in2Ws, k2Ws, k1Ws, restWs, blkWs, bodyWs, Try.f17, Option.getD_some, cSnd, cFst, cIn, cOps] at hfin
    first
    | exact hfin
    | (simp only [Int.natCast_add, Int.cast_ofNat_Int] at hfin; exact hfin)
set_option maxRecDepth 100000 in
set_option maxHeartbeats 8000000 in
/-- WAYS, WHOLE. -/
theorem ways_ok {RS : List Value} (hn : RS.length = n) (hbig : n < 1000000) (hsl : SlOf Old w (.slice a n cp) RS) (hrow : ∀ (k : Nat) v, RS[k]? = some v → SlOf Old w v (VS k) ∧ (VS k).length < 1000000) (hold : ∀ b, Old b → b < w.heap.size)
    (hS : ∀ Cr out w', WS Old w VS n Cr out w' → Ok Try.prog Post Old m (G (b₀.at (a₀.put ((ops₀[i₀]?).bind (·.dst)) out) (.inRegion ops₀ rest₀ :: k₀)) cs) w') :
    Ok Try.prog Post Old m (G ((base 17).at ⟨#[.slice a n cp, undef, undef, undef, undef, undef, undef, undef, undef, undef, undef, undef, undef, undef, undef, undef, undef, undef, undef, undef, undef, undef, undef, undef, undef, undef, undef, undef, undef, undef, undef, undef, undef, undef], []⟩ [.code bodyWs]) ((b₀.at a₀ (.inRegion ops₀ (i₀ :: rest₀) :: k₀)) :: cs)) w := by
  have hend : ∀ J Cr out w', WS Old w VS n Cr out w' → Ok Try.prog Post Old m (gWs a n cp n out J (b₀.at a₀ (.inRegion ops₀ (i₀ :: rest₀) :: k₀)) cs) w' := by
    intro J Cr out w' hw
    have q1 : decide ((n : Int) < (n : Int)) = false := decide_eq_false (by omega)
    unfold gWs
    simp only [loopWs, in2Ws, k2Ws, k1Ws, restWs, blkWs, bodyWs, Try.f17, Option.getD_some, cSnd, cFst, cIn, cOps]
    refine Ok.step rfl (fun _ h₁ => ?_)
    obtain ⟨d, rfl⟩ := h₁
    rw [stepG_seq]
    simp only [goes_go]
    refine ⟨ok_none _, Ok.at ?_⟩
    clear d
    refine Ok.step rfl (fun _ h₁ => ?_)
    obtain ⟨d, rfl⟩ := h₁
    rw [stepG_region]
    simp only [goes_go, List.size_toArray, List.length_cons, List.length_nil, Nat.reduceAdd, Nat.zero_add, List.range, List.range.loop]
    refine ⟨ok_none _, Ok.at ?_⟩
    clear d
    refine Ok.step rfl (fun _ h₁ => ?_)
    obtain ⟨d, rfl⟩ := h₁
    refine goes_oper_k rfl rfl (by decide) (fun K hK => ?_)
    go_simp
    refine hK _ _ ⟨⟨Nat.le_refl _, fun e he => ?_⟩, Ok.at ?_⟩
    · have hm := mem_listed he
      simp [go_sem] at hm
    clear hK K d
    refine Ok.step rfl (fun _ h₁ => ?_)
    obtain ⟨d, rfl⟩ := h₁
    rw [stepG_region_end]
    simp only [goes_go]
    refine ⟨ok_none _, Ok.at ?_⟩
    clear d
    refine Ok.step rfl (fun _ h₁ => ?_)
    obtain ⟨d, rfl⟩ := h₁
    rw [stepG_seq]
    simp only [goes_go]
    refine ⟨ok_none _, Ok.at ?_⟩
    clear d
    refine Ok.step rfl (fun _ h₁ => ?_)
    obtain ⟨d, rfl⟩ := h₁
    rw [stepG_cond (t := false) rfl]
    simp only [goes_go, if_true, if_false, Bool.false_eq_true, ↓reduceIte]
    refine ⟨ok_none _, Ok.at ?_⟩
    clear d
    refine Ok.step rfl (fun _ h₁ => ?_)
    obtain ⟨d, rfl⟩ := h₁
    refine goes_exit rfl ?_
    refine ⟨ok_none _, Ok.at ?_⟩
    clear d
    refine Ok.step rfl (fun _ h₁ => ?_)
    obtain ⟨d, rfl⟩ := h₁
    rw [stepG_seq]
    simp only [goes_go]
    refine ⟨ok_none _, Ok.at ?_⟩
    clear d
    refine Ok.step rfl (fun _ h₁ => ?_)
    obtain ⟨d, rfl⟩ := h₁
    rw [stepG_region]
    simp only [goes_go, List.size_toArray, List.length_cons, List.length_nil, Nat.reduceAdd, Nat.zero_add, List.range, List.range.loop]
    refine ⟨ok_none _, Ok.at ?_⟩
    clear d
    refine Ok.step rfl (fun _ h₁ => ?_)
    obtain ⟨d, rfl⟩ := h₁
    refine goes_oper_k rfl rfl (by decide) (fun K hK => ?_)
    go_simp
    refine hK _ _ ⟨⟨Nat.le_refl _, fun e he => ?_⟩, Ok.at ?_⟩
    · have hm := mem_listed he
      simp [go_sem] at hm
    clear hK K d
    refine Ok.step rfl (fun _ h₁ => ?_)
    obtain ⟨d, rfl⟩ := h₁
    refine goes_oper_k rfl rfl (by decide) (fun K hK => ?_)
    go_simp
    refine hK _ _ ⟨⟨Nat.le_refl _, fun e he => ?_⟩, Ok.at ?_⟩
    · have hm := mem_listed he
      simp [go_sem] at hm
    clear hK K d
    refine Ok.step rfl (fun _ h₁ => ?_)
    obtain ⟨d, rfl⟩ := h₁
    rw [stepG_region_end]
    simp only [goes_go]
    refine ⟨ok_none _, Ok.at ?_⟩
    clear d
    refine Ok.step rfl (fun _ h₁ => ?_)
    obtain ⟨d, rfl⟩ := h₁
    rw [stepG_ret']
    simp only [goes_go]
    refine ⟨ok_none _, Ok.at ?_⟩
    clear d
    refine Ok.step rfl (fun _ h₁ => ?_)
    obtain ⟨d, rfl⟩ := h₁
    refine goes_leave1 rfl rfl Try.func17 rfl ⟨ok_none _, Ok.at ?_⟩
    clear d
    walk_nrm
    exact hS Cr out w' hw
  have h0 : WS Old w VS 0 (fun _ => 0) (.slice none 0 0) w := ⟨.refl _ _, World.ownsRow_nil _ _ _ _, fun k hk => by omega, fun k k' hk => by omega⟩
  simp only [loopWs, in2Ws, k2Ws, k1Ws, restWs, blkWs, bodyWs, Try.f17, Option.getD_some, cSnd, cFst, cIn, cOps]
  refine Ok.step rfl (fun _ h₁ => ?_)
  obtain ⟨d, rfl⟩ := h₁
  rw [stepG_seq]
  simp only [goes_go]
  refine ⟨ok_none _, Ok.at ?_⟩
  clear d
  refine Ok.step rfl (fun _ h₁ => ?_)
  obtain ⟨d, rfl⟩ := h₁
  rw [stepG_region]
  simp only [goes_go, List.size_toArray, List.length_cons, List.length_nil, Nat.reduceAdd, Nat.zero_add, List.range, List.range.loop]
  refine ⟨ok_none _, Ok.at ?_⟩
  clear d
  refine Ok.step rfl (fun _ h₁ => ?_)
  obtain ⟨d, rfl⟩ := h₁
  refine goes_oper_k rfl rfl (by decide) (fun K hK => ?_)
  go_simp
  refine hK _ _ ⟨⟨Nat.le_refl _, fun e he => ?_⟩, Ok.at ?_⟩
  · have hm := mem_listed he
    simp [go_sem] at hm
  clear hK K d
  refine Ok.step rfl (fun _ h₁ => ?_)
  obtain ⟨d, rfl⟩ := h₁
  rw [stepG_region_end]
  simp only [goes_go]
  refine ⟨ok_none _, Ok.at ?_⟩
  clear d
  refine Ok.step rfl (fun _ h₁ => ?_)
  obtain ⟨d, rfl⟩ := h₁
  rw [stepG_seq]
  simp only [goes_go]
  refine ⟨ok_none _, Ok.at ?_⟩
  clear d
  refine Ok.step rfl (fun _ h₁ => ?_)
  obtain ⟨d, rfl⟩ := h₁
  rw [stepG_region]
  simp only [goes_go, List.size_toArray, List.length_cons, List.length_nil, Nat.reduceAdd, Nat.zero_add, List.range, List.range.loop]
  refine ⟨ok_none _, Ok.at ?_⟩
  clear d
  refine Ok.step rfl (fun _ h₁ => ?_)
  obtain ⟨d, rfl⟩ := h₁
  refine goes_oper_k rfl rfl (by decide) (fun K hK => ?_)
  go_simp
  refine hK _ _ ⟨⟨Nat.le_refl _, fun e he => ?_⟩, Ok.at ?_⟩
  · have hm := mem_listed he
    simp [go_sem] at hm
  clear hK K d
  refine Ok.step rfl (fun _ h₁ => ?_)
  obtain ⟨d, rfl⟩ := h₁
  rw [stepG_region_end]
  simp only [goes_go]
  refine ⟨ok_none _, Ok.at ?_⟩
  clear d
  refine Ok.step rfl (fun _ h₁ => ?_)
  obtain ⟨d, rfl⟩ := h₁
  rw [stepG_seq]
  simp only [goes_go]
  refine ⟨ok_none _, Ok.at ?_⟩
  clear d
  refine Ok.step rfl (fun _ h₁ => ?_)
  obtain ⟨d, rfl⟩ := h₁
  rw [stepG_seq]
  simp only [goes_go]
  refine ⟨ok_none _, Ok.at ?_⟩
  clear d
  refine Ok.step rfl (fun _ h₁ => ?_)
  obtain ⟨d, rfl⟩ := h₁
  rw [stepG_region]
  simp only [goes_go, List.size_toArray, List.length_cons, List.length_nil, Nat.reduceAdd, Nat.zero_add, List.range, List.range.loop]
  refine ⟨ok_none _, Ok.at ?_⟩
  clear d
  refine Ok.step rfl (fun _ h₁ => ?_)
  obtain ⟨d, rfl⟩ := h₁
  refine goes_oper_k rfl rfl (by decide) (fun K hK => ?_)
  go_simp
  refine hK _ _ ⟨⟨Nat.le_refl _, fun e he => ?_⟩, Ok.at ?_⟩
  · have hm := mem_listed he
    simp [go_sem] at hm
  clear hK K d
  refine Ok.step rfl (fun _ h₁ => ?_)
  obtain ⟨d, rfl⟩ := h₁
  refine goes_oper_k rfl rfl (by decide) (fun K hK => ?_)
  go_simp
  refine hK _ _ ⟨⟨Nat.le_refl _, fun e he => ?_⟩, Ok.at ?_⟩
  · have hm := mem_listed he
    simp [go_sem] at hm
  clear hK K d
  refine Ok.step rfl (fun _ h₁ => ?_)
  obtain ⟨d, rfl⟩ := h₁
  refine goes_oper_k rfl rfl (by decide) (fun K hK => ?_)
  go_simp
  refine hK _ _ ⟨⟨Nat.le_refl _, fun e he => ?_⟩, Ok.at ?_⟩
  · have hm := mem_listed he
    simp [go_sem] at hm
  clear hK K d
  refine Ok.step rfl (fun _ h₁ => ?_)
  obtain ⟨d, rfl⟩ := h₁
  rw [stepG_region_end]
  simp only [goes_go]
  refine ⟨ok_none _, Ok.at ?_⟩
  clear d
  refine Ok.step rfl (fun _ h₁ => ?_)
  obtain ⟨d, rfl⟩ := h₁
  rw [stepG_block]
  simp only [goes_go]
  refine ⟨ok_none _, Ok.at ?_⟩
  clear d
  refine Ok.step rfl (fun _ h₁ => ?_)
  obtain ⟨d, rfl⟩ := h₁
  rw [stepG_loop]
  simp only [goes_go]
  refine ⟨ok_none _, Ok.at ?_⟩
  clear d
  have hfin := ways_all (c₀ := (b₀.at a₀ (.inRegion ops₀ (i₀ :: rest₀) :: k₀))) (cs := cs) hn hbig hsl hrow hold hend n 0 (fun _ => undef) _ _ w (by omega) h0
  unfold gWs at hfin
  simp only [loopWs, in2Ws, k2Ws, k1Ws, restWs, blkWs, bodyWs, Try.f17, Option.getD_some, cSnd, cFst, cIn, cOps] at hfin
  first
  | exact hfin
  | (simp only [Int.natCast_add, Int.cast_ofNat_Int] at hfin; exact hfin)
end Go.Proofs.Ytiobhgemjbjipaa
