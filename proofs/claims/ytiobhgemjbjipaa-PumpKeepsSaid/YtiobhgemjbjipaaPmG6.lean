/- Contracts and plain laws that this claim uses, each with its conditions as premises. -/
import Derived.Test.YtiobhgemjbjipaaPmPumpJoinC
/- The first's fork: one round, the end. Conditions stand as premises. -/
set_option linter.unusedSimpArgs false
set_option linter.unusedVariables false
namespace Go.Proofs.Ytiobhgemjbjipaa
open Go.Conc Go.RowKit Go.Conc.Lib Go.ConcR.Gen Go.ConcN.Gen
open Go.ConcR (KK wgBlock WgAt stA smA rd wr mk DC0)
open Go.ConcN (WgLive)
variable {E : PE} {w0 w w₁ : World} {N p q sb b5 b6 b7 bi oi cap i : Nat} {vp vq : Value} {Exit : Bool → List (Nat × Value × Value) → Goroutine → World → Prop} {nn : Nat} {b0 : Bool} {Jn : Nat → Value} {c : Frame} {cs : List Frame}
theorem events_equalIn_chan {P : Program} (w : World) (d : Nat) (t e : TypeId) (dir : ChanDir) (a b : Option Nat) (es : Array Event) (h : P.underlying t = some (.chan dir e)) : (Op.equalIn (d + 1) t (.chan a) (.chan b)).events P w es = es := by
  simp [Op.equalIn, run_underlying h]
theorem events_eql_chan {P : Program} {w : World} {t e : TypeId} {d : ChanDir} {a b : Option Nat} {es : Array Event} (h : P.underlying t = some (.chan d e)) : (binOp .eql t (.chan a) (.chan b)).events P w es = es := by
  simp only [binOp]
  simp [Op.equal, Op.maxDepth, events_equalIn_chan w 9999 t e d a b es h]
/-- The messages can be read. -/
def HeldJ (E : PE) (MB : Value → List Int → Prop) (w0 : World) : Prop := E.N0 = w0.heap.size ∧ ∀ k, k < E.n → ∀ v ∈ E.rows k, ∃ bs, MB v bs ∧ bs.length ≤ 140737488355328 ∧ Msg (fun _ => Kept1 E) v bs w0
theorem held_of {MB : Value → List Int → Prop} (H : HeldJ E MB w0) (hi : i < E.n) (hF : KJ E w0 N w) {M : Nat → Prop} (hM : ∀ b, M b ↔ Rd0 E w.heap.size w b) : Held M MB (E.rows i) w := by
  intro v hv
  obtain ⟨bs, h1, h2, h3⟩ := H.2 i hi v hv
  refine ⟨bs, h1, h2, h3.keep (by rw [← H.1]; exact Nat.le_trans hF.n0 hF.n1) fun b hb hl => ⟨hF.low b hb.1 hb.2.1, (hM b).2 ⟨Nat.lt_of_lt_of_le hb.1 (Nat.le_trans hF.n0 hF.n1), hb.2.1, hb.2.2, .inl hb.1⟩⟩⟩
theorem rd_kept {b : Nat} (hF : KJ E w0 N w) (hk : Kept1 E b) : Rd0 E w.heap.size w b := ⟨Nat.lt_of_lt_of_le hk.1 (Nat.le_trans hF.n0 hF.n1), hk.2.1, hk.2.2, .inl hk.1⟩
theorem kw_of (F : JF E w0 sb b5 b6 b7 bi oi) (hF : KP2 E w0 N p q (.int .i64 (i : Int)) (.chan (some (E.Cr i))) w) {M : Nat → Prop} (hM : ∀ b, M b ↔ Rd0 E w.heap.size w b) : KW M ⟨p, 0, none⟩ ⟨q, 0, none⟩ ⟨b5, 0, none⟩ ⟨b6, 0, none⟩ ⟨E.Wg, 0, none⟩ i (E.Cr i) E.O E.Q w := by
  have hp := lt_of_heap hF.a.ph
  have hq := lt_of_heap hF.qh
  have h5 := hF.a.j.box F.k5 F.c5
  have h6 := hF.a.j.box F.k6 F.c6
  have n0 := hF.a.j.n0
  have own : ∀ b, N ≤ b → b < w.heap.size → ¬ Byt E w b → Rd0 E w.heap.size w b := fun b h1 h2 h3 => ⟨h2, notSh F.ok (Nat.le_trans n0 h1), fun ho => by have := F.ok.old b ho; omega, .inr h3⟩
  exact ⟨cell_box hF.a.ph, frozen_box hF.a.ph, cell_box hF.qh, frozen_box hF.qh, cell_box h5, frozen_box h5, cell_box h6, frozen_box h6, ⟨hp, hq, lt_of_heap h5, lt_of_heap h6⟩,
    (hM p).2 (own p hF.a.p0 hp (notByt hF.a.ph (by rw [F.by_]; decide))), (hM q).2 (own q hF.q0 hq (notByt hF.qh (by rw [F.by_]; decide))), (hM b5).2 (rd_kept hF.a.j F.k5), (hM b6).2 (rd_kept hF.a.j F.k6)⟩
theorem nm_add' : (Try.f18.name == "runtime.NumGoroutine") = false := by kernel_rfl
set_option maxRecDepth 100000 in
set_option maxHeartbeats 8000000 in
theorem fork_round (F : JF E w0 sb b5 b6 b7 bi oi) (hi : i < E.n) {MB : Value → List Int → Prop} (W : EW E MB) (H : HeldJ E MB w0) {Next : Nat → Goroutine → World → Prop} (hnext : ∀ J w, KJ E w0 w.heap.size w → Next w.heap.size (gGo E sb b5 b6 b7 bi oi cap i (some ⟨bi, oi, none⟩) J c cs) w) (hF : KJ E w0 N w) :
    Goes Try.prog true (R0 E) (D0 E N) (MDis Try.prog E N i Next) 60 (gJ E sb b5 b6 b7 bi oi cap i (some ⟨bi, oi, none⟩) Jn c cs) w := by
  unfold gJ
  simp only [loopJ, restJ, tailJ, bodyJ, Try.f16, Option.getD_some, cSnd, cFst, cIn]
  have q1 : decide ((i : Int) < (E.n : Int)) = true := decide_eq_true (by omega)
  have q2 : (0 : Int) ≤ (i : Int) ∧ (i : Int) < (E.n : Int) := ⟨by omega, by omega⟩
  refine Goes.step rfl (fun _ h₁ => ?_)
  replace hF := hF.r0 h₁
  clear h₁
  rw [stepG_seq]
  simp only [goes_go]
  refine ⟨d0_none _, ?_⟩
  refine Goes.step rfl (fun _ h₁ => ?_)
  replace hF := hF.r0 h₁
  clear h₁
  rw [stepG_region]
  simp only [goes_go, List.size_toArray, List.length_cons, List.length_nil, Nat.reduceAdd, Nat.zero_add, List.range, List.range.loop]
  refine ⟨d0_none _, ?_⟩
  refine Goes.step rfl (fun _ h₁ => ?_)
  replace hF := hF.r0 h₁
  clear h₁
  refine goes_oper_k rfl rfl (by decide) (fun K hK => ?_)
  go_simp
  refine hK _ _ ⟨d0_ev (fun e he => ?_), ?_⟩
  · have hm := mem_listed he
    simp [go_sem] at hm
  clear hK K
  refine Goes.step rfl (fun _ h₁ => ?_)
  replace hF := hF.r0 h₁
  clear h₁
  rw [stepG_region_end]
  simp only [goes_go]
  refine ⟨d0_none _, ?_⟩
  refine Goes.step rfl (fun _ h₁ => ?_)
  replace hF := hF.r0 h₁
  clear h₁
  rw [stepG_seq]
  simp only [goes_go]
  refine ⟨d0_none _, ?_⟩
  refine Goes.step rfl (fun _ h₁ => ?_)
  replace hF := hF.r0 h₁
  clear h₁
  rw [stepG_cond (t := true) rfl]
  simp only [goes_go, if_true, if_false, Bool.false_eq_true, ↓reduceIte]
  refine ⟨d0_none _, ?_⟩
  refine Goes.step rfl (fun _ h₁ => ?_)
  replace hF := hF.r0 h₁
  clear h₁
  rw [stepG_skip]
  simp only [goes_go]
  refine ⟨d0_none _, ?_⟩
  refine Goes.step rfl (fun _ h₁ => ?_)
  replace hF := hF.r0 h₁
  clear h₁
  rw [stepG_seq]
  simp only [goes_go]
  refine ⟨d0_none _, ?_⟩
  refine Goes.step rfl (fun _ h₁ => ?_)
  replace hF := hF.r0 h₁
  clear h₁
  rw [stepG_block]
  simp only [goes_go]
  refine ⟨d0_none _, ?_⟩
  refine Goes.step rfl (fun _ h₁ => ?_)
  replace hF := hF.r0 h₁
  clear h₁
  rw [stepG_seq]
  simp only [goes_go]
  refine ⟨d0_none _, ?_⟩
  refine Goes.step rfl (fun _ h₁ => ?_)
  replace hF := hF.r0 h₁
  clear h₁
  rw [stepG_region]
  simp only [goes_go, List.size_toArray, List.length_cons, List.length_nil, Nat.reduceAdd, Nat.zero_add, List.range, List.range.loop]
  refine ⟨d0_none _, ?_⟩
  refine Goes.step rfl (fun _ h₁ => ?_)
  replace hF := hF.r0 h₁
  clear h₁
  refine goes_oper_k rfl rfl (by decide) (fun K hK => ?_)
  go_simp
  refine hK _ _ ⟨d0_ev (fun e he => ?_), ?_⟩
  · have hm := mem_listed he
    simp [go_sem] at hm
  clear hK K
  refine Goes.step rfl (fun _ h₁ => ?_)
  replace hF := hF.r0 h₁
  clear h₁
  refine goes_oper_k rfl rfl (by decide) (fun K hK => ?_)
  have f0 := q2
  go_simp
  refine hK _ _ ⟨d0_ev (fun e he => ?_), ?_⟩
  · have hm := mem_listed he
    simp [go_sem, f0] at hm
  clear hK K f0
  refine Goes.step rfl (fun _ h₁ => ?_)
  replace hF := hF.r0 h₁
  clear h₁
  refine goes_oper_k rfl rfl (by decide) (fun K hK => ?_)
  have f0 := hF.cell (F.ki (by omega)) (F.ci i hi)
  go_simp
  refine hK _ _ ⟨d0_ev (fun e he => ?_), ?_⟩
  · have hm := mem_listed he
    simp [go_sem, f0] at hm
    subst hm
    exact evM_read _ (rd_low hF (F.ki (by omega)).1 (F.ki (by omega)).2.1 (F.ki (by omega)).2.2) (Nat.lt_of_lt_of_le (F.ki (by omega)).1 (Nat.le_trans hF.n0 hF.n1))
  clear hK K f0
  refine Goes.step rfl (fun w1 h₁ => ?_)
  replace hF := hF.r0 h₁
  clear h₁
  refine goes_oper_k rfl rfl (by decide) (fun K hK => ?_)
  go_simp
  refine hK _ _ ⟨d0_alloc _ (fun e he => ?_), ?_⟩
  · have hm := mem_listed he
    simp [go_sem] at hm
  clear hK K
  replace hF := hF.alloc F.ok (.int .i64 0)
  obtain ⟨p, hp⟩ : ∃ p, p = w1.heap.size := ⟨_, rfl⟩
  rw [← hp] at hF ⊢
  clear hp
  refine Goes.step rfl (fun w1 h₁ => ?_)
  replace hF := hF.r0 F.ok h₁
  clear h₁
  refine goes_oper_k rfl rfl (by decide) (fun K hK => ?_)
  go_simp
  refine hK _ _ ⟨d0_alloc _ (fun e he => ?_), ?_⟩
  · have hm := mem_listed he
    simp [go_sem] at hm
  clear hK K
  replace hF := hF.alloc F.ok (.chan none)
  obtain ⟨q, hq⟩ : ∃ q, q = w1.heap.size := ⟨_, rfl⟩
  rw [← hq] at hF ⊢
  clear hq
  refine Goes.step rfl (fun _ h₁ => ?_)
  replace hF := hF.r0 F.ok h₁
  clear h₁
  refine goes_oper_k rfl rfl (by decide) (fun K hK => ?_)
  have f0 := cell_box hF.a.ph
  have f1 := frozen_box hF.a.ph
  go_simp
  refine hK _ _ ⟨d0_store hF.a.p0 (lt_of_heap hF.a.ph) (notByt hF.a.ph (by rw [F.by_]; decide)) (fun e he => ?_), ?_⟩
  · have hm := mem_listed he
    simp [go_sem, f0, f1] at hm
    exact hm
  clear hK K f0 f1
  replace hF := hF.setP F.ok (.int .i64 (i : Int))
  refine Goes.step rfl (fun _ h₁ => ?_)
  replace hF := hF.r0 F.ok h₁
  clear h₁
  refine goes_oper_k rfl rfl (by decide) (fun K hK => ?_)
  have f0 := cell_box hF.qh
  have f1 := frozen_box hF.qh
  go_simp
  refine hK _ _ ⟨d0_store hF.q0 (lt_of_heap hF.qh) (notByt hF.qh (by rw [F.by_]; decide)) (fun e he => ?_), ?_⟩
  · have hm := mem_listed he
    simp [go_sem, f0, f1] at hm
    exact hm
  clear hK K f0 f1
  replace hF := hF.setQ F.ok (.chan (some (E.Cr i)))
  refine Goes.step rfl (fun _ h₁ => ?_)
  replace hF := hF.r0 F.ok h₁
  clear h₁
  rw [stepG_region_end]
  simp only [goes_go]
  refine ⟨d0_none _, ?_⟩
  refine Goes.step rfl (fun _ h₁ => ?_)
  replace hF := hF.r0 F.ok h₁
  clear h₁
  rw [stepG_seq]
  simp only [goes_go]
  refine ⟨d0_none _, ?_⟩
  refine Goes.step rfl (fun _ h₁ => ?_)
  replace hF := hF.r0 F.ok h₁
  clear h₁
  rw [stepG_seq]
  simp only [goes_go]
  refine ⟨d0_none _, ?_⟩
  refine Goes.step rfl (fun _ h₁ => ?_)
  replace hF := hF.r0 F.ok h₁
  clear h₁
  rw [stepG_region]
  simp only [goes_go, List.size_toArray, List.length_cons, List.length_nil, Nat.reduceAdd, Nat.zero_add, List.range, List.range.loop]
  refine ⟨d0_none _, ?_⟩
  refine Goes.step rfl (fun _ h₁ => ?_)
  replace hF := hF.r0 F.ok h₁
  clear h₁
  refine goes_oper_k rfl rfl (by decide) (fun K hK => ?_)
  have f0 := cell_box hF.qh
  have f1 := frozen_box hF.qh
  go_simp
  refine hK _ _ ⟨d0_ev (fun e he => ?_), ?_⟩
  · have hm := mem_listed he
    simp [go_sem, f0, f1] at hm
    subst hm
    exact ev_own hF.q0 (notByt hF.qh (by rw [F.by_]; decide)) (lt_of_heap hF.qh)
  clear hK K f0 f1
  refine Goes.step rfl (fun _ h₁ => ?_)
  replace hF := hF.r0 F.ok h₁
  clear h₁
  refine goes_oper_k rfl rfl (by decide) (fun K hK => ?_)
  go_simp
  refine hK _ _ ⟨d0_ev (fun e he => ?_), ?_⟩
  · have hm := mem_listed he
    simp [go_sem] at hm
    try (rw [events_eql_chan (by rfl)] at hm; simp at hm)
  clear hK K
  refine Goes.step rfl (fun _ h₁ => ?_)
  replace hF := hF.r0 F.ok h₁
  clear h₁
  rw [stepG_region_end]
  simp only [goes_go]
  refine ⟨d0_none _, ?_⟩
  refine Goes.step rfl (fun _ h₁ => ?_)
  replace hF := hF.r0 F.ok h₁
  clear h₁
  rw [stepG_cond (t := false) rfl]
  simp only [goes_go, if_true, if_false, Bool.false_eq_true, ↓reduceIte]
  refine ⟨d0_none _, ?_⟩
  refine Goes.step rfl (fun _ h₁ => ?_)
  replace hF := hF.r0 F.ok h₁
  clear h₁
  rw [stepG_skip]
  simp only [goes_go]
  refine ⟨d0_none _, ?_⟩
  refine Goes.step rfl (fun _ h₁ => ?_)
  replace hF := hF.r0 F.ok h₁
  clear h₁
  rw [stepG_seq]
  simp only [goes_go]
  refine ⟨d0_none _, ?_⟩
  refine Goes.step rfl (fun _ h₁ => ?_)
  replace hF := hF.r0 F.ok h₁
  clear h₁
  rw [stepG_region]
  simp only [goes_go, List.size_toArray, List.length_cons, List.length_nil, Nat.reduceAdd, Nat.zero_add, List.range, List.range.loop]
  refine ⟨d0_none _, ?_⟩
  refine Goes.step rfl (fun _ h₁ => ?_)
  replace hF := hF.r0 F.ok h₁
  clear h₁
  refine goes_call rfl rfl (by decide) rfl Try.func18 nm_add' rfl ⟨d0_none _, ?_⟩
  walk_nrmf Try.f18
  refine (addPosP (L := lk) (F := fun w => KP2 E w0 N p q (.int .i64 (i : Int)) (.chan (some (E.Cr i))) w) (mT := 8) wgLib F.ty (fun _ _ r h => h.r0 F.ok r) (fun w v h hl => h.wg F.ok hl) (fun w hF _ => ?_) _ ⟨hF, hF.a.j.live⟩).mono (by decide)
  walk_nrm
  refine Goes.step rfl (fun _ h₁ => ?_)
  replace hF := hF.r0 F.ok h₁
  clear h₁
  rw [stepG_region_end]
  simp only [goes_go]
  refine ⟨d0_none _, ?_⟩
  refine Goes.step rfl (fun _ h₁ => ?_)
  replace hF := hF.r0 F.ok h₁
  clear h₁
  rw [stepG_region]
  simp only [goes_go, List.size_toArray, List.length_cons, List.length_nil, Nat.reduceAdd, Nat.zero_add, List.range, List.range.loop]
  refine ⟨d0_none _, ?_⟩
  refine Goes.step rfl (fun _ h₁ => ?_)
  replace hF := hF.r0 F.ok h₁
  clear h₁
  refine goes_oper_k rfl rfl (by decide) (fun K hK => ?_)
  go_simp
  refine hK _ _ ⟨d0_ev (fun e he => ?_), ?_⟩
  · have hm := mem_listed he
    simp [go_sem] at hm
  clear hK K
  refine Goes.stop (fun w2 h₁ => ?_)
  replace hF := hF.r0 F.ok h₁
  clear h₁
  refine ⟨rfl, _, born Try.prog (call19 ⟨p, 0, none⟩ ⟨q, 0, none⟩ ⟨b5, 0, none⟩ ⟨b6, 0, none⟩ ⟨E.Wg, 0, none⟩), (stepG_spawn (d := call19 ⟨p, 0, none⟩ ⟨q, 0, none⟩ ⟨b5, 0, none⟩ ⟨b6, 0, none⟩ ⟨E.Wg, 0, none⟩) (w' := w2) rfl rfl (by decide) (by simp [go_sem, execOp, Act.eval, call19]; try rfl) rfl).trans (by rw [listed_nil (by simp [go_sem, execOp, Act.eval])]), rfl, fun M hM => ?_, ?_⟩
  · exact way_script W (Nat.le_trans hF.a.j.n0 hF.a.p0) ⟨30, fun w _ hl => way_done F.ty hl⟩ (kw_of F hF hM) ⟨held_of H hi hF.a.j hM, hF.a.j.live⟩
  · have := hnext (fun k => (#[undef, undef, undef, undef, undef, undef, undef, undef, undef, .pointer (some ⟨p, 0, none⟩), .pointer (some ⟨q, 0, none⟩), undef, undef, undef, undef, undef, undef, .bool true, .int .i64 (i : Int), .pointer (some ⟨bi, oi + i, none⟩), .chan (some (E.Cr i)), .chan (some (E.Cr i)), .bool false, .tuple #[], .func (.func 19) #[] #[.pointer (some ⟨p, 0, none⟩), .pointer (some ⟨q, 0, none⟩), .pointer (some ⟨b5, 0, none⟩), .pointer (some ⟨b6, 0, none⟩), .pointer (some ⟨E.Wg, 0, none⟩)], Jn 25, Jn 26, Jn 27, Jn 28] : Array Value).getD k undef) w2 ⟨hF.a.j.low, hF.a.j.live, Nat.le_trans hF.a.j.n0 hF.a.j.n1, Nat.le_refl _, hF.a.j.oo⟩
    unfold gGo at this
    simp only [r8J, r9J, loopJ, restJ, tailJ, bodyJ, Try.f16, Option.getD_some, cSnd, cFst, cIn, cOps] at this
    exact this
end Go.Proofs.Ytiobhgemjbjipaa

/- The first's fork: on to the next round; the end; the whole. Conditions stand as premises. -/
set_option linter.unusedSimpArgs false
set_option linter.unusedVariables false
namespace Go.Proofs.Ytiobhgemjbjipaa
open Go.Conc Go.RowKit Go.Conc.Lib Go.ConcR.Gen Go.ConcN.Gen
open Go.ConcR (KK wgBlock WgAt stA smA rd wr mk DC0)
open Go.ConcN (WgLive)
variable {E : PE} {w0 w w₁ : World} {N sb b5 b6 b7 bi oi cap i mT : Nat} {Exit : Bool → List (Nat × Value × Value) → Goroutine → World → Prop} {nn : Nat} {b0 : Bool} {Jn : Nat → Value} {ba : Option Addr} {c : Frame} {cs : List Frame} {b₀ : Frame} {a₀ : Act} {ops₀ : Array Oper} {i₀ : Nat} {rest₀ : List Nat} {k₀ : List Item}
set_option maxRecDepth 100000 in
set_option maxHeartbeats 8000000 in
theorem fork_next (F : JF E w0 sb b5 b6 b7 bi oi) (hi : i < E.n) {S : Goroutine → World → Prop} (hS : ∀ J w, KJ E w0 N w → Goes Try.prog true (R0 E) (D0 E N) S mT (gJ E sb b5 b6 b7 bi oi cap (i + 1) ba J c cs) w) (hF : KJ E w0 N w) :
    Goes Try.prog true (R0 E) (D0 E N) S (mT + 10) (gGo E sb b5 b6 b7 bi oi cap i ba Jn c cs) w := by
  have hb := F.ok.big
  have q1 : IntKind.i64.wrap ((i : Int) + 1) = ((i + 1 : Nat) : Int) := by rw [IntKind.wrap_i64]; omega
  unfold gGo
  simp only [r8J, r9J, loopJ, restJ, tailJ, bodyJ, Try.f16, Option.getD_some, cSnd, cFst, cIn, cOps]
  refine Goes.step rfl (fun _ h₁ => ?_)
  replace hF := hF.r0 h₁
  clear h₁
  rw [stepG_region_end]
  simp only [goes_go]
  refine ⟨d0_none _, ?_⟩
  refine Goes.step rfl (fun _ h₁ => ?_)
  replace hF := hF.r0 h₁
  clear h₁
  rw [stepG_inBlock]
  simp only [goes_go]
  refine ⟨d0_none _, ?_⟩
  refine Goes.step rfl (fun _ h₁ => ?_)
  replace hF := hF.r0 h₁
  clear h₁
  rw [stepG_region]
  simp only [goes_go, List.size_toArray, List.length_cons, List.length_nil, Nat.reduceAdd, Nat.zero_add, List.range, List.range.loop]
  refine ⟨d0_none _, ?_⟩
  refine Goes.step rfl (fun _ h₁ => ?_)
  replace hF := hF.r0 h₁
  clear h₁
  refine goes_oper_k rfl rfl (by decide) (fun K hK => ?_)
  have f0 := q1
  go_simp
  refine hK _ _ ⟨d0_ev (fun e he => ?_), ?_⟩
  · have hm := mem_listed he
    simp [go_sem, f0] at hm
  clear hK K f0
  refine Goes.step rfl (fun _ h₁ => ?_)
  replace hF := hF.r0 h₁
  clear h₁
  refine goes_oper_k rfl rfl (by decide) (fun K hK => ?_)
  go_simp
  refine hK _ _ ⟨d0_ev (fun e he => ?_), ?_⟩
  · have hm := mem_listed he
    simp [go_sem] at hm
  clear hK K
  refine Goes.step rfl (fun _ h₁ => ?_)
  replace hF := hF.r0 h₁
  clear h₁
  rw [stepG_region_end]
  simp only [goes_go]
  refine ⟨d0_none _, ?_⟩
  refine Goes.step rfl (fun _ h₁ => ?_)
  replace hF := hF.r0 h₁
  clear h₁
  rw [stepG_inLoop]
  simp only [goes_go]
  refine ⟨d0_none _, ?_⟩
  have := hS (fun k => (#[undef, undef, undef, undef, undef, undef, undef, undef, undef, Jn 9, Jn 10, undef, undef, undef, undef, undef, undef, Jn 17, Jn 18, Jn 19, Jn 20, Jn 21, Jn 22, Jn 23, Jn 24, .int .i64 ((i + 1 : Nat) : Int), Jn 26, Jn 27, Jn 28] : Array Value).getD k undef) _ hF
  unfold gJ at this
  simp only [r8J, r9J, loopJ, restJ, tailJ, bodyJ, Try.f16, Option.getD_some, cSnd, cFst, cIn, cOps] at this
  exact this.mono (by omega)
set_option maxRecDepth 100000 in
set_option maxHeartbeats 8000000 in
theorem fork_end (F : JF E w0 sb b5 b6 b7 bi oi) (hz : E.zQ = .bool false) (hT : ∀ w N, KJ E w0 N w → Goes Try.prog true (R0 E) (D0 E N) (fun g w => ∃ o, MRecv Try.prog E Exit nn b0 [] N o g w) mT (G (b₀.at (a₀.put ((ops₀[i₀]?).bind (·.dst)) (.chan (some E.O))) (.inRegion ops₀ rest₀ :: k₀)) cs) w) (hF : KJ E w0 N w) :
    Goes Try.prog true (R0 E) (D0 E N) (MGoT Try.prog E Exit nn b0) 60 (gJ E sb b5 b6 b7 bi oi cap E.n ba Jn (b₀.at a₀ (.inRegion ops₀ (i₀ :: rest₀) :: k₀)) cs) w := by
  unfold gJ
  simp only [r8J, r9J, loopJ, restJ, tailJ, bodyJ, Try.f16, Option.getD_some, cSnd, cFst, cIn, cOps]
  have q1 : decide ((E.n : Int) < (E.n : Int)) = false := decide_eq_false (by omega)
  refine Goes.step rfl (fun _ h₁ => ?_)
  replace hF := hF.r0 h₁
  clear h₁
  rw [stepG_seq]
  simp only [goes_go]
  refine ⟨d0_none _, ?_⟩
  refine Goes.step rfl (fun _ h₁ => ?_)
  replace hF := hF.r0 h₁
  clear h₁
  rw [stepG_region]
  simp only [goes_go, List.size_toArray, List.length_cons, List.length_nil, Nat.reduceAdd, Nat.zero_add, List.range, List.range.loop]
  refine ⟨d0_none _, ?_⟩
  refine Goes.step rfl (fun _ h₁ => ?_)
  replace hF := hF.r0 h₁
  clear h₁
  refine goes_oper_k rfl rfl (by decide) (fun K hK => ?_)
  go_simp
  refine hK _ _ ⟨d0_ev (fun e he => ?_), ?_⟩
  · have hm := mem_listed he
    simp [go_sem] at hm
  clear hK K
  refine Goes.step rfl (fun _ h₁ => ?_)
  replace hF := hF.r0 h₁
  clear h₁
  rw [stepG_region_end]
  simp only [goes_go]
  refine ⟨d0_none _, ?_⟩
  refine Goes.step rfl (fun _ h₁ => ?_)
  replace hF := hF.r0 h₁
  clear h₁
  rw [stepG_seq]
  simp only [goes_go]
  refine ⟨d0_none _, ?_⟩
  refine Goes.step rfl (fun _ h₁ => ?_)
  replace hF := hF.r0 h₁
  clear h₁
  rw [stepG_cond (t := false) rfl]
  simp only [goes_go, if_true, if_false, Bool.false_eq_true, ↓reduceIte]
  refine ⟨d0_none _, ?_⟩
  refine Goes.step rfl (fun _ h₁ => ?_)
  replace hF := hF.r0 h₁
  clear h₁
  refine goes_exit rfl ?_
  refine ⟨d0_none _, ?_⟩
  refine Goes.step rfl (fun _ h₁ => ?_)
  replace hF := hF.r0 h₁
  clear h₁
  rw [stepG_seq]
  simp only [goes_go]
  refine ⟨d0_none _, ?_⟩
  refine Goes.step rfl (fun _ h₁ => ?_)
  replace hF := hF.r0 h₁
  clear h₁
  rw [stepG_region]
  simp only [goes_go, List.size_toArray, List.length_cons, List.length_nil, Nat.reduceAdd, Nat.zero_add, List.range, List.range.loop]
  refine ⟨d0_none _, ?_⟩
  refine Goes.step rfl (fun _ h₁ => ?_)
  replace hF := hF.r0 h₁
  clear h₁
  refine goes_oper_k rfl rfl (by decide) (fun K hK => ?_)
  go_simp
  refine hK _ _ ⟨d0_ev (fun e he => ?_), ?_⟩
  · have hm := mem_listed he
    simp [go_sem] at hm
  clear hK K
  refine Goes.stop (fun w2 h₁ => ?_)
  replace hF := hF.r0 h₁
  clear h₁
  refine ⟨rfl, _, born Try.prog (call22 ⟨E.Wg, 0, none⟩ ⟨b7, 0, none⟩), (stepG_spawn (d := call22 ⟨E.Wg, 0, none⟩ ⟨b7, 0, none⟩) (w' := w2) rfl rfl (by decide) (by simp [go_sem, execOp, Act.eval, call22, call24]; try rfl) rfl).trans (by rw [listed_nil (by simp [go_sem, execOp, Act.eval])]), rfl, fun M hM => ?_, ?_⟩
  · refine wait_script F.ty (fun b hb e => ((hM b).1 hb).2.1 (.inl e)) _ ⟨fun x hx => ?_, hF.live⟩
    simp only [List.mem_cons, List.not_mem_nil, or_false] at hx
    subst hx
    exact ⟨cell_box (hF.box F.k7 F.c7), frozen_box (hF.box F.k7 F.c7), lt_of_heap (hF.box F.k7 F.c7), (hM _).2 (rd_kept hF F.k7)⟩
  replace hF : KJ E w0 w2.heap.size w2 := ⟨hF.low, hF.live, Nat.le_trans hF.n0 hF.n1, Nat.le_refl _, hF.oo⟩
  refine ⟨20, ?_⟩
  refine Goes.step rfl (fun _ h₁ => ?_)
  replace hF := hF.r0 h₁
  clear h₁
  rw [stepG_region_end]
  simp only [goes_go]
  refine ⟨d0_none _, ?_⟩
  refine Goes.step rfl (fun _ h₁ => ?_)
  replace hF := hF.r0 h₁
  clear h₁
  rw [stepG_seq]
  simp only [goes_go]
  refine ⟨d0_none _, ?_⟩
  refine Goes.step rfl (fun _ h₁ => ?_)
  replace hF := hF.r0 h₁
  clear h₁
  rw [stepG_region]
  simp only [goes_go, List.size_toArray, List.length_cons, List.length_nil, Nat.reduceAdd, Nat.zero_add, List.range, List.range.loop]
  refine ⟨d0_none _, ?_⟩
  refine Goes.step rfl (fun _ h₁ => ?_)
  replace hF := hF.r0 h₁
  clear h₁
  refine goes_oper_k rfl rfl (by decide) (fun K hK => ?_)
  go_simp
  refine hK _ _ ⟨d0_ev (fun e he => ?_), ?_⟩
  · have hm := mem_listed he
    simp [go_sem] at hm
  clear hK K
  refine Goes.stop (fun w2 h₁ => ?_)
  replace hF := hF.r0 h₁
  clear h₁
  refine ⟨rfl, _, born Try.prog (call24 ⟨sb, 0, none⟩ ⟨b6, 0, none⟩ ⟨b7, 0, none⟩ ⟨b5, 0, none⟩), (stepG_spawn (d := call24 ⟨sb, 0, none⟩ ⟨b6, 0, none⟩ ⟨b7, 0, none⟩ ⟨b5, 0, none⟩) (w' := w2) rfl rfl (by decide) (by simp [go_sem, execOp, Act.eval, call22, call24]; try rfl) rfl).trans (by rw [listed_nil (by simp [go_sem, execOp, Act.eval])]), rfl, fun M hM => ?_, ?_⟩
  · refine clo_script hz (fun b hb => ((hM b).1 hb).2.1) fun x hx => ?_
    simp only [List.mem_cons, List.not_mem_nil, or_false] at hx
    rcases hx with rfl | rfl | rfl | rfl
    · exact ⟨cell_box (hF.box F.k2 F.c2), frozen_box (hF.box F.k2 F.c2), lt_of_heap (hF.box F.k2 F.c2), (hM _).2 (rd_kept hF F.k2)⟩
    · exact ⟨cell_box (hF.box F.k6 F.c6), frozen_box (hF.box F.k6 F.c6), lt_of_heap (hF.box F.k6 F.c6), (hM _).2 (rd_kept hF F.k6)⟩
    · exact ⟨cell_box (hF.box F.k7 F.c7), frozen_box (hF.box F.k7 F.c7), lt_of_heap (hF.box F.k7 F.c7), (hM _).2 (rd_kept hF F.k7)⟩
    · exact ⟨cell_box (hF.box F.k5 F.c5), frozen_box (hF.box F.k5 F.c5), lt_of_heap (hF.box F.k5 F.c5), (hM _).2 (rd_kept hF F.k5)⟩
  replace hF : KJ E w0 w2.heap.size w2 := ⟨hF.low, hF.live, Nat.le_trans hF.n0 hF.n1, Nat.le_refl _, hF.oo⟩
  refine ⟨mT + 20, ?_⟩
  refine Goes.step rfl (fun _ h₁ => ?_)
  replace hF := hF.r0 h₁
  clear h₁
  rw [stepG_region_end]
  simp only [goes_go]
  refine ⟨d0_none _, ?_⟩
  refine Goes.step rfl (fun _ h₁ => ?_)
  replace hF := hF.r0 h₁
  clear h₁
  rw [stepG_seq]
  simp only [goes_go]
  refine ⟨d0_none _, ?_⟩
  refine Goes.step rfl (fun _ h₁ => ?_)
  replace hF := hF.r0 h₁
  clear h₁
  rw [stepG_region]
  simp only [goes_go, List.size_toArray, List.length_cons, List.length_nil, Nat.reduceAdd, Nat.zero_add, List.range, List.range.loop]
  refine ⟨d0_none _, ?_⟩
  refine Goes.step rfl (fun _ h₁ => ?_)
  replace hF := hF.r0 h₁
  clear h₁
  refine goes_oper_k rfl rfl (by decide) (fun K hK => ?_)
  have f0 := cell_box (hF.box F.k5 F.c5)
  go_simp
  refine hK _ _ ⟨d0_ev (fun e he => ?_), ?_⟩
  · have hm := mem_listed he
    simp [go_sem, f0] at hm
    subst hm
    exact evM_read _ (rd_low hF F.k5.1 F.k5.2.1 F.k5.2.2) (lt_of_heap (hF.box F.k5 F.c5))
  clear hK K f0
  refine Goes.step rfl (fun _ h₁ => ?_)
  replace hF := hF.r0 h₁
  clear h₁
  refine goes_oper_k rfl rfl (by decide) (fun K hK => ?_)
  go_simp
  refine hK _ _ ⟨d0_ev (fun e he => ?_), ?_⟩
  · have hm := mem_listed he
    simp [go_sem] at hm
  clear hK K
  refine Goes.step rfl (fun _ h₁ => ?_)
  replace hF := hF.r0 h₁
  clear h₁
  rw [stepG_region_end]
  simp only [goes_go]
  refine ⟨d0_none _, ?_⟩
  refine Goes.step rfl (fun _ h₁ => ?_)
  replace hF := hF.r0 h₁
  clear h₁
  rw [stepG_ret']
  simp only [goes_go]
  refine ⟨d0_none _, ?_⟩
  refine Goes.step rfl (fun _ h₁ => ?_)
  replace hF := hF.r0 h₁
  clear h₁
  refine goes_leave1 rfl rfl Try.func16 rfl ⟨d0_none _, ?_⟩
  walk_nrm
  exact (hT _ _ hF).mono (by omega)
/-- THE FORK, whatever the number of ways. -/
theorem fork_all (F : JF E w0 sb b5 b6 b7 bi oi) {MB : Value → List Int → Prop} (W : EW E MB) (H : HeldJ E MB w0) (hba : 0 < E.n → ba = some ⟨bi, oi, none⟩) (hT : ∀ w N, KJ E w0 N w → Goes Try.prog true (R0 E) (D0 E N) (fun g w => ∃ o, MRecv Try.prog E Exit nn b0 [] N o g w) mT (G (b₀.at (a₀.put ((ops₀[i₀]?).bind (·.dst)) (.chan (some E.O))) (.inRegion ops₀ rest₀ :: k₀)) cs) w) :
    ∀ (N : Nat) (g : Goroutine) (w : World), (∀ S mS, (∀ J w', KJ E w0 N w' → Goes Try.prog true (R0 E) (D0 E N) S mS (gJ E sb b5 b6 b7 bi oi cap 0 ba J (b₀.at a₀ (.inRegion ops₀ (i₀ :: rest₀) :: k₀)) cs) w') → Goes Try.prog true (R0 E) (D0 E N) S (mS + 20) g w) → MFork Try.prog E Exit nn b0 E.n N g w := by
  have key : ∀ (r i : Nat) (J : Nat → Value) (N : Nat) (w : World), i + r = E.n → KJ E w0 N w →
      (r = 0 → Goes Try.prog true (R0 E) (D0 E N) (MGoT Try.prog E Exit nn b0) 60 (gJ E sb b5 b6 b7 bi oi cap i ba J (b₀.at a₀ (.inRegion ops₀ (i₀ :: rest₀) :: k₀)) cs) w) ∧
      (∀ r', r = r' + 1 → Goes Try.prog true (R0 E) (D0 E N) (MDis Try.prog E N (E.n - (r' + 1)) (fun N' => MFork Try.prog E Exit nn b0 r' N')) 60 (gJ E sb b5 b6 b7 bi oi cap i ba J (b₀.at a₀ (.inRegion ops₀ (i₀ :: rest₀) :: k₀)) cs) w) := by
    intro r
    induction r with
    | zero =>
      intro i J N w hi hF
      refine ⟨fun _ => ?_, fun r' e => by omega⟩
      obtain rfl : i = E.n := by omega
      exact fork_end F W.zQ hT hF
    | succ r ih =>
      intro i J N w hi hF
      refine ⟨fun e => by omega, fun r' e => ?_⟩
      obtain rfl : r' = r := by omega
      have hn : E.n - (r' + 1) = i := by omega
      rw [hn]
      obtain rfl := hba (by omega)
      refine fork_round F (by omega) W H (fun J' w' hF' => ?_) hF
      cases r' with
      | zero =>
        exact ⟨_, fork_next F (by omega) (fun J2 w2 hF2 => (ih (i + 1) J2 _ w2 (by omega) hF2).1 rfl) hF'⟩
      | succ r'' =>
        exact ⟨_, fork_next F (by omega) (fun J2 w2 hF2 => (ih (i + 1) J2 _ w2 (by omega) hF2).2 r'' rfl) hF'⟩
  intro N g w hpre
  cases hn : E.n with
  | zero => exact ⟨_, hpre _ 60 fun J w' hF => (key 0 0 J N w' (by omega) hF).1 rfl⟩
  | succ r => exact ⟨_, hpre _ 60 fun J w' hF => by have := (key (r + 1) 0 J N w' (by omega) hF).2 r rfl; rw [hn] at this; rw [hn]; exact this⟩
end Go.Proofs.Ytiobhgemjbjipaa
