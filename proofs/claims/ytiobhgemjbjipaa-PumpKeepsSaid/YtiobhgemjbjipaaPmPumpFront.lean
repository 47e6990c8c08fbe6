/- fronts: has each row come in its order? Beside leavers. Conditions stand as premises. -/
import Derived.Test.YtiobhgemjbjipaaPmPumpLight
set_option linter.unusedSimpArgs false
set_option linter.unusedVariables false
namespace Go.Proofs.Ytiobhgemjbjipaa
open Go.Conc Go.RowKit Go.Conc.Lib
variable {Old : Nat → Prop} {w : World} {Post : Value → World → Prop} {m : Nat} {b₀ : Frame} {a₀ : Act} {ops₀ : Array Oper} {i₀ : Nat} {rest₀ : List Nat} {k₀ : List Item} {cs : List Frame}
variable {a : Option Addr} {n c : Nat} {L : List (List (List Int))} {G0 : List (Nat × List Int)} {w' : World} {tb i bs0 : Nat} {V : Value} {full : Prop}
theorem yv_call {P : Program} {ops : Array Oper} {ac : Act} {o : Oper} {f : FuncId} {args : Array Operand} {ats : Array TypeId} {v : Value} {fn : Func} {c : Code} (hw : Region.wanted o (yielded ops ac.tmps) = true)
    (hop : o.op = .call { callee := .value (.func f), args, argTypes := ats }) (hf : P.funcs[f]? = some fn) (hname : (fn.name == "runtime.NumGoroutine") = false) (hb : fn.body = some c) {vs : Array Value} (ha : args.map ac.eval = vs) (hg : Gives P Old w f vs v) : Yv P Old w ops o v ac := by
  subst ha
  have hb' : fn.body.isNone = false := by rw [hb]; rfl
  exact .inl ⟨hw, .inr ⟨f, args.map ac.eval, fun d => ⟨run_call_body hop hf hname hb', events_call_body hop hf hname hb' #[]⟩, hg⟩⟩
theorem nm_same : (Try.f15.name == "runtime.NumGoroutine") = false := by kernel_rfl
theorem same_gives {va vb : Option Addr} {na nb ca cb : Nat} {xs ys : List Int} (h1 : R1 Old w (.slice va na ca) xs) (h2 : R1 Old w (.slice vb nb cb) ys) : Gives Try.prog Old w 15 #[.slice va na ca, .slice vb nb cb] (.bool (decide (xs = ys))) := by
  refine ⟨_, _, Try.func15, rfl, fun Post m b₀ a₀ ops₀ i₀ rest₀ k₀ cs h => ?_⟩
  exact same_ok h1 h2 h
theorem same_yes {va vb : Option Addr} {na nb ca cb : Nat} {xs : List Int} (h1 : R1 Old w (.slice va na ca) xs) (h2 : R1 Old w (.slice vb nb cb) xs) : Gives Try.prog Old w 15 #[.slice va na ca, .slice vb nb cb] (.bool true) := by
  have := same_gives h1 h2
  rwa [decide_eq_true rfl] at this
theorem GotL.ext {Old' : Nat → Prop} (h : GotL Old w bs0 V G0) (e : Ext Old Old' w w') : GotL Old' w' bs0 V G0 := by
  obtain ⟨a, c, h1, h2, h3, h4, h5⟩ := h
  refine ⟨a, c, h1, h2, h3, h4, h5.imp id ?_⟩
  rintro ⟨g, cur, e', k1, k2, k3, k4⟩
  have lo : ∀ b vs, w.heap[b]? = some (Obj.cells vs 5) → w'.heap[b]? = w.heap[b]? ∧ (¬ Old b → ¬ Old' b) := fun b vs hb => ⟨e.low b (lt_of_heap hb), fun ho x => (e.old b x).elim ho fun y => by have := lt_of_heap hb; omega⟩
  have hg := lt_of_heap k3
  refine ⟨g, cur, e', k1, fun x => (e.old g x).elim k2 (by omega), (e.low g hg).trans k3, fun j k bs hj => ?_⟩
  obtain ⟨l1, v, l2, l3⟩ := k4 j k bs hj
  have kk : ∀ (off : Nat) v, w.cell? ⟨g, off, none⟩ = some v → w'.cell? ⟨g, off, none⟩ = some v := fun off v hv => (cell_same (a := ⟨g, off, none⟩) (e.low g hg)).trans hv
  exact ⟨kk _ _ l1, v, kk _ _ l2, l3.keep e.size fun b hB _ => by
    obtain ⟨q1, q2, vs, q3⟩ := hB
    have := lo b vs q3
    exact ⟨this.1, q1, this.2 q2, vs, this.1.trans q3⟩⟩
/-- What came at a place. -/
theorem GotL.at {a : Option Addr} {n c k : Nat} {bs : List Int} (h : GotL Old w bs0 (.slice a n c) G0) (hi : G0[i]? = some (k, bs)) : ∃ g va vc, a = some ⟨g, 0, none⟩ ∧ g < w.heap.size ∧ ¬ Old g ∧ w.cell? ⟨g, i * 2, none⟩ = some (.int .i64 (k : Int)) ∧ w.cell? ⟨g, i * 2 + 1, none⟩ = some (.slice va bs.length vc) ∧ R1 Old w (.slice va bs.length vc) bs := by
  obtain ⟨a', c', h1, h2, h3, h4, h5⟩ := h
  have hl := (List.getElem?_eq_some_iff.1 hi).1
  simp only [Value.slice.injEq] at h1
  obtain ⟨rfl, _, _⟩ := h1
  rcases h5 with h5 | ⟨g, cur, e', k1, k2, k3, k4⟩
  · omega
  · obtain ⟨l1, v, l2, l3⟩ := k4 i k bs hi
    have hr : R1 Old w v bs := R1.of_msg l3 fun b hB => hB.2.1
    have hr' := hr
    obtain ⟨⟨va, vc, e2, _⟩, _⟩ := hr
    rw [e2, List.length_map] at l2 hr'
    rw [Nat.mul_comm] at l1 l2
    exact ⟨g, va, vc, e', lt_of_heap k3, k2, l1, l2, hr'⟩
theorem GotL.len {a : Option Addr} {n c : Nat} (h : GotL Old w bs0 (.slice a n c) G0) : n = G0.length := by
  obtain ⟨a', c', h1, _⟩ := h
  simp only [Value.slice.injEq] at h1
  exact h1.2.1
/-- The counts. -/
structure AtF (Old : Nat → Prop) (w : World) (tb : Nat) (G0 : List (Nat × List Int)) (n i : Nat) (w' : World) : Prop where
  e : Ext Old Old w w'
  t0 : w.heap.size ≤ tb
  hh : ∃ cur, w'.heap[tb]? = some (.cells cur 3)
  ct : ∀ k, k < n → w'.cell? ⟨tb, k, none⟩ = some (.int .i64 (cnt (G0.take i) k : Int))
theorem AtF.fr (h : AtF Old w tb G0 n i w') (k : Nat) : w'.frozen? ⟨tb, k, none⟩ = false := by
  obtain ⟨cur, hc⟩ := h.hh
  simp [World.frozen?, hc]
theorem AtF.lt (h : AtF Old w tb G0 n i w') : tb < w'.heap.size := by
  obtain ⟨cur, hc⟩ := h.hh
  exact lt_of_heap hc
theorem AtF.put (h : AtF Old w tb G0 n i w') {k : Nat} {bs : List Int} (hi : G0[i]? = some (k, bs)) (hk : k < n) : AtF Old w tb G0 n (i + 1) (w'.setCell ⟨tb, k, none⟩ (.int .i64 ((cnt (G0.take i) k : Int) + 1))) := by
  have q := aside_setCell w' ⟨tb, k, none⟩ (.int .i64 ((cnt (G0.take i) k : Int) + 1))
  have ht : G0.take (i + 1) = G0.take i ++ [(k, bs)] := by rw [List.take_add_one, hi]; rfl
  refine ⟨⟨by rw [q.size]; exact h.e.size, fun b hb => (q.block b ?_).trans (h.e.low b hb), fun b x => .inl x, h.e.oo.trans ⟨rfl, rfl⟩⟩, h.t0, ?_, fun j hj => ?_⟩
  · have := h.t0
    show b ≠ tb
    omega
  · obtain ⟨cur, hc⟩ := h.hh
    exact ⟨cur.setIfInBounds k (.int .i64 ((cnt (G0.take i) k : Int) + 1)), by
      simp only [World.setCell]
      rw [Array.getElem?_modify, if_pos rfl, hc]
      rfl⟩
  · rw [ht, cnt_snoc]
    by_cases hjk : k = j
    · subst hjk
      rw [if_pos rfl, World.cell?_setCell_same _ _ _ (h.ct k hj)]
      simp
    · rw [if_neg hjk, World.cell?_setCell_other _ _ _ _ (by simp [hjk]), Nat.add_zero]
      exact h.ct j hj
theorem make_ints (w : World) (n : Nat) (hn : n ≤ 1000000) : (Instr.makeSlice 43 (.int .i64 (n : Int)) (.int .i64 (n : Int))).run Try.prog w = .ok (.slice (some ⟨w.heap.size, 0, none⟩) n n) (w.alloc (.cells (madeCells #[.int .i64 0] n) 3)) ∧
    ∀ es, (Instr.makeSlice 43 (.int .i64 (n : Int)) (.int .i64 (n : Int))).events Try.prog w es = es := by
  obtain ⟨i, hi⟩ : ∃ i, Try.prog.info? 3 = some i := ⟨_, rfl⟩
  have h3 : i.zero = some (.int .i64 0) ∧ i.size = 1 ∧ i.bytes = 8 := by
    have : Try.prog.info? 3 = some i := hi
    revert hi
    intro hi
    cases hi
    exact ⟨by kernel_rfl, by kernel_rfl, by kernel_rfl⟩
  obtain ⟨hz, h4, h5⟩ := h3
  refine ⟨?_, fun es => events_make (P := Try.prog) w 43 3 i (.int .i64 0) Try.underlying43 hi hz .i64 .i64 (n : Int) (n : Int) (by omega) (Int.le_refl _) (by rw [h5]; omega) (by omega) (by rw [h5]; omega) es⟩
  rw [run_make (P := Try.prog) w 43 3 i (.int .i64 0) Try.underlying43 hi hz .i64 .i64 (n : Int) (n : Int) (by omega) (Int.le_refl _) (by rw [h5]; omega) (by omega), h4]
  simp only [Int.toNat_natCast, Nat.mul_one]
  rfl
noncomputable def bodyFr : Code := (Try.f11).body.getD .skip
def InvF (Old : Nat → Prop) (w : World) (tb : Nat) (a : Option Addr) (c : Nat) (G0 : List (Nat × List Int)) (la : Option Addr) (lc : Nat) (L : List (List (List Int))) (ac : Act) (w' : World) : Prop :=
  ∃ (i : Nat) (u2 u3 u4 u7 u8 u9 u10 u11 u12 u13 u14 u15 u16 u17 u18 u19 u20 u21 u22 u23 u24 u25 u26 u27 u28 u29 u30 u31 u32 u33 u34 u35 u36 u37 u38 u39 u40 u41 u42 u43 u44 u45 u46 u47 u48 u49 u50 u51 u52 u53 u54 u55 u56 u57 u58 u59 u60 u61 u62 u63 u64 u65 u66 : Value), i ≤ G0.length ∧ AtF Old w tb G0 L.length i w' ∧
    ac = ⟨#[.slice a G0.length c, .slice la L.length lc, u2, u3, u4, .slice (some ⟨tb, 0, none⟩) L.length L.length, .int .i64 (i : Int), u7, u8, u9, u10, u11, u12, u13, u14, u15, u16, u17, u18, u19, u20, u21, u22, u23, u24, u25, u26, u27, u28, u29, u30, u31, u32, u33, u34, u35, u36, u37, u38, u39, u40, u41, u42, u43, u44, u45, u46, u47, u48, u49, u50, u51, u52, u53, u54, u55, u56, u57, u58, u59, u60, u61, u62, u63, u64, u65, u66], []⟩
set_option maxRecDepth 100000 in
set_option maxHeartbeats 8000000 in
theorem fronts_ok {la : Option Addr} {ln lc : Nat} (hG : GotL Old w bs0 (.slice a n c) G0) (hR : R3 Old w (.slice la ln lc) L) (hm : Merge full G0 L) (hGl : G0.length < 1000000) (hLl : L.length ≤ 1000) (hrow : ∀ row ∈ L, row.length ≤ 1000) (hold : ∀ b, Old b → b < w.heap.size)
    (hS : ∀ w', Ext Old Old w w' → Ok Try.prog Post Old m (G (b₀.at (a₀.put ((ops₀[i₀]?).bind (·.dst)) (.bool true)) (.inRegion ops₀ rest₀ :: k₀)) cs) w') :
    Ok Try.prog Post Old m (G ((base 11).at ⟨#[.slice a n c, .slice la ln lc, undef, undef, undef, undef, undef, undef, undef, undef, undef, undef, undef, undef, undef, undef, undef, undef, undef, undef, undef, undef, undef, undef, undef, undef, undef, undef, undef, undef, undef, undef, undef, undef, undef, undef, undef, undef, undef, undef, undef, undef, undef, undef, undef, undef, undef, undef, undef, undef, undef, undef, undef, undef, undef, undef, undef, undef, undef, undef, undef, undef, undef, undef, undef, undef, undef], []⟩ [.code bodyFr]) ((b₀.at a₀ (.inRegion ops₀ (i₀ :: rest₀) :: k₀)) :: cs)) w := by
  obtain rfl := hG.len
  obtain rfl := hR.len
  simp only [bodyFr, Try.f11, Option.getD_some]
  refine Ok.step rfl (fun _ h₁ => ?_)
  obtain ⟨d, rfl⟩ := h₁
  rw [stepG_seq]
  simp only [goes_go]
  refine ⟨ok_none _, Ok.at ?_⟩
  clear d
  refine Ok.step rfl (fun _ h₁ => ?_)
  obtain ⟨d, rfl⟩ := h₁
  rw [stepG_region]
  simp only [goes_go, List.size_toArray, List.length_cons, List.length_nil, Nat.reduceAdd, Nat.zero_add, List.range, List.range.loop]
  refine ⟨ok_none _, Ok.at ?_⟩
  clear d
  refine Ok.step rfl (fun _ h₁ => ?_)
  obtain ⟨d, rfl⟩ := h₁
  refine goes_oper_k rfl rfl (by decide) (fun K hK => ?_)
  go_simp
  refine hK _ _ ⟨⟨Nat.le_refl _, fun e he => ?_⟩, Ok.at ?_⟩
  · have hm := mem_listed he
    simp [go_sem] at hm
  clear hK K d
  refine Ok.step rfl (fun _ h₁ => ?_)
  obtain ⟨d, rfl⟩ := h₁
  rw [stepG_region_end]
  simp only [goes_go]
  refine ⟨ok_none _, Ok.at ?_⟩
  clear d
  refine Ok.step rfl (fun _ h₁ => ?_)
  obtain ⟨d, rfl⟩ := h₁
  rw [stepG_seq]
  simp only [goes_go]
  refine ⟨ok_none _, Ok.at ?_⟩
  clear d
  refine Ok.step rfl (fun _ h₁ => ?_)
  obtain ⟨d, rfl⟩ := h₁
  rw [stepG_region]
  simp only [goes_go, List.size_toArray, List.length_cons, List.length_nil, Nat.reduceAdd, Nat.zero_add, List.range, List.range.loop]
  refine ⟨ok_none _, Ok.at ?_⟩
  clear d
  refine Ok.step rfl (fun _ h₁ => ?_)
  obtain ⟨d, rfl⟩ := h₁
  refine goes_oper_k rfl rfl (by decide) (fun K hK => ?_)
  go_simp
  refine hK _ _ ⟨⟨Nat.le_refl _, fun e he => ?_⟩, Ok.at ?_⟩
  · have hm := mem_listed he
    simp [go_sem] at hm
  clear hK K d
  refine Ok.step rfl (fun _ h₁ => ?_)
  obtain ⟨d, rfl⟩ := h₁
  refine goes_oper_k rfl rfl (by decide) (fun K hK => ?_)
  go_simp
  refine hK _ _ ⟨⟨Nat.le_refl _, fun e he => ?_⟩, Ok.at ?_⟩
  · have hm := mem_listed he
    simp [go_sem] at hm
  clear hK K d
  refine Ok.opv rfl rfl (by decide) (fun _ h₁ => ?_)
  obtain ⟨d, rfl⟩ := h₁
  have hmk := (make_ints (w.at d) L.length (by omega)).1
  have hme := (make_ints (w.at d) L.length (by omega)).2 #[]
  refine ⟨.slice (some ⟨w.heap.size, 0, none⟩) L.length L.length, _, run_v hmk, by simp, fun e he => ?_, ?_⟩
  · have he' : e ∈ (Instr.makeSlice 43 (.int .i64 (L.length : Int)) (.int .i64 (L.length : Int))).events Try.prog (w.at d) #[] := by
      rw [← ev_v hmk]; exact he
    rw [hme] at he'
    simp at he'
  have hat : AtF Old w w.heap.size G0 L.length 0 (w.alloc (.cells (madeCells #[.int .i64 0] L.length) 3)) := by
    refine ⟨Ext.alloc Old w _, Nat.le_refl _, ⟨_, heap_alloc_new w _⟩, fun k hk => ?_⟩
    rw [World.cell?_alloc_new]
    simp [madeCells, hk, cnt, Nat.mod_one]
  rw [show (w.at d).alloc (.cells (madeCells #[.int .i64 0] L.length) 3) = (w.alloc (.cells (madeCells #[.int .i64 0] L.length) 3)).at d from rfl]
  refine Ok.at ?_
  obtain ⟨w1, hw1⟩ : ∃ w1, w1 = w.alloc (.cells (madeCells #[.int .i64 0] L.length) 3) := ⟨_, rfl⟩
  rw [← hw1] at hat ⊢
  obtain ⟨tb, htb⟩ : ∃ tb, tb = w.heap.size := ⟨_, rfl⟩
  rw [← htb] at hat ⊢
  clear hw1 htb hmk hme d
  walk_nrm
  refine Ok.step rfl (fun _ h₁ => ?_)
  obtain ⟨d, rfl⟩ := h₁
  refine goes_oper_k rfl rfl (by decide) (fun K hK => ?_)
  go_simp
  refine hK _ _ ⟨⟨Nat.le_refl _, fun e he => ?_⟩, Ok.at ?_⟩
  · have hm := mem_listed he
    simp [go_sem] at hm
  clear hK K d
  refine Ok.step rfl (fun _ h₁ => ?_)
  obtain ⟨d, rfl⟩ := h₁
  rw [stepG_region_end]
  simp only [goes_go]
  refine ⟨ok_none _, Ok.at ?_⟩
  clear d
  refine Ok.step rfl (fun _ h₁ => ?_)
  obtain ⟨d, rfl⟩ := h₁
  rw [stepG_seq]
  simp only [goes_go]
  refine ⟨ok_none _, Ok.at ?_⟩
  clear d
  refine Ok.step rfl (fun _ h₁ => ?_)
  obtain ⟨d, rfl⟩ := h₁
  rw [stepG_seq]
  simp only [goes_go]
  refine ⟨ok_none _, Ok.at ?_⟩
  clear d
  refine Ok.step rfl (fun _ h₁ => ?_)
  obtain ⟨d, rfl⟩ := h₁
  rw [stepG_region]
  simp only [goes_go, List.size_toArray, List.length_cons, List.length_nil, Nat.reduceAdd, Nat.zero_add, List.range, List.range.loop]
  refine ⟨ok_none _, Ok.at ?_⟩
  clear d
  refine Ok.step rfl (fun _ h₁ => ?_)
  obtain ⟨d, rfl⟩ := h₁
  refine goes_oper_k rfl rfl (by decide) (fun K hK => ?_)
  go_simp
  refine hK _ _ ⟨⟨Nat.le_refl _, fun e he => ?_⟩, Ok.at ?_⟩
  · have hm := mem_listed he
    simp [go_sem] at hm
  clear hK K d
  refine Ok.step rfl (fun _ h₁ => ?_)
  obtain ⟨d, rfl⟩ := h₁
  rw [stepG_region_end]
  simp only [goes_go]
  refine ⟨ok_none _, Ok.at ?_⟩
  clear d
  refine Ok.step rfl (fun _ h₁ => ?_)
  obtain ⟨d, rfl⟩ := h₁
  rw [stepG_block]
  simp only [goes_go]
  refine ⟨ok_none _, Ok.at ?_⟩
  clear d
  refine Ok.loop (InvF Old w tb a c G0 la lc L) (MuS G0.length 6) ⟨0, _, _, _, _, _, _, _, _, _, _, _, _, _, _, _, _, _, _, _, _, _, _, _, _, _, _, _, _, _, _, _, _, _, _, _, _, _, _, _, _, _, _, _, _, _, _, _, _, _, _, _, _, _, _, _, _, _, _, _, _, _, _, _, Nat.zero_le _, hat, rfl⟩ ?_
  clear hat
  rintro _ wr ⟨i, u2, u3, u4, u7, u8, u9, u10, u11, u12, u13, u14, u15, u16, u17, u18, u19, u20, u21, u22, u23, u24, u25, u26, u27, u28, u29, u30, u31, u32, u33, u34, u35, u36, u37, u38, u39, u40, u41, u42, u43, u44, u45, u46, u47, u48, u49, u50, u51, u52, u53, u54, u55, u56, u57, u58, u59, u60, u61, u62, u63, u64, u65, u66, hi, hat, rfl⟩ hN
  refine Ok.step rfl (fun _ h₁ => ?_)
  obtain ⟨d, rfl⟩ := h₁
  rw [stepG_seq]
  simp only [goes_go]
  refine ⟨ok_none _, Ok.at ?_⟩
  clear d
  refine Ok.step rfl (fun _ h₁ => ?_)
  obtain ⟨d, rfl⟩ := h₁
  rw [stepG_seq]
  simp only [goes_go]
  refine ⟨ok_none _, Ok.at ?_⟩
  clear d
  refine Ok.step rfl (fun _ h₁ => ?_)
  obtain ⟨d, rfl⟩ := h₁
  rw [stepG_region]
  simp only [goes_go, List.size_toArray, List.length_cons, List.length_nil, Nat.reduceAdd, Nat.zero_add, List.range, List.range.loop]
  refine ⟨ok_none _, Ok.at ?_⟩
  clear d
  refine Ok.step rfl (fun _ h₁ => ?_)
  obtain ⟨d, rfl⟩ := h₁
  refine goes_oper_k rfl rfl (by decide) (fun K hK => ?_)
  go_simp
  refine hK _ _ ⟨⟨Nat.le_refl _, fun e he => ?_⟩, Ok.at ?_⟩
  · have hm := mem_listed he
    simp [go_sem] at hm
  clear hK K d
  refine Ok.step rfl (fun _ h₁ => ?_)
  obtain ⟨d, rfl⟩ := h₁
  refine goes_oper_k rfl rfl (by decide) (fun K hK => ?_)
  go_simp
  refine hK _ _ ⟨⟨Nat.le_refl _, fun e he => ?_⟩, Ok.at ?_⟩
  · have hm := mem_listed he
    simp [go_sem] at hm
  clear hK K d
  refine Ok.step rfl (fun _ h₁ => ?_)
  obtain ⟨d, rfl⟩ := h₁
  refine goes_oper_k rfl rfl (by decide) (fun K hK => ?_)
  go_simp
  refine hK _ _ ⟨⟨Nat.le_refl _, fun e he => ?_⟩, Ok.at ?_⟩
  · have hm := mem_listed he
    simp [go_sem] at hm
  clear hK K d
  cases hlt : decide (i < G0.length)
  ·
    have hge : G0.length ≤ i := Nat.le_of_not_lt (of_decide_eq_false hlt)
    refine Ok.step rfl (fun _ h₁ => ?_)
    obtain ⟨d, rfl⟩ := h₁
    refine goes_oper_k rfl rfl (by decide) (fun K hK => ?_)
    have f0 := hlt
    go_simp
    refine hK _ _ ⟨⟨Nat.le_refl _, fun e he => ?_⟩, Ok.at ?_⟩
    · have hm := mem_listed he
      simp [go_sem, f0] at hm
    clear hK K f0 d
    refine Ok.step rfl (fun _ h₁ => ?_)
    obtain ⟨d, rfl⟩ := h₁
    rw [stepG_region_end]
    simp only [goes_go]
    refine ⟨ok_none _, Ok.at ?_⟩
    clear d
    refine Ok.step rfl (fun _ h₁ => ?_)
    obtain ⟨d, rfl⟩ := h₁
    rw [stepG_cond (t := false) rfl]
    simp only [goes_go, if_true, if_false, Bool.false_eq_true, ↓reduceIte]
    refine ⟨ok_none _, Ok.at ?_⟩
    clear d
    refine Ok.step rfl (fun _ h₁ => ?_)
    obtain ⟨d, rfl⟩ := h₁
    refine goes_exit rfl ?_
    refine ⟨ok_none _, Ok.at ?_⟩
    clear d
    refine Ok.step rfl (fun _ h₁ => ?_)
    obtain ⟨d, rfl⟩ := h₁
    rw [stepG_seq]
    simp only [goes_go]
    refine ⟨ok_none _, Ok.at ?_⟩
    clear d
    refine Ok.step rfl (fun _ h₁ => ?_)
    obtain ⟨d, rfl⟩ := h₁
    rw [stepG_region]
    simp only [goes_go, List.size_toArray, List.length_cons, List.length_nil, Nat.reduceAdd, Nat.zero_add, List.range, List.range.loop]
    refine ⟨ok_none _, Ok.at ?_⟩
    clear d
    refine Ok.step rfl (fun _ h₁ => ?_)
    obtain ⟨d, rfl⟩ := h₁
    refine goes_oper_k rfl rfl (by decide) (fun K hK => ?_)
    go_simp
    refine hK _ _ ⟨⟨Nat.le_refl _, fun e he => ?_⟩, Ok.at ?_⟩
    · have hm := mem_listed he
      simp [go_sem] at hm
    clear hK K d
    refine Ok.step rfl (fun _ h₁ => ?_)
    obtain ⟨d, rfl⟩ := h₁
    rw [stepG_region_end]
    simp only [goes_go]
    refine ⟨ok_none _, Ok.at ?_⟩
    clear d
    refine Ok.step rfl (fun _ h₁ => ?_)
    obtain ⟨d, rfl⟩ := h₁
    rw [stepG_ret']
    simp only [goes_go]
    refine ⟨ok_none _, Ok.at ?_⟩
    clear d
    refine Ok.step rfl (fun _ h₁ => ?_)
    obtain ⟨d, rfl⟩ := h₁
    refine goes_leave1 rfl rfl Try.func11 rfl ⟨ok_none _, Ok.at ?_⟩
    clear d
    walk_nrm
    exact hS _ hat.e
  ·
    have hlt' : i < G0.length := of_decide_eq_true hlt
    obtain ⟨⟨k, bs⟩, hGi⟩ : ∃ y, G0[i]? = some y := ⟨_, List.getElem?_eq_getElem hlt'⟩
    obtain ⟨g, va, vc, hga, hgb, hgo, hgk, hgv, hgr⟩ := (hG.ext hat.e).at hGi
    subst hga
    have hsp : G0 = G0.take i ++ (k, bs) :: G0.drop (i + 1) := by
      have e1 := (List.take_append_drop i G0).symm
      rw [List.drop_eq_getElem_cons hlt'] at e1
      rw [List.getElem?_eq_getElem hlt'] at hGi
      rwa [Option.some.inj hGi] at e1
    obtain ⟨hk, hcn, hbs⟩ := Merge.next (hsp ▸ hm)
    have hM : L[k]? = some L[k] := List.getElem?_eq_getElem hk
    obtain ⟨M, hMe⟩ : ∃ M, L[k] = M := ⟨_, rfl⟩
    have hMl := hrow M (hMe ▸ List.getElem_mem hk)
    simp only [hMe] at hM hcn hbs
    obtain ⟨b, off, ra, rc, hla, hb, ho, hc1, hR2⟩ := (hR.ext hat.e).at hM
    subst hla
    have hB : M[cnt (G0.take i) k]? = some bs := by rw [List.getElem?_eq_getElem hcn, hbs]
    obtain ⟨b2, off2, ra2, rc2, hra, hb2, ho2, hc2, hR1⟩ := hR2.at hB
    subst hra
    have hct := hat.ct k hk
    have hfr := hat.fr k
    have htl := hat.lt
    have hto : ¬ Old tb := fun x => by have := hold _ x; have := hat.t0; omega
    have hat' := hat.put hGi hk
    obtain ⟨ck, hck⟩ : ∃ ck, ck = cnt (G0.take i) k := ⟨_, rfl⟩
    rw [← hck] at hct hc2 hcn hat'
    clear hsp hbs hMe hB hck
    have q1 : (0 : Int) ≤ (i : Int) ∧ (i : Int) < (G0.length : Int) := ⟨by omega, by omega⟩
    have q2 : (0 : Int) ≤ (k : Int) ∧ (k : Int) < (L.length : Int) := ⟨by omega, by omega⟩
    have q3 : (0 : Int) ≤ (ck : Int) ∧ (ck : Int) < (M.length : Int) := ⟨by omega, by omega⟩
    have d1 : decide ((k : Int) < (0 : Int)) = false := decide_eq_false (by omega)
    have d2 : decide (L.length ≤ k) = false := decide_eq_false (by omega)
    have d3 : decide (M.length ≤ ck) = false := decide_eq_false (by omega)
    have d4 : decide ((L.length : Int) ≤ (k : Int)) = false := decide_eq_false (by omega)
    have d5 : decide ((M.length : Int) ≤ (ck : Int)) = false := decide_eq_false (by omega)
    have q5 := wrap_succ (i := i) (by omega)
    have q6 := wrap_succ (i := ck) (by omega)
    refine Ok.step rfl (fun _ h₁ => ?_)
    obtain ⟨d, rfl⟩ := h₁
    refine goes_oper_k rfl rfl (by decide) (fun K hK => ?_)
    have f0 := hlt
    go_simp
    refine hK _ _ ⟨⟨Nat.le_refl _, fun e he => ?_⟩, Ok.at ?_⟩
    · have hm := mem_listed he
      simp [go_sem, f0] at hm
    clear hK K f0 d
    refine Ok.step rfl (fun _ h₁ => ?_)
    obtain ⟨d, rfl⟩ := h₁
    rw [stepG_region_end]
    simp only [goes_go]
    refine ⟨ok_none _, Ok.at ?_⟩
    clear d
    refine Ok.step rfl (fun _ h₁ => ?_)
    obtain ⟨d, rfl⟩ := h₁
    rw [stepG_cond (t := true) rfl]
    simp only [goes_go, if_true, if_false, Bool.false_eq_true, ↓reduceIte]
    refine ⟨ok_none _, Ok.at ?_⟩
    clear d
    refine Ok.step rfl (fun _ h₁ => ?_)
    obtain ⟨d, rfl⟩ := h₁
    rw [stepG_skip]
    simp only [goes_go]
    refine ⟨ok_none _, Ok.at ?_⟩
    clear d
    refine Ok.step rfl (fun _ h₁ => ?_)
    obtain ⟨d, rfl⟩ := h₁
    rw [stepG_seq]
    simp only [goes_go]
    refine ⟨ok_none _, Ok.at ?_⟩
    clear d
    refine Ok.step rfl (fun _ h₁ => ?_)
    obtain ⟨d, rfl⟩ := h₁
    rw [stepG_block]
    simp only [goes_go]
    refine ⟨ok_none _, Ok.at ?_⟩
    clear d
    refine Ok.step rfl (fun _ h₁ => ?_)
    obtain ⟨d, rfl⟩ := h₁
    rw [stepG_seq]
    simp only [goes_go]
    refine ⟨ok_none _, Ok.at ?_⟩
    clear d
    refine Ok.step rfl (fun _ h₁ => ?_)
    obtain ⟨d, rfl⟩ := h₁
    rw [stepG_region]
    simp only [goes_go, List.size_toArray, List.length_cons, List.length_nil, Nat.reduceAdd, Nat.zero_add, List.range, List.range.loop]
    refine ⟨ok_none _, Ok.at ?_⟩
    clear d
    refine Ok.step rfl (fun _ h₁ => ?_)
    obtain ⟨d, rfl⟩ := h₁
    refine goes_oper_k rfl rfl (by decide) (fun K hK => ?_)
    go_simp
    refine hK _ _ ⟨⟨Nat.le_refl _, fun e he => ?_⟩, Ok.at ?_⟩
    · have hm := mem_listed he
      simp [go_sem] at hm
    clear hK K d
    refine Ok.step rfl (fun _ h₁ => ?_)
    obtain ⟨d, rfl⟩ := h₁
    refine goes_oper_k rfl rfl (by decide) (fun K hK => ?_)
    go_simp
    refine hK _ _ ⟨⟨Nat.le_refl _, fun e he => ?_⟩, Ok.at ?_⟩
    · have hm := mem_listed he
      simp [go_sem] at hm
    clear hK K d
    refine Ok.step rfl (fun _ h₁ => ?_)
    obtain ⟨d, rfl⟩ := h₁
    refine goes_oper_k rfl rfl (by decide) (fun K hK => ?_)
    have f0 := q1
    go_simp
    refine hK _ _ ⟨⟨Nat.le_refl _, fun e he => ?_⟩, Ok.at ?_⟩
    · have hm := mem_listed he
      simp [go_sem, f0] at hm
    clear hK K f0 d
    refine Ok.step rfl (fun _ h₁ => ?_)
    obtain ⟨d, rfl⟩ := h₁
    refine goes_oper_k rfl rfl (by decide) (fun K hK => ?_)
    go_simp
    refine hK _ _ ⟨⟨Nat.le_refl _, fun e he => ?_⟩, Ok.at ?_⟩
    · have hm := mem_listed he
      simp [go_sem] at hm
    clear hK K d
    refine Ok.step rfl (fun _ h₁ => ?_)
    obtain ⟨d, rfl⟩ := h₁
    refine goes_oper_k rfl rfl (by decide) (fun K hK => ?_)
    have f0 : (wr.at d).cell? ⟨g, i * 2, none⟩ = some (.int .i64 (k : Int)) := hgk
    go_simp
    refine hK _ _ ⟨⟨Nat.le_refl _, fun e he => ?_⟩, Ok.at ?_⟩
    · have hm := mem_listed he
      simp [go_sem, f0] at hm
      subst hm
      exact evO_cell hgb hgo
    clear hK K f0 d
    refine Ok.step rfl (fun _ h₁ => ?_)
    obtain ⟨d, rfl⟩ := h₁
    refine goes_oper_k rfl rfl (by decide) (fun K hK => ?_)
    go_simp
    refine hK _ _ ⟨⟨Nat.le_refl _, fun e he => ?_⟩, Ok.at ?_⟩
    · have hm := mem_listed he
      simp [go_sem] at hm
    clear hK K d
    refine Ok.step rfl (fun _ h₁ => ?_)
    obtain ⟨d, rfl⟩ := h₁
    rw [stepG_region_end]
    simp only [goes_go]
    refine ⟨ok_none _, Ok.at ?_⟩
    clear d
    refine Ok.step rfl (fun _ h₁ => ?_)
    obtain ⟨d, rfl⟩ := h₁
    rw [stepG_seq]
    simp only [goes_go]
    refine ⟨ok_none _, Ok.at ?_⟩
    clear d
    refine Ok.step rfl (fun _ h₁ => ?_)
    obtain ⟨d, rfl⟩ := h₁
    rw [stepG_seq]
    simp only [goes_go]
    refine ⟨ok_none _, Ok.at ?_⟩
    clear d
    refine Ok.vals (by first | kernel_rfl | rfl) (by decide) ?_
    simp only [List.size_toArray, List.length_cons, List.length_nil, Nat.reduceAdd, Nat.zero_add]
    co_applyP anyO_take (i := 0) rfl (by first | kernel_rfl | decide +kernel) (by first | kernel_rfl | decide +kernel) (by first | kernel_rfl | decide +kernel) (.inl ⟨by rfl, .inl fun d => ⟨run_eq_of ?run0, ?ev0⟩⟩) ?rest0
    case run0 =>
      intro K hK
      go_simp
      exact hK
    case ev0 =>
      intro e he
      simp [go_sem] at he
    walk_nrm
    co_applyP anyO_take (i := 1) rfl (by first | kernel_rfl | decide +kernel) (by first | kernel_rfl | decide +kernel) (by first | kernel_rfl | decide +kernel) (.inl ⟨by rfl, .inl fun d => ⟨run_eq_of ?run1, ?ev1⟩⟩) ?rest1
    case run1 =>
      intro K hK
      go_simp
      exact hK
    case ev1 =>
      intro e he
      simp [go_sem, d1] at he
    walk_nrm
    co_applyP anyO_take (i := 2) rfl (by first | kernel_rfl | decide +kernel) (by first | kernel_rfl | decide +kernel) (by first | kernel_rfl | decide +kernel) (.inl ⟨by rfl, .inl fun d => ⟨run_eq_of ?run2, ?ev2⟩⟩) ?rest2
    case run2 =>
      intro K hK
      go_simp
      exact hK
    case ev2 =>
      intro e he
      simp [go_sem] at he
    walk_nrm
    co_applyP anyO_take (i := 3) rfl (by first | kernel_rfl | decide +kernel) (by first | kernel_rfl | decide +kernel) (by first | kernel_rfl | decide +kernel) (.inl ⟨by rfl, .inl fun d => ⟨run_eq_of ?run3, ?ev3⟩⟩) ?rest3
    case run3 =>
      intro K hK
      go_simp
      exact hK
    case ev3 =>
      intro e he
      simp [go_sem] at he
    walk_nrm
    co_applyP anyO_take (i := 4) rfl (by first | kernel_rfl | decide +kernel) (by first | kernel_rfl | decide +kernel) (by first | kernel_rfl | decide +kernel) (.inl ⟨by rfl, .inl fun d => ⟨run_eq_of ?run4, ?ev4⟩⟩) ?rest4
    case run4 =>
      intro K hK
      go_simp
      exact hK
    case ev4 =>
      intro e he
      simp [go_sem] at he
    walk_nrm
    co_applyP anyO_take (i := 5) rfl (by first | kernel_rfl | decide +kernel) (by first | kernel_rfl | decide +kernel) (by first | kernel_rfl | decide +kernel) (.inl ⟨by rfl, .inl fun d => ⟨run_eq_of ?run5, ?ev5⟩⟩) ?rest5
    case run5 =>
      intro K hK
      go_simp
      exact hK
    case ev5 =>
      intro e he
      simp [go_sem] at he
    walk_nrm
    co_applyP anyO_take (i := 6) rfl (by first | kernel_rfl | decide +kernel) (by first | kernel_rfl | decide +kernel) (by first | kernel_rfl | decide +kernel) (.inl ⟨by rfl, .inl fun d => ⟨run_eq_of ?run6, ?ev6⟩⟩) ?rest6
    case run6 =>
      intro K hK
      go_simp
      exact hK
    case ev6 =>
      intro e he
      simp [go_sem, d2] at he
    walk_nrm
    co_applyP anyO_take (i := 7) rfl (by first | kernel_rfl | decide +kernel) (by first | kernel_rfl | decide +kernel) (by first | kernel_rfl | decide +kernel) (.inl ⟨by rfl, .inl fun d => ⟨run_eq_of ?run7, ?ev7⟩⟩) ?rest7
    case run7 =>
      intro K hK
      go_simp
      exact hK
    case ev7 =>
      intro e he
      simp [go_sem] at he
    walk_nrm
    co_applyP anyO_take (i := 8) rfl (by first | kernel_rfl | decide +kernel) (by first | kernel_rfl | decide +kernel) (by first | kernel_rfl | decide +kernel) (.inl ⟨by rfl, .inl fun d => ⟨run_eq_of ?run8, ?ev8⟩⟩) ?rest8
    case run8 =>
      intro K hK
      go_simp
      exact hK
    case ev8 =>
      intro e he
      simp [go_sem] at he
    walk_nrm
    co_applyP anyO_take (i := 9) rfl (by first | kernel_rfl | decide +kernel) (by first | kernel_rfl | decide +kernel) (by first | kernel_rfl | decide +kernel) (.inl ⟨by rfl, .inl fun d => ⟨run_eq_of ?run9, ?ev9⟩⟩) ?rest9
    case run9 =>
      intro K hK
      go_simp
      exact hK
    case ev9 =>
      intro e he
      simp [go_sem] at he
    walk_nrm
    co_applyP anyO_take (i := 10) rfl (by first | kernel_rfl | decide +kernel) (by first | kernel_rfl | decide +kernel) (by first | kernel_rfl | decide +kernel) (.inl ⟨by rfl, .inl fun d => ⟨run_eq_of ?run10, ?ev10⟩⟩) ?rest10
    case run10 =>
      intro K hK
      go_simp
      exact hK
    case ev10 =>
      intro e he
      simp [go_sem] at he
    walk_nrm
    co_applyP anyO_take (i := 11) rfl (by first | kernel_rfl | decide +kernel) (by first | kernel_rfl | decide +kernel) (by first | kernel_rfl | decide +kernel) (.inl ⟨by rfl, .inl fun d => ⟨run_eq_of ?run11, ?ev11⟩⟩) ?rest11
    case run11 =>
      intro K hK
      go_simp
      exact hK
    case ev11 =>
      intro e he
      simp [go_sem, q2] at he
    walk_nrm
    co_applyP anyO_take (i := 12) rfl (by first | kernel_rfl | decide +kernel) (by first | kernel_rfl | decide +kernel) (by first | kernel_rfl | decide +kernel) (.inl ⟨by rfl, .inl fun d => ⟨run_eq_of ?run12, ?ev12⟩⟩) ?rest12
    case run12 =>
      intro K hK
      have f0 : (wr.at d).cell? ⟨tb, k, none⟩ = some (.int .i64 (ck : Int)) := hct
      go_simp
      exact hK
    case ev12 =>
      intro e he
      have f0 : (wr.at d).cell? ⟨tb, k, none⟩ = some (.int .i64 (ck : Int)) := hct
      simp [go_sem, f0] at he
      subst he
      exact evO_cell htl hto
    walk_nrm
    co_applyP anyO_take (i := 13) rfl (by first | kernel_rfl | decide +kernel) (by first | kernel_rfl | decide +kernel) (by first | kernel_rfl | decide +kernel) (.inl ⟨by rfl, .inl fun d => ⟨run_eq_of ?run13, ?ev13⟩⟩) ?rest13
    case run13 =>
      intro K hK
      go_simp
      exact hK
    case ev13 =>
      intro e he
      simp [go_sem] at he
    walk_nrm
    co_applyP anyO_take (i := 14) rfl (by first | kernel_rfl | decide +kernel) (by first | kernel_rfl | decide +kernel) (by first | kernel_rfl | decide +kernel) (.inl ⟨by rfl, .inl fun d => ⟨run_eq_of ?run14, ?ev14⟩⟩) ?rest14
    case run14 =>
      intro K hK
      go_simp
      exact hK
    case ev14 =>
      intro e he
      simp [go_sem] at he
    walk_nrm
    co_applyP anyO_take (i := 15) rfl (by first | kernel_rfl | decide +kernel) (by first | kernel_rfl | decide +kernel) (by first | kernel_rfl | decide +kernel) (.inl ⟨by rfl, .inl fun d => ⟨run_eq_of ?run15, ?ev15⟩⟩) ?rest15
    case run15 =>
      intro K hK
      go_simp
      exact hK
    case ev15 =>
      intro e he
      simp [go_sem, q2] at he
    walk_nrm
    co_applyP anyO_take (i := 16) rfl (by first | kernel_rfl | decide +kernel) (by first | kernel_rfl | decide +kernel) (by first | kernel_rfl | decide +kernel) (.inl ⟨by rfl, .inl fun d => ⟨run_eq_of ?run16, ?ev16⟩⟩) ?rest16
    case run16 =>
      intro K hK
      have f0 : (wr.at d).cell? ⟨b, off + k, none⟩ = some (.slice (some ⟨b2, off2, none⟩) M.length rc) := hc1
      go_simp
      exact hK
    case ev16 =>
      intro e he
      have f0 : (wr.at d).cell? ⟨b, off + k, none⟩ = some (.slice (some ⟨b2, off2, none⟩) M.length rc) := hc1
      simp [go_sem, f0] at he
      subst he
      exact evO_cell hb ho
    walk_nrm
    co_applyP anyO_take (i := 17) rfl (by first | kernel_rfl | decide +kernel) (by first | kernel_rfl | decide +kernel) (by first | kernel_rfl | decide +kernel) (.inl ⟨by rfl, .inl fun d => ⟨run_eq_of ?run17, ?ev17⟩⟩) ?rest17
    case run17 =>
      intro K hK
      go_simp
      exact hK
    case ev17 =>
      intro e he
      simp [go_sem] at he
    walk_nrm
    co_applyP anyO_take (i := 18) rfl (by first | kernel_rfl | decide +kernel) (by first | kernel_rfl | decide +kernel) (by first | kernel_rfl | decide +kernel) (.inl ⟨by rfl, .inl fun d => ⟨run_eq_of ?run18, ?ev18⟩⟩) ?rest18
    case run18 =>
      intro K hK
      go_simp
      exact hK
    case ev18 =>
      intro e he
      simp [go_sem, d3] at he
    walk_nrm
    co_applyP anyO_take (i := 19) rfl (by first | kernel_rfl | decide +kernel) (by first | kernel_rfl | decide +kernel) (by first | kernel_rfl | decide +kernel) (.inl ⟨by rfl, .inl fun d => ⟨run_eq_of ?run19, ?ev19⟩⟩) ?rest19
    case run19 =>
      intro K hK
      go_simp
      exact hK
    case ev19 =>
      intro e he
      simp [go_sem] at he
    walk_nrm
    co_applyP anyO_take (i := 20) rfl (by first | kernel_rfl | decide +kernel) (by first | kernel_rfl | decide +kernel) (by first | kernel_rfl | decide +kernel) (.inl ⟨by rfl, .inl fun d => ⟨run_eq_of ?run20, ?ev20⟩⟩) ?rest20
    case run20 =>
      intro K hK
      go_simp
      exact hK
    case ev20 =>
      intro e he
      simp [go_sem] at he
    walk_nrm
    co_applyP anyO_take (i := 21) rfl (by first | kernel_rfl | decide +kernel) (by first | kernel_rfl | decide +kernel) (by first | kernel_rfl | decide +kernel) (.inl ⟨by rfl, .inl fun d => ⟨run_eq_of ?run21, ?ev21⟩⟩) ?rest21
    case run21 =>
      intro K hK
      go_simp
      exact hK
    case ev21 =>
      intro e he
      simp [go_sem] at he
    walk_nrm
    co_applyP anyO_take (i := 22) rfl (by first | kernel_rfl | decide +kernel) (by first | kernel_rfl | decide +kernel) (by first | kernel_rfl | decide +kernel) (.inl ⟨by rfl, .inl fun d => ⟨run_eq_of ?run22, ?ev22⟩⟩) ?rest22
    case run22 =>
      intro K hK
      go_simp
      exact hK
    case ev22 =>
      intro e he
      simp [go_sem] at he
    walk_nrm
    co_applyP anyO_take (i := 23) rfl (by first | kernel_rfl | decide +kernel) (by first | kernel_rfl | decide +kernel) (by first | kernel_rfl | decide +kernel) (.inl ⟨by rfl, .inl fun d => ⟨run_eq_of ?run23, ?ev23⟩⟩) ?rest23
    case run23 =>
      intro K hK
      go_simp
      exact hK
    case ev23 =>
      intro e he
      simp [go_sem, q1] at he
    walk_nrm
    co_applyP anyO_take (i := 24) rfl (by first | kernel_rfl | decide +kernel) (by first | kernel_rfl | decide +kernel) (by first | kernel_rfl | decide +kernel) (.inl ⟨by rfl, .inl fun d => ⟨run_eq_of ?run24, ?ev24⟩⟩) ?rest24
    case run24 =>
      intro K hK
      go_simp
      exact hK
    case ev24 =>
      intro e he
      simp [go_sem] at he
    walk_nrm
    co_applyP anyO_take (i := 25) rfl (by first | kernel_rfl | decide +kernel) (by first | kernel_rfl | decide +kernel) (by first | kernel_rfl | decide +kernel) (.inl ⟨by rfl, .inl fun d => ⟨run_eq_of ?run25, ?ev25⟩⟩) ?rest25
    case run25 =>
      intro K hK
      have f0 : (wr.at d).cell? ⟨g, i * 2 + 1, none⟩ = some (.slice va bs.length vc) := hgv
      go_simp
      exact hK
    case ev25 =>
      intro e he
      have f0 : (wr.at d).cell? ⟨g, i * 2 + 1, none⟩ = some (.slice va bs.length vc) := hgv
      simp [go_sem, f0] at he
      subst he
      exact evO_cell hgb hgo
    walk_nrm
    co_applyP anyO_take (i := 26) rfl (by first | kernel_rfl | decide +kernel) (by first | kernel_rfl | decide +kernel) (by first | kernel_rfl | decide +kernel) (.inl ⟨by rfl, .inl fun d => ⟨run_eq_of ?run26, ?ev26⟩⟩) ?rest26
    case run26 =>
      intro K hK
      go_simp
      exact hK
    case ev26 =>
      intro e he
      simp [go_sem] at he
    walk_nrm
    co_applyP anyO_take (i := 27) rfl (by first | kernel_rfl | decide +kernel) (by first | kernel_rfl | decide +kernel) (by first | kernel_rfl | decide +kernel) (.inl ⟨by rfl, .inl fun d => ⟨run_eq_of ?run27, ?ev27⟩⟩) ?rest27
    case run27 =>
      intro K hK
      go_simp
      exact hK
    case ev27 =>
      intro e he
      simp [go_sem] at he
    walk_nrm
    co_applyP anyO_take (i := 28) rfl (by first | kernel_rfl | decide +kernel) (by first | kernel_rfl | decide +kernel) (by first | kernel_rfl | decide +kernel) (.inl ⟨by rfl, .inl fun d => ⟨run_eq_of ?run28, ?ev28⟩⟩) ?rest28
    case run28 =>
      intro K hK
      go_simp
      exact hK
    case ev28 =>
      intro e he
      simp [go_sem, q2] at he
    walk_nrm
    co_applyP anyO_take (i := 29) rfl (by first | kernel_rfl | decide +kernel) (by first | kernel_rfl | decide +kernel) (by first | kernel_rfl | decide +kernel) (.inl ⟨by rfl, .inl fun d => ⟨run_eq_of ?run29, ?ev29⟩⟩) ?rest29
    case run29 =>
      intro K hK
      have f0 : (wr.at d).cell? ⟨b, off + k, none⟩ = some (.slice (some ⟨b2, off2, none⟩) M.length rc) := hc1
      go_simp
      exact hK
    case ev29 =>
      intro e he
      have f0 : (wr.at d).cell? ⟨b, off + k, none⟩ = some (.slice (some ⟨b2, off2, none⟩) M.length rc) := hc1
      simp [go_sem, f0] at he
      subst he
      exact evO_cell hb ho
    walk_nrm
    co_applyP anyO_take (i := 30) rfl (by first | kernel_rfl | decide +kernel) (by first | kernel_rfl | decide +kernel) (by first | kernel_rfl | decide +kernel) (.inl ⟨by rfl, .inl fun d => ⟨run_eq_of ?run30, ?ev30⟩⟩) ?rest30
    case run30 =>
      intro K hK
      go_simp
      exact hK
    case ev30 =>
      intro e he
      simp [go_sem] at he
    walk_nrm
    co_applyP anyO_take (i := 31) rfl (by first | kernel_rfl | decide +kernel) (by first | kernel_rfl | decide +kernel) (by first | kernel_rfl | decide +kernel) (.inl ⟨by rfl, .inl fun d => ⟨run_eq_of ?run31, ?ev31⟩⟩) ?rest31
    case run31 =>
      intro K hK
      go_simp
      exact hK
    case ev31 =>
      intro e he
      simp [go_sem] at he
    walk_nrm
    co_applyP anyO_take (i := 32) rfl (by first | kernel_rfl | decide +kernel) (by first | kernel_rfl | decide +kernel) (by first | kernel_rfl | decide +kernel) (.inl ⟨by rfl, .inl fun d => ⟨run_eq_of ?run32, ?ev32⟩⟩) ?rest32
    case run32 =>
      intro K hK
      go_simp
      exact hK
    case ev32 =>
      intro e he
      simp [go_sem, q2] at he
    walk_nrm
    co_applyP anyO_take (i := 33) rfl (by first | kernel_rfl | decide +kernel) (by first | kernel_rfl | decide +kernel) (by first | kernel_rfl | decide +kernel) (.inl ⟨by rfl, .inl fun d => ⟨run_eq_of ?run33, ?ev33⟩⟩) ?rest33
    case run33 =>
      intro K hK
      have f0 : (wr.at d).cell? ⟨tb, k, none⟩ = some (.int .i64 (ck : Int)) := hct
      go_simp
      exact hK
    case ev33 =>
      intro e he
      have f0 : (wr.at d).cell? ⟨tb, k, none⟩ = some (.int .i64 (ck : Int)) := hct
      simp [go_sem, f0] at he
      subst he
      exact evO_cell htl hto
    walk_nrm
    co_applyP anyO_take (i := 34) rfl (by first | kernel_rfl | decide +kernel) (by first | kernel_rfl | decide +kernel) (by first | kernel_rfl | decide +kernel) (.inl ⟨by rfl, .inl fun d => ⟨run_eq_of ?run34, ?ev34⟩⟩) ?rest34
    case run34 =>
      intro K hK
      go_simp
      exact hK
    case ev34 =>
      intro e he
      simp [go_sem, q3] at he
    walk_nrm
    co_applyP anyO_take (i := 35) rfl (by first | kernel_rfl | decide +kernel) (by first | kernel_rfl | decide +kernel) (by first | kernel_rfl | decide +kernel) (.inl ⟨by rfl, .inl fun d => ⟨run_eq_of ?run35, ?ev35⟩⟩) ?rest35
    case run35 =>
      intro K hK
      have f0 : (wr.at d).cell? ⟨b2, off2 + ck, none⟩ = some (.slice ra2 bs.length rc2) := hc2
      go_simp
      exact hK
    case ev35 =>
      intro e he
      have f0 : (wr.at d).cell? ⟨b2, off2 + ck, none⟩ = some (.slice ra2 bs.length rc2) := hc2
      simp [go_sem, f0] at he
      subst he
      exact evO_cell hb2 ho2
    walk_nrm
    refine anyO_take (i := 36) rfl (by first | kernel_rfl | decide +kernel) (by first | kernel_rfl | decide +kernel) (by first | kernel_rfl | decide +kernel) (yv_call (by rfl) rfl Try.func15 nm_same rfl (by simp only [List.map_toArray, List.map_cons, List.map_nil]; rfl) (same_yes hgr hR1)) ?_
    walk_nrm
    co_applyP anyO_take (i := 37) rfl (by first | kernel_rfl | decide +kernel) (by first | kernel_rfl | decide +kernel) (by first | kernel_rfl | decide +kernel) (.inl ⟨by rfl, .inl fun d => ⟨run_eq_of ?run37, ?ev37⟩⟩) ?rest37
    case run37 =>
      intro K hK
      go_simp
      exact hK
    case ev37 =>
      intro e he
      simp [go_sem] at he
    walk_nrm
    co_applyP anyO_take (i := 38) rfl (by first | kernel_rfl | decide +kernel) (by first | kernel_rfl | decide +kernel) (by first | kernel_rfl | decide +kernel) (.inl ⟨by rfl, .inl fun d => ⟨run_eq_of ?run38, ?ev38⟩⟩) ?rest38
    case run38 =>
      intro K hK
      go_simp
      exact hK
    case ev38 =>
      intro e he
      simp [go_sem] at he
    walk_nrm
    refine anyO_done (by first | kernel_rfl | decide +kernel) ?_ _
    refine Ok.step rfl (fun _ h₁ => ?_)
    obtain ⟨d, rfl⟩ := h₁
    rw [stepG_region_end]
    simp only [goes_go]
    refine ⟨ok_none _, Ok.at ?_⟩
    clear d
    refine Ok.step rfl (fun _ h₁ => ?_)
    obtain ⟨d, rfl⟩ := h₁
    rw [stepG_cond (t := false) rfl]
    simp only [goes_go, if_true, if_false, Bool.false_eq_true, ↓reduceIte]
    refine ⟨ok_none _, Ok.at ?_⟩
    clear d
    refine Ok.step rfl (fun _ h₁ => ?_)
    obtain ⟨d, rfl⟩ := h₁
    rw [stepG_skip]
    simp only [goes_go]
    refine ⟨ok_none _, Ok.at ?_⟩
    clear d
    refine Ok.step rfl (fun _ h₁ => ?_)
    obtain ⟨d, rfl⟩ := h₁
    rw [stepG_region]
    simp only [goes_go, List.size_toArray, List.length_cons, List.length_nil, Nat.reduceAdd, Nat.zero_add, List.range, List.range.loop]
    refine ⟨ok_none _, Ok.at ?_⟩
    clear d
    refine Ok.step rfl (fun _ h₁ => ?_)
    obtain ⟨d, rfl⟩ := h₁
    refine goes_oper_k rfl rfl (by decide) (fun K hK => ?_)
    go_simp
    refine hK _ _ ⟨⟨Nat.le_refl _, fun e he => ?_⟩, Ok.at ?_⟩
    · have hm := mem_listed he
      simp [go_sem] at hm
    clear hK K d
    refine Ok.step rfl (fun _ h₁ => ?_)
    obtain ⟨d, rfl⟩ := h₁
    refine goes_oper_k rfl rfl (by decide) (fun K hK => ?_)
    go_simp
    refine hK _ _ ⟨⟨Nat.le_refl _, fun e he => ?_⟩, Ok.at ?_⟩
    · have hm := mem_listed he
      simp [go_sem] at hm
    clear hK K d
    refine Ok.step rfl (fun _ h₁ => ?_)
    obtain ⟨d, rfl⟩ := h₁
    refine goes_oper_k rfl rfl (by decide) (fun K hK => ?_)
    have f0 := q2
    go_simp
    refine hK _ _ ⟨⟨Nat.le_refl _, fun e he => ?_⟩, Ok.at ?_⟩
    · have hm := mem_listed he
      simp [go_sem, f0] at hm
    clear hK K f0 d
    refine Ok.step rfl (fun _ h₁ => ?_)
    obtain ⟨d, rfl⟩ := h₁
    refine goes_oper_k rfl rfl (by decide) (fun K hK => ?_)
    have f0 : (wr.at d).cell? ⟨tb, k, none⟩ = some (.int .i64 (ck : Int)) := hct
    go_simp
    refine hK _ _ ⟨⟨Nat.le_refl _, fun e he => ?_⟩, Ok.at ?_⟩
    · have hm := mem_listed he
      simp [go_sem, f0] at hm
      subst hm
      exact evO_cell htl hto
    clear hK K f0 d
    refine Ok.step rfl (fun _ h₁ => ?_)
    obtain ⟨d, rfl⟩ := h₁
    refine goes_oper_k rfl rfl (by decide) (fun K hK => ?_)
    have f0 := q6
    go_simp
    refine hK _ _ ⟨⟨Nat.le_refl _, fun e he => ?_⟩, Ok.at ?_⟩
    · have hm := mem_listed he
      simp [go_sem, f0] at hm
    clear hK K f0 d
    refine Ok.step rfl (fun _ h₁ => ?_)
    obtain ⟨d, rfl⟩ := h₁
    refine goes_oper_k rfl rfl (by decide) (fun K hK => ?_)
    have f0 := q2
    go_simp
    refine hK _ _ ⟨⟨Nat.le_refl _, fun e he => ?_⟩, Ok.at ?_⟩
    · have hm := mem_listed he
      simp [go_sem, f0] at hm
    clear hK K f0 d
    refine Ok.opn rfl rfl (by decide) (fun _ h₁ => ?_)
    obtain ⟨d, rfl⟩ := h₁
    have f0 : (wr.at d).cell? ⟨tb, k, none⟩ = some (.int .i64 (ck : Int)) := hct
    have f1 : (wr.at d).frozen? ⟨tb, k, none⟩ = false := hfr
    refine ⟨(wr.at d).setCell ⟨tb, k, none⟩ (.int .i64 ((ck : Int) + 1)), by simp [go_sem, execOp, f0, f1], Nat.le_of_eq (aside_setCell (wr.at d) ⟨tb, k, none⟩ (.int .i64 ((ck : Int) + 1))).size.symm, fun e he => ?_, ?_⟩
    · simp [go_sem, execOp, f0, f1] at he
      subst he
      exact evO_cell (by rw [(aside_setCell (wr.at d) ⟨tb, k, none⟩ (.int .i64 ((ck : Int) + 1))).size]; exact htl) hto
    rw [show (wr.at d).setCell ⟨tb, k, none⟩ (.int .i64 ((ck : Int) + 1)) = (wr.setCell ⟨tb, k, none⟩ (.int .i64 ((ck : Int) + 1))).at d from rfl]
    refine Ok.at ?_
    clear f0 f1 d
    walk_nrm
    refine Ok.step rfl (fun _ h₁ => ?_)
    obtain ⟨d, rfl⟩ := h₁
    rw [stepG_region_end]
    simp only [goes_go]
    refine ⟨ok_none _, Ok.at ?_⟩
    clear d
    refine Ok.step rfl (fun _ h₁ => ?_)
    obtain ⟨d, rfl⟩ := h₁
    rw [stepG_inBlock]
    simp only [goes_go]
    refine ⟨ok_none _, Ok.at ?_⟩
    clear d
    refine Ok.step rfl (fun _ h₁ => ?_)
    obtain ⟨d, rfl⟩ := h₁
    rw [stepG_region]
    simp only [goes_go, List.size_toArray, List.length_cons, List.length_nil, Nat.reduceAdd, Nat.zero_add, List.range, List.range.loop]
    refine ⟨ok_none _, Ok.at ?_⟩
    clear d
    refine Ok.step rfl (fun _ h₁ => ?_)
    obtain ⟨d, rfl⟩ := h₁
    refine goes_oper_k rfl rfl (by decide) (fun K hK => ?_)
    go_simp
    refine hK _ _ ⟨⟨Nat.le_refl _, fun e he => ?_⟩, Ok.at ?_⟩
    · have hm := mem_listed he
      simp [go_sem] at hm
    clear hK K d
    refine Ok.step rfl (fun _ h₁ => ?_)
    obtain ⟨d, rfl⟩ := h₁
    refine goes_oper_k rfl rfl (by decide) (fun K hK => ?_)
    have f0 := q5
    go_simp
    refine hK _ _ ⟨⟨Nat.le_refl _, fun e he => ?_⟩, Ok.at ?_⟩
    · have hm := mem_listed he
      simp [go_sem, f0] at hm
    clear hK K f0 d
    refine Ok.step rfl (fun _ h₁ => ?_)
    obtain ⟨d, rfl⟩ := h₁
    refine goes_oper_k rfl rfl (by decide) (fun K hK => ?_)
    go_simp
    refine hK _ _ ⟨⟨Nat.le_refl _, fun e he => ?_⟩, Ok.at ?_⟩
    · have hm := mem_listed he
      simp [go_sem] at hm
    clear hK K d
    refine Ok.step rfl (fun _ h₁ => ?_)
    obtain ⟨d, rfl⟩ := h₁
    rw [stepG_region_end]
    simp only [goes_go]
    refine ⟨ok_none _, Ok.at ?_⟩
    clear d
    exact hN _ _ ⟨i + 1, _, _, _, _, _, _, _, _, _, _, _, _, _, _, _, _, _, _, _, _, _, _, _, _, _, _, _, _, _, _, _, _, _, _, _, _, _, _, _, _, _, _, _, _, _, _, _, _, _, _, _, _, _, _, _, _, _, _, _, _, _, _, _, by omega, hat', rfl⟩ (by simp [MuS]; omega)
end Go.Proofs.Ytiobhgemjbjipaa
