/- Join: the drawn region, walked. Conditions stand as premises. -/
import Derived.Test.YtiobhgemjbjipaaPmPumpJoinA
set_option linter.unusedSimpArgs false
set_option linter.unusedVariables false
namespace Go.Proofs.Ytiobhgemjbjipaa
open Go.Conc Go.RowKit
open Go.ConcN (upd upd_ne upd_same)
theorem getD_false {l : Array Bool} {i : Nat} (h : l.getD i true = false) : i < l.size ∧ l.getD i false = false := by
  rw [Array.getD_eq_getD_getElem?] at h ⊢
  by_cases hi : i < l.size
  · refine ⟨hi, ?_⟩
    rw [Array.getElem?_eq_getElem hi] at h ⊢
    simpa using h
  · rw [Array.getElem?_eq_none (by omega)] at h; cases h
variable {Post : Value → World → Prop} {Old : Nat → Prop} {m : Nat} {b : Frame} {k : List Item} {cs : List Frame} {w : World} {T0 : Array Value}
/-- What stands behind the region. -/
structure J1E (N : Nat) (w0 : World) (T0 : Array Value) (ch bx : Nat → Nat) (T : Array Value) (w : World) : Prop where
  size : T.size = T0.size
  old : ∀ j, ¬ (5 ≤ j ∧ j ≤ 7) → ¬ (11 ≤ j ∧ j ≤ 13) → T[j]? = T0[j]?
  tc : ∀ k, k < 3 → T[11 + k]? = some (.chan (some (ch k)))
  tb : ∀ k, k < 3 → T[5 + k]? = some (.pointer (some ⟨bx k, 0, none⟩))
  hsz : N ≤ w.heap.size
  low : ∀ b, b < N → w.heap[b]? = w0.heap[b]?
  hc : ∀ k, k < 3 → N ≤ ch k ∧ w.heap[ch k]? = some (.chan 0 #[] false 0 0 false)
  hb : ∀ k, k < 3 → N ≤ bx k ∧ w.heap[bx k]? = some (.cells #[.chan (some (ch k))] (tyJ k))
  dc : ∀ k k', k < 3 → k' < 3 → k ≠ k' → ch k ≠ ch k'
  db : ∀ k k', k < 3 → k' < 3 → k ≠ k' → bx k ≠ bx k'
  oo : SO w0 w
theorem evalTmp {T : Array Value} {j : Nat} {v : Value} (h : T[j]? = some v) : (⟨T, []⟩ : Act).eval (.tmp j) = v := by
  simp [Act.eval, Array.getD_eq_getD_getElem?, h]
theorem putTmp (T : Array Value) (j : Nat) (v : Value) : (⟨T, []⟩ : Act).put (some j) v = ⟨T.setIfInBounds j v, []⟩ := rfl
theorem tyJ_make (w : World) (k : Nat) (hk : k < 3) : (Instr.makeChan (tyJ k) (.int .i64 0)).run Try.prog w = .ok (.chan (some w.heap.size)) (w.alloc (.chan 0 #[] false 0 0 false)) ∧ ∀ es, (Instr.makeChan (tyJ k) (.int .i64 0)).events Try.prog w es = es := by
  match k, hk with
  | 0, _ => exact ⟨run_makeChan (t := 47) rfl rfl .i64 0 (by decide) (by decide), fun es => events_makeChan (t := 47) rfl rfl .i64 0 (by decide) (by decide) es⟩
  | 1, _ => exact ⟨run_makeChan (t := 44) rfl rfl .i64 0 (by decide) (by decide), fun es => events_makeChan (t := 44) rfl rfl .i64 0 (by decide) (by decide) es⟩
  | 2, _ => exact ⟨run_makeChan (t := 44) rfl rfl .i64 0 (by decide) (by decide), fun es => events_makeChan (t := 44) rfl rfl .i64 0 (by decide) (by decide) es⟩
theorem run_v {P : Program} {s : Sem Value} {x : Value} {w w' : World} (h : s.run P w = .ok x w') : (do pure (Next.value (← s)) : Sem Next).run P w = .ok (.value x) w' := by simp [h]
theorem run_u {P : Program} {s : Sem Unit} {w w' : World} (h : s.run P w = .ok () w') : (do s; pure Next.skip : Sem Next).run P w = .ok .skip w' := by simp [h]
theorem ev_v {P : Program} {s : Sem Value} {x : Value} {w w' : World} {es : Array Event} (h : s.run P w = .ok x w') : (do pure (Next.value (← s)) : Sem Next).events P w es = s.events P w es := by simp [go_sem, h]
theorem ev_u {P : Program} {s : Sem Unit} {w w' : World} {es : Array Event} (h : s.run P w = .ok () w') : (do s; pure Next.skip : Sem Next).events P w es = s.events P w es := by simp [go_sem, h]
theorem tyJ_alloc (w : World) (k : Nat) (hk : k < 3) : (Instr.alloc (tyJ k) true (.tuple #[])).run Try.prog w = .ok (.pointer (some ⟨w.heap.size, 0, none⟩)) (w.alloc (.cells #[.chan none] (tyJ k))) ∧ ∀ es, (Instr.alloc (tyJ k) true (.tuple #[])).events Try.prog w es = es := by
  match k, hk with
  | 0, _ => exact ⟨by simp [go_sem, tyJ], fun es => by simp [go_sem, tyJ]⟩
  | 1, _ => exact ⟨by simp [go_sem, tyJ], fun es => by simp [go_sem, tyJ]⟩
  | 2, _ => exact ⟨by simp [go_sem, tyJ], fun es => by simp [go_sem, tyJ]⟩
theorem tyJ_store (w : World) (k : Nat) (hk : k < 3) {bb c : Nat} {v : Value} (h : w.heap[bb]? = some (.cells #[v] (tyJ k))) :
    (Instr.storeAt (tyJ k) (.pointer (some ⟨bb, 0, none⟩)) (.chan (some c))).run Try.prog w = .ok () (w.setCell ⟨bb, 0, none⟩ (.chan (some c))) ∧ (Instr.storeAt (tyJ k) (.pointer (some ⟨bb, 0, none⟩)) (.chan (some c))).events Try.prog w #[] = #[⟨.cell ⟨bb, 0, none⟩, true, false⟩] := by
  have h1 : w.cell? ⟨bb, 0, none⟩ = some v := by simp [World.cell?, h]
  have h2 : w.frozen? ⟨bb, 0, none⟩ = false := by simp [World.frozen?, h]
  match k, hk with
  | 0, _ => exact ⟨by simp [go_sem, tyJ, h1, h2], by simp [go_sem, tyJ, h1, h2]; try rfl⟩
  | 1, _ => exact ⟨by simp [go_sem, tyJ, h1, h2], by simp [go_sem, tyJ, h1, h2]; try rfl⟩
  | 2, _ => exact ⟨by simp [go_sem, tyJ, h1, h2], by simp [go_sem, tyJ, h1, h2]; try rfl⟩
set_option maxRecDepth 100000 in
theorem join_r1 (hk : b.kind ≠ .early) (hT : T0.size = 29) (hold : ∀ b, Old b → b < w.heap.size) (h : ∀ ch bx T w', J1E w.heap.size w T0 ch bx T w' → Ok Try.prog Post Old m (G (b.at ⟨T, []⟩ k) cs) w') :
    Ok Try.prog Post Old m (G (b.at ⟨T0, []⟩ (.code (.region 1 opsJ1 true) :: k)) cs) w := by
  refine Ok.draw (I := fun l a w₁ => ∃ ch bx T, a = ⟨T, []⟩ ∧ J1 w.heap.size w T0 l ch bx T w₁) (by kernel_rfl) (fun w₁ h₁ => ?_) (fun l a w₁ ⟨ch, bx, T, ha, hI⟩ hr => ?_) (fun l a w₁ i rest ⟨ch, bx, T, ha, hI⟩ hi hn => ?_)
  · have hz : ∀ j, (Array.replicate opsJ1.size false).getD j false = false := fun j => by
      rw [Array.getD_eq_getD_getElem?, Array.getElem?_replicate]; split <;> rfl
    refine ⟨fun _ => 0, fun _ => 0, T0, rfl, J1.rel ⟨by simp; rfl, rfl, fun j _ _ => rfl, fun j _ e => ?_, fun j _ e => ?_, Nat.le_refl _, fun b _ => rfl, fun j _ e => ?_, fun j _ e => ?_, fun j j' _ _ _ e => ?_, fun j j' _ _ _ e => ?_, fun j _ e => ?_, .refl w⟩ h₁⟩ <;> rw [hz] at e <;> cases e
  · subst ha
    have hall : ∀ i, i < 9 → (∀ o, opsJ1[i]? = some o → ∀ e ∈ o.after, Region.binds .any e = true → l.getD e.on false = true) → l.getD i false = true := by
      intro i hi hd
      by_cases e : l.getD i false = true
      · exact e
      · refine absurd (mem_ready.2 ⟨?_, opsJ1[i]'(by exact hi), Array.getElem?_eq_getElem _, hd _ (Array.getElem?_eq_getElem _)⟩) (by rw [hr]; simp)
        rw [Array.getD_eq_getD_getElem?] at e ⊢
        rw [Array.getElem?_eq_getElem (by rw [hI.lsz]; exact hi)] at e ⊢
        simpa using e
    have c1 : ∀ j, j < 3 → l.getD j false = true := fun j hj => hall j (by omega) fun o ho e he hb => by
      obtain ⟨o', ho', _, _, _, ha⟩ := oJ_make j hj
      rw [ho] at ho'; cases ho'
      rw [ha] at he; simp at he
    have c2 : ∀ j, j < 3 → l.getD (3 + j) false = true := fun j hj => hall (3 + j) (by omega) fun o ho e he hb => by
      obtain ⟨o', ho', _, _, _, ha⟩ := oJ_alloc j hj
      rw [ho] at ho'; cases ho'
      rw [ha] at he; simp at he
    have d6 : ∀ j, j < 3 → (∀ i, i < j → l.getD (6 + i) false = true) → l.getD (6 + j) false = true := fun j hj hp => hall (6 + j) (by omega) fun o ho e he hb => by
      have hon : e.on < 6 + j := by
        obtain ⟨o', ho', _, _, _, _, _, ha⟩ := oJ_store j hj
        rw [ho] at ho'; cases ho'
        have := Array.all_eq_true_iff_forall_mem.1 ha e he
        simpa using this
      by_cases h1 : e.on < 3
      · exact c1 _ h1
      · by_cases h2 : e.on < 6
        · have := c2 (e.on - 3) (by omega)
          rwa [show 3 + (e.on - 3) = e.on by omega] at this
        · have := hp (e.on - 6) (by omega)
          rwa [show 6 + (e.on - 6) = e.on by omega] at this
    have c3 : ∀ j, j < 3 → l.getD (6 + j) false = true := by
      have e0 := d6 0 (by omega) fun i hi => by omega
      have e1 := d6 1 (by omega) fun i hi => by
        obtain rfl : i = 0 := by omega
        exact e0
      have e2 := d6 2 (by omega) fun i hi => by
        rcases (show i = 0 ∨ i = 1 by omega) with rfl | rfl
        · exact e0
        · exact e1
      intro j hj
      rcases (show j = 0 ∨ j = 1 ∨ j = 2 by omega) with rfl | rfl | rfl
      · exact e0
      · exact e1
      · exact e2
    refine Ok.op_end (h ch bx T w₁ ⟨hI.size, hI.old, fun j hj => hI.tc j hj (c1 j hj), fun j hj => hI.tb j hj (c2 j hj), hI.hsz, hI.low, fun j hj => hI.hc j hj (c1 j hj), fun j hj => ?_, fun j j' hj hj' hne => hI.dc j j' hj hj' hne (c1 j hj) (c1 j' hj'), fun j j' hj hj' hne => hI.db j j' hj hj' hne (c2 j hj) (c2 j' hj'), hI.oo⟩)
    have := hI.hb j hj (c2 j hj)
    rw [c3 j hj] at this
    exact this
  · subst ha
    obtain ⟨hl, o, ho, hall⟩ := mem_ready.1 hi
    obtain ⟨hlt, hl'⟩ := getD_false hl
    rw [hI.lsz] at hlt
    by_cases h3 : i < 3
    · obtain ⟨o', ho', hd, hop, hg, _⟩ := oJ_make i h3
      rw [ho] at ho'
      cases ho'
      refine Ok.opv ho (by simp [Region.wanted, hg]) hk fun w₂ h₂ => ⟨.chan (some w₂.heap.size), w₂.alloc (.chan 0 #[] false 0 0 false), ?_, by simp, ?_, ?_⟩
      · simp only [execOp, hop]
        exact run_v (tyJ_make w₂ i h3).1
      · simp only [execOp, hop]
        rw [show ({ tmps := T, defers := [] } : Act).eval (.const (.int .i64 0)) = .int .i64 0 from rfl, ev_v (tyJ_make w₂ i h3).1, (tyJ_make w₂ i h3).2]
        intro e he
        simp at he
      · rw [hd, putTmp]
        exact hn _ _ ⟨_, _, _, rfl, (hI.rel h₂).make h3 (by omega) hl'⟩
    · by_cases h6 : i < 6
      · obtain ⟨j, rfl⟩ : ∃ j, i = 3 + j := ⟨i - 3, by omega⟩
        obtain ⟨o', ho', hd, hop, hg, _⟩ := oJ_alloc j (by omega)
        rw [ho] at ho'
        cases ho'
        refine Ok.opv ho (by simp [Region.wanted, hg]) hk fun w₂ h₂ => ⟨.pointer (some ⟨w₂.heap.size, 0, none⟩), w₂.alloc (.cells #[.chan none] (tyJ j)), ?_, by simp, ?_, ?_⟩
        · simp only [execOp, hop]
          exact run_v (tyJ_alloc w₂ j (by omega)).1
        · simp only [execOp, hop]
          rw [ev_v (tyJ_alloc w₂ j (by omega)).1, (tyJ_alloc w₂ j (by omega)).2]
          intro e he
          simp at he
        · rw [hd, putTmp]
          exact hn _ _ ⟨_, _, _, rfl, (hI.rel h₂).alloc (by omega) (by omega) hl'⟩
      · obtain ⟨j, rfl⟩ : ∃ j, i = 6 + j := ⟨i - 6, by omega⟩
        obtain ⟨o', ho', hd, hop, hg, ⟨e1, he1, hb1, hn1⟩, ⟨e2, he2, hb2, hn2⟩, _⟩ := oJ_store j (by omega)
        rw [ho] at ho'
        cases ho'
        have q1 := hall e1 he1 hb1
        have q2 := hall e2 he2 hb2
        rw [hn1] at q1
        rw [hn2] at q2
        refine Ok.opn ho (by simp [Region.wanted, hg]) hk fun w₂ h₂ => ?_
        have hI2 := hI.rel h₂
        have hs := tyJ_store w₂ j (by omega) (c := ch j) (hI2.hb j (by omega) q1).2
        refine ⟨w₂.setCell ⟨bx j, 0, none⟩ (.chan (some (ch j))), ?_, ?_, ?_, ?_⟩
        · simp only [execOp, hop, evalTmp (hI.tb j (by omega) q1), evalTmp (hI.tc j (by omega) q2)]
          exact run_u hs.1
        · rw [(aside_setCell w₂ ⟨bx j, 0, none⟩ (.chan (some (ch j)))).size]; exact Nat.le_refl _
        · simp only [execOp, hop, evalTmp (hI.tb j (by omega) q1), evalTmp (hI.tc j (by omega) q2)]
          rw [ev_u hs.1, hs.2]
          intro e he
          obtain rfl : e = ⟨.cell ⟨bx j, 0, none⟩, true, false⟩ := by simpa using he
          have hbj := hI2.hb j (by omega) q1
          refine .inl ⟨_, _, _, rfl, ?_, fun ho => ?_⟩
          · rw [(aside_setCell w₂ ⟨bx j, 0, none⟩ (.chan (some (ch j)))).size]
            exact lt_of_heap hbj.2
          · have := hold _ ho
            have h5 : w.heap.size ≤ bx j := hbj.1
            have h6 : bx j < w.heap.size := this
            omega
        · rw [hd]
          exact hn _ _ ⟨_, _, _, rfl, hI2.fill (by omega) q2 q1⟩
end Go.Proofs.Ytiobhgemjbjipaa
