/- Join whole, from its entry beside leavers. Conditions stand as premises. -/
import Derived.Test.YtiobhgemjbjipaaPmG5
set_option linter.unusedSimpArgs false
set_option linter.unusedVariables false
namespace Go.Proofs.Ytiobhgemjbjipaa
open Go.Conc Go.RowKit Go.Conc.Lib
open Go.ConcR (KK wgBlock WgAt stA smA rd wr mk DC0)
open Go.ConcN (WgLive)
theorem array29 (T : Array Value) (h : T.size = 29) : ∃ v0 v1 v2 v3 v4 v5 v6 v7 v8 v9 v10 v11 v12 v13 v14 v15 v16 v17 v18 v19 v20 v21 v22 v23 v24 v25 v26 v27 v28, T = #[v0, v1, v2, v3, v4, v5, v6, v7, v8, v9, v10, v11, v12, v13, v14, v15, v16, v17, v18, v19, v20, v21, v22, v23, v24, v25, v26, v27, v28] := by
  obtain ⟨l⟩ := T
  simp only [List.size_toArray] at h
  rcases l with _ | ⟨v0, l⟩
  · simp at h
  rcases l with _ | ⟨v1, l⟩
  · simp at h
  rcases l with _ | ⟨v2, l⟩
  · simp at h
  rcases l with _ | ⟨v3, l⟩
  · simp at h
  rcases l with _ | ⟨v4, l⟩
  · simp at h
  rcases l with _ | ⟨v5, l⟩
  · simp at h
  rcases l with _ | ⟨v6, l⟩
  · simp at h
  rcases l with _ | ⟨v7, l⟩
  · simp at h
  rcases l with _ | ⟨v8, l⟩
  · simp at h
  rcases l with _ | ⟨v9, l⟩
  · simp at h
  rcases l with _ | ⟨v10, l⟩
  · simp at h
  rcases l with _ | ⟨v11, l⟩
  · simp at h
  rcases l with _ | ⟨v12, l⟩
  · simp at h
  rcases l with _ | ⟨v13, l⟩
  · simp at h
  rcases l with _ | ⟨v14, l⟩
  · simp at h
  rcases l with _ | ⟨v15, l⟩
  · simp at h
  rcases l with _ | ⟨v16, l⟩
  · simp at h
  rcases l with _ | ⟨v17, l⟩
  · simp at h
  rcases l with _ | ⟨v18, l⟩
  · simp at h
  rcases l with _ | ⟨v19, l⟩
  · simp at h
  rcases l with _ | ⟨v20, l⟩
  · simp at h
  rcases l with _ | ⟨v21, l⟩
  · simp at h
  rcases l with _ | ⟨v22, l⟩
  · simp at h
  rcases l with _ | ⟨v23, l⟩
  · simp at h
  rcases l with _ | ⟨v24, l⟩
  · simp at h
  rcases l with _ | ⟨v25, l⟩
  · simp at h
  rcases l with _ | ⟨v26, l⟩
  · simp at h
  rcases l with _ | ⟨v27, l⟩
  · simp at h
  rcases l with _ | ⟨v28, l⟩
  · simp at h
  rcases l with _ | ⟨v, l⟩
  · exact ⟨_, _, _, _, _, _, _, _, _, _, _, _, _, _, _, _, _, _, _, _, _, _, _, _, _, _, _, _, _, rfl⟩
  · simp at h
/-- What Join is handed. -/
structure JIn (Old : Nat → Prop) (MB : Value → List Int → Prop) (st : Option Nat) (ba : Option Addr) (n bi oi : Nat) (Cr : Nat → Nat) (rows : Nat → List Value) (w : World) : Prop where
  hold : ∀ b, Old b → b < w.heap.size
  hst : ∀ c, st = some c → ∃ s r tm, w.heap[c]? = some (.chan 0 #[] false s r tm)
  hcr : ∀ k, k < n → ∃ cp s r tm, w.heap[Cr k]? = some (.chan cp (rows k).toArray true s r tm)
  hinj : ∀ k k', k < n → k' < n → Cr k = Cr k' → k = k'
  hsc : ∀ k, k < n → st ≠ some (Cr k)
  hba : 0 < n → ba = some ⟨bi, oi, none⟩
  hbi : 0 < n → ¬ Old bi
  hci : ∀ k, k < n → w.cell? ⟨bi, oi + k, none⟩ = some (.chan (some (Cr k)))
  hrows : ∀ k, k < n → ∀ v ∈ rows k, ∃ bs, MB v bs ∧ bs.length ≤ 140737488355328 ∧ Msg (fun w b => ¬ Old b ∧ ∃ c ty fz, w.heap[b]? = some (.cells c ty fz) ∨ w.heap[b]? = some (.pending c ty)) v bs w
/-- The call's numbers as they come out. -/
structure EJ (Old : Nat → Prop) (MB : Value → List Int → Prop) (st : Option Nat) (n : Nat) (Cr : Nat → Nat) (rows : Nat → List Value) (w w0 : World) (E : PE) : Prop where
  ok : E.Ok
  ew : EW E MB
  hn : E.n = n
  hrows : E.rows = rows
  hst : E.St = st
  hold : E.Old = Old
  n0 : E.N0 = w0.heap.size
  low : w.heap.size ≤ w0.heap.size ∧ ∀ b, b < w.heap.size → w0.heap[b]? = w.heap[b]?
  sh : ∀ b, E.Sh b → w.heap.size ≤ b ∨ st = some b ∨ ∃ k, k < n ∧ b = Cr k
  wg : w.heap.size ≤ E.Wg
  oo : SO w w0
/-- How many messages the first n rows have. -/
def tot (rows : Nat → List Value) : Nat → Nat
  | 0 => 0
  | n + 1 => tot rows n + (rows n).length
theorem toFork_tot (E : PE) : ∀ r, r ≤ E.n → toFork E r + tot E.rows (E.n - r) = tot E.rows E.n
  | 0, _ => by simp [toFork]
  | r + 1, h => by
    have := toFork_tot E r (by omega)
    have e : E.n - r = (E.n - (r + 1)) + 1 := by omega
    rw [e] at this
    simp only [tot, toFork] at this ⊢
    omega
theorem stepG_opv {P : Program} {main : Bool} {b : Frame} {a : Act} {k : List Item} {cs : List Frame} {w w' : World} {ops : Array Oper} {i : Nat} {rest : List Nat} {o : Oper} {v : Value} (ho : ops[i]? = some o) (hw : Region.wanted o (yielded ops a.tmps) = true) (hk : b.kind ≠ .early)
    (hr : (execOp a.eval o).run P w = .ok (.value v) w') (he : (execOp a.eval o).events P w #[] = #[]) :
    stepG P main (G (b.at a (.inRegion ops (i :: rest) :: k)) cs) w = .go (G (b.at (a.put o.dst v) (.inRegion ops rest :: k)) cs) w' #[] := by
  have h : (stepG P main (G (b.at a (.inRegion ops (i :: rest) :: k)) cs) w).goes fun g' w'' es => g' = G (b.at (a.put o.dst v) (.inRegion ops rest :: k)) cs ∧ w'' = w' ∧ es = #[] := by
    refine goes_oper ho hw hk ?_
    rw [hr]
    exact ⟨rfl, rfl, listed_nil he⟩
  cases hs : stepG P main (G (b.at a (.inRegion ops (i :: rest) :: k)) cs) w with
  | go g' w'' es =>
    rw [hs, goes_go] at h
    obtain ⟨rfl, rfl, rfl⟩ := h
    rfl
  | _ => rw [hs] at h; exact h.elim
theorem cell_cells {w : World} {b off : Nat} {v : Value} (h : w.cell? ⟨b, off, none⟩ = some v) : ∃ c ty fz, w.heap[b]? = some (.cells c ty fz) ∨ w.heap[b]? = some (.pending c ty) := by
  unfold World.cell? at h
  simp only at h
  split at h
  · rename_i c ty fz e; exact ⟨c, ty, fz, .inl e⟩
  all_goals first | (rename_i c ty e; exact ⟨c, ty, (0, 0), .inr e⟩) | cases h
variable {Old : Nat → Prop} {MB : Value → List Int → Prop} {st : Option Nat} {ba : Option Addr} {n bi oi cap : Nat} {Cr : Nat → Nat} {rows : Nat → List Value} {w : World} {Post : Value → World → Prop} {m nn : Nat} {b0 : Bool}
  {b₀ : Frame} {a₀ : Act} {ops₀ : Array Oper} {i₀ : Nat} {rest₀ : List Nat} {k₀ : List Item} {cs : List Frame}
set_option maxRecDepth 100000 in
set_option maxHeartbeats 8000000 in
theorem join_ok (hI : JIn Old MB st ba n bi oi Cr rows w) (hbig : m + n + 2 < 1000000) (hnn : tot rows n + 1 ≤ nn)
    (hK : ∀ E w0, EJ Old MB st n Cr rows w w0 E → ∃ Exit mT, (∀ w' N, KJ E w0 N w' → Goes Try.prog true (R0 E) (D0 E N) (fun g w => ∃ o, MRecv Try.prog E Exit nn b0 [] N o g w) mT (G (b₀.at (a₀.put ((ops₀[i₀]?).bind (·.dst)) (.chan (some E.O))) (.inRegion ops₀ rest₀ :: k₀)) cs) w') ∧
      ∀ b ys g' w', Exit b ys g' w' → (∀ k, k < n → ∃ l, rows k = (ys.filter (fun y => y.1 == k)).map (·.2.1) ++ l ∧ (b = true ∨ st = none → l = [])) → (∃ s r tm, w'.heap[E.O]? = some (.chan 0 #[] true s r tm)) → (b = true → ∀ c, st = some c → ∃ s r tm, w'.heap[c]? = some (.chan 0 #[] false s r tm)) → Ok Try.prog Post (fun b => Old b ∨ b = E.Wg) (m + n + 2) g' w') :
    Ok Try.prog Post Old m (G ((base 16).at ⟨#[.chan st, .slice ba n cap, undef, undef, undef, undef, undef, undef, undef, undef, undef, undef, undef, undef, undef, undef, undef, undef, undef, undef, undef, undef, undef, undef, undef, undef, undef, undef, undef], []⟩ [.code bodyJ]) ((b₀.at a₀ (.inRegion ops₀ (i₀ :: rest₀) :: k₀)) :: cs)) w := by
  have hbody : bodyJ = .seq (cFst bodyJ) (.seq (.region 1 opsJ1 true) (.seq (cFst (cSnd (cSnd bodyJ))) tailJ)) := by
    simp only [tailJ, opsJ1, bodyJ, Try.f16, Option.getD_some, cSnd, cFst, cOps]
  have h0 : ∃ ops, cFst bodyJ = .region 0 ops false ∧ ops = cOps (cFst bodyJ) := by
    simp only [bodyJ, Try.f16, Option.getD_some, cSnd, cFst, cOps]
    exact ⟨_, rfl, rfl⟩
  rw [hbody]
  refine Ok.step rfl (fun _ h₁ => ?_)
  obtain ⟨d, rfl⟩ := h₁
  rw [stepG_seq]
  simp only [goes_go]
  refine ⟨ok_none _, Ok.at ?_⟩
  clear d
  generalize hrest : (Code.seq (.region 1 opsJ1 true) (.seq (cFst (cSnd (cSnd bodyJ))) tailJ)) = restA
  simp only [bodyJ, Try.f16, Option.getD_some, cSnd, cFst, cOps]
  refine Ok.step rfl (fun _ h₁ => ?_)
  obtain ⟨d, rfl⟩ := h₁
  rw [stepG_region]
  simp only [goes_go, List.size_toArray, List.length_cons, List.length_nil, Nat.reduceAdd, Nat.zero_add, List.range, List.range.loop]
  refine ⟨ok_none _, Ok.at ?_⟩
  clear d
  refine Ok.opv rfl rfl (by decide) (fun w1 h₁ => ?_)
  refine ⟨.pointer (some ⟨w1.heap.size, 0, none⟩), w1.alloc (.cells #[.chan st] 46), by simp [go_sem, execOp], by simp, fun e he => ?_, ?_⟩
  · simp [go_sem, execOp] at he
  obtain ⟨d, rfl⟩ := h₁
  rw [show (w.at d).alloc (.cells #[.chan st] 46) = (w.alloc (.cells #[.chan st] 46)).at d from rfl]
  refine Ok.at ?_
  rw [show (w.at d).heap.size = w.heap.size from rfl]
  clear d
  obtain ⟨wa, hwa⟩ : ∃ wa, wa = w.alloc (.cells #[.chan st] 46) := ⟨_, rfl⟩
  have hwas : wa.heap.size = w.heap.size + 1 := by rw [hwa]; simp
  have hwal : ∀ b, b < w.heap.size → wa.heap[b]? = w.heap[b]? := fun b hb => by rw [hwa]; exact ah_old w _ hb
  have hwoo : SO w wa := by rw [hwa]; exact ⟨rfl, rfl⟩
  have hwab : wa.heap[w.heap.size]? = some (.cells #[.chan st] 46) := by rw [hwa]; exact heap_alloc_new w _
  rw [← hwa]
  clear hwa
  walk_nrm
  refine Ok.step rfl (fun _ h₁ => ?_)
  obtain ⟨d, rfl⟩ := h₁
  refine goes_oper_k rfl rfl (by decide) (fun K hK => ?_)
  go_simp
  refine hK _ _ ⟨⟨Nat.le_refl _, fun e he => ?_⟩, Ok.at ?_⟩
  · have hm := mem_listed he
    simp [go_sem] at hm
  clear hK K d
  refine Ok.step rfl (fun _ h₁ => ?_)
  obtain ⟨d, rfl⟩ := h₁
  rw [stepG_region_end]
  simp only [goes_go]
  refine ⟨ok_none _, Ok.at ?_⟩
  clear d
  rw [← hrest]
  refine Ok.step rfl (fun _ h₁ => ?_)
  obtain ⟨d, rfl⟩ := h₁
  rw [stepG_seq]
  simp only [goes_go]
  refine ⟨ok_none _, Ok.at ?_⟩
  clear d
  refine join_r1 (by decide) rfl (fun b hb => by have := hI.hold b hb; omega) fun ch bx T w2 hE => ?_
  have hT29 : T.size = 29 := by rw [hE.size]; rfl
  obtain ⟨v0, v1, v2, v3, v4, v5, v6, v7, v8, v9, v10, v11, v12, v13, v14, v15, v16, v17, v18, v19, v20, v21, v22, v23, v24, v25, v26, v27, v28, rfl⟩ := array29 T hT29
  have e0 := hE.old 0 (by omega) (by omega)
  have e1 := hE.old 1 (by omega) (by omega)
  have e2 := hE.old 2 (by omega) (by omega)
  have e3 := hE.old 3 (by omega) (by omega)
  have e4 := hE.old 4 (by omega) (by omega)
  have e8 := hE.old 8 (by omega) (by omega)
  have e9 := hE.old 9 (by omega) (by omega)
  have e10 := hE.old 10 (by omega) (by omega)
  have e14 := hE.old 14 (by omega) (by omega)
  have e15 := hE.old 15 (by omega) (by omega)
  have e16 := hE.old 16 (by omega) (by omega)
  have e17 := hE.old 17 (by omega) (by omega)
  have e18 := hE.old 18 (by omega) (by omega)
  have e19 := hE.old 19 (by omega) (by omega)
  have e20 := hE.old 20 (by omega) (by omega)
  have e21 := hE.old 21 (by omega) (by omega)
  have e22 := hE.old 22 (by omega) (by omega)
  have e23 := hE.old 23 (by omega) (by omega)
  have e24 := hE.old 24 (by omega) (by omega)
  have e25 := hE.old 25 (by omega) (by omega)
  have e26 := hE.old 26 (by omega) (by omega)
  have e27 := hE.old 27 (by omega) (by omega)
  have e28 := hE.old 28 (by omega) (by omega)
  have e11 := hE.tc 0 (by omega)
  have e5 := hE.tb 0 (by omega)
  have e12 := hE.tc 1 (by omega)
  have e6 := hE.tb 1 (by omega)
  have e13 := hE.tc 2 (by omega)
  have e7 := hE.tb 2 (by omega)
  simp only [List.getElem?_toArray, List.getElem?_cons_zero, List.getElem?_cons_succ, Option.some.injEq, Nat.reduceAdd] at e0 e1 e2 e3 e4 e5 e6 e7 e8 e9 e10 e11 e12 e13 e14 e15 e16 e17 e18 e19 e20 e21 e22 e23 e24 e25 e26 e27 e28
  subst e0 e1 e2 e3 e4 e5 e6 e7 e8 e9 e10 e11 e12 e13 e14 e15 e16 e17 e18 e19 e20 e21 e22 e23 e24 e25 e26 e27 e28
  refine Ok.step rfl (fun _ h₁ => ?_)
  obtain ⟨d, rfl⟩ := h₁
  rw [stepG_seq]
  simp only [goes_go]
  refine ⟨ok_none _, Ok.at ?_⟩
  clear d
  clear hbody h0 hrest hT29
  generalize htl : tailJ = tl
  simp only [bodyJ, Try.f16, Option.getD_some, cSnd, cFst]
  refine Ok.step rfl (fun _ h₁ => ?_)
  obtain ⟨d, rfl⟩ := h₁
  rw [stepG_region]
  simp only [goes_go, List.size_toArray, List.length_cons, List.length_nil, Nat.reduceAdd, Nat.zero_add, List.range, List.range.loop]
  refine ⟨ok_none _, Ok.at ?_⟩
  clear d
  obtain ⟨w3, hw3⟩ : ∃ w3, w3 = w2.alloc (.cells #[.int .u64 0, .int .u32 0] 57) := ⟨_, rfl⟩
  refine Ok.pump_step (w' := w3) rfl (fun d => stepG_opv rfl rfl (by decide) (v := .pointer (some ⟨w2.heap.size, 0, none⟩)) (by rw [hw3]; simp [go_sem, execOp]; try rfl) (by simp [go_sem, execOp])) ?_
  have h3s : w3.heap.size = w2.heap.size + 1 := by rw [hw3]; simp
  have h3l : ∀ b, b < w2.heap.size → w3.heap[b]? = w2.heap[b]? := fun b hb => by rw [hw3]; exact ah_old w2 _ hb
  have h3g : w3.heap[w2.heap.size]? = some (.cells #[.int .u64 0, .int .u32 0] 57) := by rw [hw3]; exact heap_alloc_new w2 _
  have hoo3 : SO w w3 := by rw [hw3]; exact hwoo.trans (hE.oo.trans ⟨rfl, rfl⟩)
  clear hw3
  have hs2 := hE.hsz
  have hl2 : ∀ b, b < w.heap.size → w3.heap[b]? = w.heap[b]? := fun b hb => (h3l b (by omega)).trans ((hE.low b (by omega)).trans (hwal b hb))
  have hch : ∀ k, k < 3 → wa.heap.size ≤ ch k ∧ ch k < w2.heap.size ∧ w3.heap[ch k]? = some (.chan 0 #[] false 0 0 false) := fun k hk => by
    have := hE.hc k hk
    exact ⟨this.1, lt_of_heap this.2, (h3l _ (lt_of_heap this.2)).trans this.2⟩
  have hbx : ∀ k, k < 3 → wa.heap.size ≤ bx k ∧ bx k < w2.heap.size ∧ w3.heap[bx k]? = some (.cells #[.chan (some (ch k))] (tyJ k)) := fun k hk => by
    have := hE.hb k hk
    exact ⟨this.1, lt_of_heap this.2, (h3l _ (lt_of_heap this.2)).trans this.2⟩
  have hcrl : ∀ k, k < n → Cr k < w.heap.size := fun k hk => by obtain ⟨cp, s, r, tm, h⟩ := hI.hcr k hk; exact lt_of_heap h
  have hstl : ∀ c, st = some c → c < w.heap.size := fun c hc => by obtain ⟨s, r, tm, h⟩ := hI.hst c hc; exact lt_of_heap h
  obtain ⟨E, hEd⟩ : ∃ E : PE, E = ({ ty := 57, by_ := 5, Wg := w2.heap.size, O := ch 0, Q := ch 1, Dn := ch 2, St := st, N0 := w2.heap.size + 1, Old := Old, j0 := 0, n := n, Cr := Cr, rows := rows, zB := .slice none 0 0, zG := .agg #[.int .i64 0, .slice none 0 0], zQ := .bool false, Fits := fun k v x w => ∃ bs V, MB v bs ∧ x = .agg #[.int .i64 (k : Int), V] ∧ Msg (fun w b => w2.heap.size + 1 ≤ b ∧ ∃ vs, w.heap[b]? = some (.cells vs 5)) V bs w } : PE) := ⟨_, rfl⟩
  have hsh : ∀ b, E.Sh b → b = w2.heap.size ∨ b = ch 0 ∨ b = ch 1 ∨ b = ch 2 ∨ st = some b ∨ ∃ k, k < n ∧ b = Cr k := by rw [hEd]; exact fun b h => h
  have hpok : ∀ j, j ≤ m → (E.to j).Ok := by
    intro j hj
    have c0 := hch 0 (by omega)
    have c1 := hch 1 (by omega)
    have c2 := hch 2 (by omega)
    rw [hEd]
    refine ⟨fun b hb => ?_, fun b hb => ?_, by show 57 ≠ 5; decide, ?_, ?_, ?_, hE.dc 0 1 (by omega) (by omega) (by omega), hE.dc 0 2 (by omega) (by omega) (by omega), hE.dc 1 2 (by omega) (by omega) (by omega), fun c hc => ?_, fun k hk => ?_, hI.hinj, ?_⟩
    · show b < w2.heap.size + 1
      rcases hb with rfl | rfl | rfl | rfl | h | ⟨k, hk, rfl⟩
      · exact Nat.lt_succ_self _
      · exact Nat.lt_succ_of_lt c0.2.1
      · exact Nat.lt_succ_of_lt c1.2.1
      · exact Nat.lt_succ_of_lt c2.2.1
      · have := hstl b h; omega
      · have := hcrl k hk
        show Cr k < _
        omega
    · have := hI.hold b hb
      show b < w2.heap.size + 1
      omega
    · show w2.heap.size ≠ ch 0; omega
    · show w2.heap.size ≠ ch 1; omega
    · show w2.heap.size ≠ ch 2; omega
    · have := hstl c hc
      refine ⟨?_, ?_, ?_, ?_⟩
      · show c ≠ w2.heap.size; omega
      · show c ≠ ch 0; omega
      · show c ≠ ch 1; omega
      · show c ≠ ch 2; omega
    · have := hcrl k hk
      refine ⟨?_, ?_, ?_, ?_, hI.hsc k hk⟩
      · show Cr k ≠ w2.heap.size; omega
      · show Cr k ≠ ch 0; omega
      · show Cr k ≠ ch 1; omega
      · show Cr k ≠ ch 2; omega
    · show j + n < 1000000; omega
  have hew : ∀ j, EW (E.to j) MB := fun j => by rw [hEd]; exact ⟨rfl, rfl, rfl, rfl, fun _ _ _ _ => Iff.rfl⟩
  have hshj : ∀ j b, (E.to j).Sh b → b = w2.heap.size ∨ b = ch 0 ∨ b = ch 1 ∨ b = ch 2 ∨ st = some b ∨ ∃ k, k < n ∧ b = Cr k := fun j b h => hsh b h
  have hlowsh : ∀ j b, (E.to j).Sh b → w.heap.size ≤ b ∨ st = some b ∨ ∃ k, k < n ∧ b = Cr k := by
    intro j b h
    rcases hshj j b h with rfl | rfl | rfl | rfl | h | h
    · exact .inl (by omega)
    · exact .inl (by have := (hch 0 (by omega)).1; omega)
    · exact .inl (by have := (hch 1 (by omega)).1; omega)
    · exact .inl (by have := (hch 2 (by omega)).1; omega)
    · exact .inr (.inl h)
    · exact .inr (.inr h)
  have hej : ∀ j, j ≤ m → EJ Old MB st n Cr rows w w3 (E.to j) := fun j hj =>
    ⟨hpok j hj, hew j, by rw [hEd]; rfl, by rw [hEd]; rfl, by rw [hEd]; rfl, by rw [hEd]; rfl, by rw [hEd, h3s]; rfl, ⟨by omega, hl2⟩, hlowsh j, by rw [hEd]; show w.heap.size ≤ w2.heap.size; omega, hoo3⟩
  -- a low block of cells is nobody's
  have hkeep : ∀ j b, b < w.heap.size → ¬ Old b → (∃ c ty fz, w.heap[b]? = some (.cells c ty fz) ∨ w.heap[b]? = some (.pending c ty)) → Kept1 (E.to j) b := by
    intro j b hb ho ⟨c, ty, fz, hc⟩
    refine ⟨by rw [hEd]; show b < w2.heap.size + 1; omega, fun h => ?_, by rw [hEd]; exact ho⟩
    rcases hlowsh j b h with h | h | ⟨k, hk, rfl⟩
    · omega
    · obtain ⟨s, r, tm, h'⟩ := hI.hst b h
      rw [h'] at hc
      rcases hc with hc | hc <;> cases hc
    · obtain ⟨cp, s, r, tm, h'⟩ := hI.hcr k hk
      rw [h'] at hc
      rcases hc with hc | hc <;> cases hc
  have hkbx : ∀ j k, k < 3 → Kept1 (E.to j) (bx k) := by
    intro j k hk
    have hb := hbx k hk
    refine ⟨by rw [hEd]; show bx k < w2.heap.size + 1; omega, fun h => ?_, fun h => ?_⟩
    · have hcc : ∀ i, i < 3 → bx k ≠ ch i := fun i hi e => by
        have := (hch i hi).2.2
        rw [← e, hb.2.2] at this
        cases this
      rcases hshj j _ h with h | h | h | h | h | ⟨i, hi, h⟩
      · omega
      · exact hcc 0 (by omega) h
      · exact hcc 1 (by omega) h
      · exact hcc 2 (by omega) h
      · have := hstl _ h; omega
      · have := hcrl i hi; omega
    · rw [hEd] at h
      have := hI.hold _ h
      omega
  have hjf : ∀ j, j ≤ m → JF (E.to j) w3 w.heap.size (bx 0) (bx 1) (bx 2) bi oi := by
    intro j hj
    refine ⟨hpok j hj, by rw [hEd]; rfl, by rw [hEd]; rfl, ⟨by rw [hEd]; show w.heap.size < w2.heap.size + 1; omega, fun h => ?_, fun h => ?_⟩, hkbx j 0 (by omega), hkbx j 1 (by omega), hkbx j 2 (by omega), ?_, ?_, ?_, ?_, fun h0 => ?_, fun k hk => ?_⟩
    · rcases hshj j _ h with h | h | h | h | h | ⟨i, hi, h⟩
      · omega
      · have := (hch 0 (by omega)).1; omega
      · have := (hch 1 (by omega)).1; omega
      · have := (hch 2 (by omega)).1; omega
      · have := hstl _ h; omega
      · have := hcrl i hi; omega
    · rw [hEd] at h
      have := hI.hold _ h
      omega
    · rw [hEd]
      exact (h3l _ (by omega)).trans ((hE.low _ (by omega)).trans hwab)
    · rw [hEd]; exact (hbx 0 (by omega)).2.2
    · rw [hEd]; exact (hbx 1 (by omega)).2.2
    · rw [hEd]; exact (hbx 2 (by omega)).2.2
    · have h0' : 0 < n := by rw [hEd] at h0; exact h0
      have hc := hI.hci 0 h0'
      have hcc := cell_cells hc
      refine hkeep j bi ?_ (hI.hbi h0') hcc
      obtain ⟨c, ty, fz, h | h⟩ := hcc
      · exact lt_of_heap h
      · exact lt_of_heap h
    · have hk' : k < n := by rw [hEd] at hk; exact hk
      have hc := hI.hci k hk'
      have hlt : bi < w.heap.size := by
        obtain ⟨c, ty, fz, h | h⟩ := cell_cells hc
        · exact lt_of_heap h
        · exact lt_of_heap h
      rw [hEd]
      exact (cell_same (a := ⟨bi, oi + k, none⟩) (hl2 bi hlt)).trans hc
  have hheld : ∀ j, HeldJ (E.to j) MB w3 := by
    intro j
    refine ⟨by rw [hEd, h3s]; rfl, fun k hk v hv => ?_⟩
    have hk' : k < n := by rw [hEd] at hk; exact hk
    have hv' : v ∈ rows k := by rw [hEd] at hv; exact hv
    obtain ⟨bs, h1, h2, h4⟩ := hI.hrows k hk' v hv'
    exact ⟨bs, h1, h2, h4.keep (by omega) fun b hb hl => ⟨hl2 b hl, hkeep j b hl hb.1 hb.2⟩⟩
  have hkj : ∀ j, KJ (E.to j) w3 w3.heap.size w3 := fun j => ⟨fun _ _ _ => rfl, ⟨0, 0, by rw [hEd]; exact h3g⟩, by rw [hEd, h3s]; exact Nat.le_refl _, Nat.le_refl _, .refl _⟩
  intro gs sl t q d g0 gm hL hC
  refine ok_pump (E := E) (nn := nn) (b0 := b0) (Exit := fun j => if h : j ≤ m then (hK (E.to j) w3 (hej j h)).choose else fun _ _ _ _ => False) hpok (by rw [hEd, h3s]) ⟨_, _, _, by rw [hEd]; exact (hch 0 (by omega)).2.2⟩ ⟨_, _, _, by rw [hEd]; exact (hch 1 (by omega)).2.2⟩ ⟨_, _, _, by rw [hEd]; exact (hch 2 (by omega)).2.2⟩ (fun c hc => ?_) (fun k hk => ?_) ?_ ?_ (fun j hj => ?_) (fun j b ys g' w' hj hx hr hO hSt => ?_) gs sl t q d g0 gm hL (by rw [hEd]; exact hC)
  · have hc' : st = some c := by rw [hEd] at hc; exact hc
    obtain ⟨s, r, tm, h⟩ := hI.hst c hc'
    exact ⟨s, r, tm, (hl2 c (hstl c hc')).trans h⟩
  · have hk' : k < n := by rw [hEd] at hk; exact hk
    obtain ⟨cp, s, r, tm, h⟩ := hI.hcr k hk'
    exact ⟨cp, s, r, tm, by rw [hEd]; exact (hl2 _ (hcrl k hk')).trans h⟩
  · rw [hEd]; exact h3g
  · have := toFork_tot E E.n (Nat.le_refl _)
    have hz : tot E.rows 0 = 0 := rfl
    rw [Nat.sub_self, hz] at this
    have hr : tot E.rows E.n = tot rows n := by rw [hEd]
    omega
  · simp only [dif_pos hj]
    have hT := (hK (E.to j) w3 (hej j hj)).choose_spec.choose_spec.1
    refine fork_all (E := E.to j) (w0 := w3) (bi := bi) (oi := oi) (cap := cap) (ba := ba) (hjf j hj) (hew j) (hheld j) (fun h0 => hI.hba (by rw [hEd] at h0; exact h0)) hT _ _ _ (fun S mS hgo => ?_)
    have hF := hkj j
    clear hT hjf hheld hew hej hK hkj hkbx hkeep hlowsh hshj hpok hsh
    generalize w3.heap.size = N3 at *
    subst hEd
    subst htl
    simp only [tailJ, bodyJ, Try.f16, Option.getD_some, cSnd, cFst]
    refine Goes.step rfl (fun _ h₁ => ?_)
    replace hF := hF.r0 h₁
    clear h₁
    rw [stepG_region_end]
    simp only [goes_go]
    refine ⟨d0_none _, ?_⟩
    walk_nrm
    refine Goes.step rfl (fun _ h₁ => ?_)
    replace hF := hF.r0 h₁
    clear h₁
    rw [stepG_seq]
    simp only [goes_go]
    refine ⟨d0_none _, ?_⟩
    refine Goes.step rfl (fun _ h₁ => ?_)
    replace hF := hF.r0 h₁
    clear h₁
    rw [stepG_seq]
    simp only [goes_go]
    refine ⟨d0_none _, ?_⟩
    refine Goes.step rfl (fun _ h₁ => ?_)
    replace hF := hF.r0 h₁
    clear h₁
    rw [stepG_region]
    simp only [goes_go, List.size_toArray, List.length_cons, List.length_nil, Nat.reduceAdd, Nat.zero_add, List.range, List.range.loop]
    refine ⟨d0_none _, ?_⟩
    refine Goes.step rfl (fun _ h₁ => ?_)
    replace hF := hF.r0 h₁
    clear h₁
    refine goes_oper_k rfl rfl (by decide) (fun K hK => ?_)
    go_simp
    refine hK _ _ ⟨d0_ev (fun e he => ?_), ?_⟩
    · have hm := mem_listed he
      simp [go_sem] at hm
    clear hK K
    refine Goes.step rfl (fun _ h₁ => ?_)
    replace hF := hF.r0 h₁
    clear h₁
    refine goes_oper_k rfl rfl (by decide) (fun K hK => ?_)
    go_simp
    refine hK _ _ ⟨d0_ev (fun e he => ?_), ?_⟩
    · have hm := mem_listed he
      simp [go_sem] at hm
    clear hK K
    refine Goes.step rfl (fun _ h₁ => ?_)
    replace hF := hF.r0 h₁
    clear h₁
    refine goes_oper_k rfl rfl (by decide) (fun K hK => ?_)
    go_simp
    refine hK _ _ ⟨d0_ev (fun e he => ?_), ?_⟩
    · have hm := mem_listed he
      simp [go_sem] at hm
    clear hK K
    refine Goes.step rfl (fun _ h₁ => ?_)
    replace hF := hF.r0 h₁
    clear h₁
    rw [stepG_region_end]
    simp only [goes_go]
    refine ⟨d0_none _, ?_⟩
    refine Goes.step rfl (fun _ h₁ => ?_)
    replace hF := hF.r0 h₁
    clear h₁
    rw [stepG_block]
    simp only [goes_go]
    refine ⟨d0_none _, ?_⟩
    refine Goes.step rfl (fun _ h₁ => ?_)
    replace hF := hF.r0 h₁
    clear h₁
    rw [stepG_loop]
    simp only [goes_go]
    refine ⟨d0_none _, ?_⟩
    have := hgo (fun _ => undef) _ hF
    unfold gJ at this
    simp only [loopJ, restJ, tailJ, bodyJ, Try.f16, Option.getD_some, cSnd, cFst, cIn] at this
    exact this.mono (by omega)
  · simp only [dif_pos hj] at hx
    have := (hK (E.to j) w3 (hej j hj)).choose_spec.choose_spec.2 b ys g' w' hx (fun k hk => ?_) hO (fun hb c hc => hSt hb c (by rw [hEd]; exact hc))
    · subst hEd
      exact this
    · have := hr k (by rw [hEd]; exact hk)
      subst hEd
      exact this
end Go.Proofs.Ytiobhgemjbjipaa
