/- Structs in a block of their own, known whole: stores of all cells, loads. No program in sight; no condition. -/
import Derived.Test.YtpkmdnfkeebgbaaPairs
import Derived.Laws.IdiomCopy
namespace Go.Proofs.Ytpkmdnfkeebgbaa
open Go.ChangeShapes Go.WideShapes Go.ChangeAt Go.RowKit
set_option linter.unusedVariables false
set_option linter.unusedSimpArgs false

theorem row_set {w : World} {S : Nat} {cur : Array Value} {T : TypeId} (h : w.heap[S]? = some (.cells cur T (0, 0))) (j : Nat) (v : Value) : (w.setCell ⟨S, j, none⟩ v).heap[S]? = some (.cells (cur.setIfInBounds j v) T (0, 0)) := by
  have hlt := lt_of_heap h
  unfold World.setCell
  simp only [Array.getElem?_modify, ↓reduceIte]
  rw [h]
  rfl
theorem row_other {w : World} {S S' : Nat} {o : Obj} (h : w.heap[S]? = some o) (j : Nat) (v : Value) (hne : S ≠ S') : (w.setCell ⟨S', j, none⟩ v).heap[S]? = some o :=
  (heap_setCell_other w ⟨S', j, none⟩ S v hne).trans h
theorem row_sets {S : Nat} {T : TypeId} : ∀ (vs : List Value) (o : Nat) (w : World) (cur : Array Value), w.heap[S]? = some (.cells cur T (0, 0)) → o + vs.length ≤ cur.size →
    (w.setCells S o vs).heap[S]? = some (.cells (cur.toList.take o ++ (vs ++ cur.toList.drop (o + vs.length))).toArray T (0, 0))
  | [], o, w, cur, h, hs => by
    rw [World.setCells, h]
    simp
  | v :: r, o, w, cur, h, hs => by
    have ho : o < cur.size := by simp at hs; omega
    rw [World.setCells, row_sets r (o + 1) _ _ (row_set h o v) (by simp at hs ⊢; omega)]
    congr 3
    rw [Array.toList_setIfInBounds, List.take_add_one, List.take_set_of_le (Nat.le_refl _), List.getElem?_set_self (by simpa using ho), List.drop_set_of_lt (by omega)]
    simp [Nat.add_assoc, Nat.add_comm 1]
/-- All cells of a block stored anew. -/
theorem row_all {w : World} {S : Nat} {cur : Array Value} {T : TypeId} (vs : List Value) (h : w.heap[S]? = some (.cells cur T (0, 0))) (hs : cur.size = vs.length) : (w.setCells S 0 vs).heap[S]? = some (.cells vs.toArray T (0, 0)) := by
  rw [row_sets vs 0 w cur h (by omega)]
  rw [Nat.zero_add, ← hs, ← Array.length_toList, List.drop_length]
  simp
theorem upd_sets (S : Nat) : ∀ (vs : List Value) (o : Nat) (w : World), Upd (· = S) w (w.setCells S o vs)
  | [], o, w => Upd.refl _ _
  | v :: r, o, w => (Upd.setCell (F := (· = S)) w ⟨S, o, none⟩ v rfl).trans (upd_sets S r (o + 1) _) (fun _ _ h => h)
theorem below_sets {B : Nat} {w0 : World} {S : Nat} (hB : B ≤ S) : ∀ (vs : List Value) (o : Nat) (w : World), Below B w0 w → Below B w0 (w.setCells S o vs)
  | [], o, w, hb => hb
  | v :: r, o, w, hb => below_sets hB r (o + 1) _ (hb.setCell (p := ⟨S, o, none⟩) hB v)
theorem row_upd {F : Nat → Prop} {w w' : World} {S : Nat} {o : Obj} (hu : Upd F w w') (hf : ¬ F S) (h : w.heap[S]? = some o) : w'.heap[S]? = some o := (hu.block S (lt_of_heap h) hf).trans h
theorem row_below {B : Nat} {w w' : World} {S : Nat} {o : Obj} (hb : Below B w w') (hS : S < B) (h : w.heap[S]? = some o) : w'.heap[S]? = some o := (hb.block S hS).trans h

theorem OwnP.upd {e : TypeId} {F : Nat → Prop} {w w' : World} {base : Nat} {a : Option Addr} {n c : Nat} {ps : List PR} (h : OwnP e w base a n c ps) (hu : Upd F w w') (hf : ∀ x, a = some x → ¬ F x.block) : OwnP e w' base a n c ps := by
  refine ⟨h.1, h.2.1, ?_⟩
  rcases h.2.2 with h1 | ⟨g, cap, cur, h', hbg, hg, r⟩
  · exact .inl h1
  · cases h'
    exact .inr ⟨g, _, cur, rfl, hbg, by rw [hu.block g (Array.getElem?_eq_some_iff.1 hg).1 (hf _ rfl)]; exact hg, r⟩

/-! ### Whole structs stored, loaded, handed back -/
/-- What is known of a struct's type: it is one, of so many cells. -/
def RowInfo (P : Program) (ty : TypeId) (n : Nat) : Prop := (P.underlying ty).map (fun d => match d with | .struct _ | .array _ _ => true | _ => false) = some true ∧ (P.info? ty).map (·.size) = some n

section
variable {P : Program} {w : World} {ops : Array Oper} {rest : List Oper} {o : Oper} {a : Act} {Q : Exit → Act → World → Prop}
theorem RowInfo.desc {ty : TypeId} {n : Nat} (h : RowInfo P ty n) : ∃ d, P.underlying ty = some d ∧ (match d with | .struct _ | .array _ _ => true | _ => false) = true := by
  have := h.1
  cases hu : P.underlying ty with
  | none => rw [hu] at this; cases this
  | some d => rw [hu] at this; exact ⟨d, rfl, by simpa using this⟩
theorem wp_storeS {K : Act → World → Prop} {ty : TypeId} {x y : Operand} (ho : o.op = .store ty x y) {S n : Nat} {cells old : Array Value} {T : TypeId} (hI : RowInfo P ty n)
    (hx : a.eval x = .pointer (some ⟨S, 0, none⟩)) (hy : a.eval y = .agg cells) (hg : w.heap[S]? = some (.cells old T (0, 0))) (hs : old.size = n) (hc : cells.size = n) (h1 : cells.all (·.oneCell') = true)
    (h : ∀ w', Hid (w'.heap[S]? = some (.cells cells T (0, 0))) → Upd (· = S) w w' → K (a.put o.dst undef) w') : o.wp P a w K Q := by
  refine wp_store_row ty x y ho S cells hx hy T old hg (by rw [hI.2, hc]) (by omega) h1 (h _ ?_ ?_)
  · exact setRow_heap w S _ _ T _ hg
  · exact ⟨rfl, rfl, rfl, by simp [World.setRow], fun k _ hk => setRow_other w S k _ hk⟩
theorem wpList_storeS (hgd : o.guard = none) {ty : TypeId} {x y : Operand} (ho : o.op = .store ty x y) {S n : Nat} {cells old : Array Value} {T : TypeId} (hI : RowInfo P ty n)
    (hx : a.eval x = .pointer (some ⟨S, 0, none⟩)) (hy : a.eval y = .agg cells) (hg : w.heap[S]? = some (.cells old T (0, 0))) (hs : old.size = n) (hc : cells.size = n) (h1 : cells.all (·.oneCell') = true)
    (h : ∀ w', Hid (w'.heap[S]? = some (.cells cells T (0, 0))) → Upd (· = S) w w' → wpList P ops Q rest (a.put o.dst undef) w') : wpList P ops Q (o :: rest) a w :=
  wpList_plain hgd fun _ hK => wp_storeS ho hI hx hy hg hs hc h1 fun w' h2 h3 => hK _ _ (h w' h2 h3)
theorem step_storeS {K : Act → World → Prop} {E : Prop} (hgd : o.guard = none) {ty : TypeId} {x y : Operand} (ho : o.op = .store ty x y) {S n : Nat} {cells old : Array Value} {T : TypeId} (hI : RowInfo P ty n)
    (hx : a.eval x = .pointer (some ⟨S, 0, none⟩)) (hy : a.eval y = .agg cells) (hg : w.heap[S]? = some (.cells old T (0, 0))) (hs : old.size = n) (hc : cells.size = n) (h1 : cells.all (·.oneCell') = true)
    (h : ∀ w', Hid (w'.heap[S]? = some (.cells cells T (0, 0))) → Upd (· = S) w w' → K (a.put o.dst undef) w') :
    if Region.wanted o (yielded ops a.tmps) = true then Oper.wp P o a w K Q else E := by
  have hw : Region.wanted o (yielded ops a.tmps) = true := by simp [Region.wanted, hgd]
  rw [if_pos hw]
  exact wp_storeS ho hI hx hy hg hs hc h1 h
theorem step_copyS {α : Type} {enc : α → Value} {K : Act → World → Prop} {E : Prop} (hgd : o.guard = none) {d s : Operand} {dT sT : TypeId} (ho : o.op = .call { callee := .builtin .copy, args := #[d, s], argTypes := #[dT, sT] })
    {e : TypeId} {bytes : Nat} (hI : OneInfo P dT e bytes) {g off dLen dCap : Nat} (hd : a.eval d = .slice (some ⟨g, off, none⟩) dLen dCap) {xa : Option Addr} {xn xc : Nat} (hs : a.eval s = .slice xa xn xc)
    {cur : List Value} {T : TypeId} (hg : w.heap[g]? = some (.cells cur.toArray T (0, 0))) {l2 : List α} (hr : Rd enc w xa xn xc l2) (hfit : off + xn ≤ cur.length) (hle : xn ≤ dLen) (h1 : ∀ y, (enc y).oneCell' = true)
    (h : ∀ w', Hid (w'.heap[g]? = some (.cells (splice cur off (l2.map enc)).toArray T (0, 0))) → Upd (· = g) w w' → K (a.put o.dst (goInt xn)) w') :
    if Region.wanted o (yielded ops a.tmps) = true then Oper.wp P o a w K Q else E := by
  have hw : Region.wanted o (yielded ops a.tmps) = true := by simp [Region.wanted, hgd]
  rw [if_pos hw]
  obtain ⟨ht, i, z, hi, hz, hsize, hby, hzs⟩ := hI
  have hsz : (P.info? e).map (·.size) = some 1 := by rw [hi]; simp [hsize]
  obtain ⟨hl2, hc1, hc2, hcn, hcells⟩ := hr
  by_cases h0 : xn = 0
  · subst h0
    obtain rfl : l2 = [] := List.eq_nil_of_length_eq_zero hl2
    have hrun := run_copy_none (P := P) w dT sT o.type e (some ⟨g, off, none⟩) xa dLen dCap 0 xc ht hsz (by simp)
    have := h w (show _ = _ by simpa [splice] using hg) (Upd.refl _ _)
    unfold Oper.wp
    simp [execOp, ho, resolve, invoke, builtin, hd, hs, hrun, Result.andThen]
    exact this
  · rcases hcells with h0' | ⟨b, o2, rfl, hbk, hc⟩
    · omega
    have hcsn : (l2.map enc).length = Nat.min xn dLen := by rw [List.length_map, hl2]; exact (Nat.min_eq_left hle).symm
    have hrun := run_copy_row (P := P) w dT sT o.type e g off dLen dCap ⟨b, o2, none⟩ xn xc cur.toArray T (l2.map enc) ht hsz hg hcsn (fun j v hv => by
      rw [List.getElem?_map] at hv
      obtain ⟨y, hy, rfl⟩ := Option.map_eq_some_iff.1 hv
      rw [addr_add]
      exact hc j y hy) (by rw [List.length_map, hl2]; simpa using hfit) (fun v hv => by
      obtain ⟨y, _, rfl⟩ := List.mem_map.1 hv
      exact h1 y)
    have := h (w.setRow g (splice cur off (l2.map enc)).toArray) (setRow_heap w g _ _ T _ hg) ⟨rfl, rfl, rfl, by simp [World.setRow], fun k _ hk => setRow_other w g k _ hk⟩
    have e1 : (cur.toArray.toList.take off ++ l2.map enc ++ cur.toArray.toList.drop (off + (l2.map enc).length)).toArray = (splice cur off (l2.map enc)).toArray := by simp [splice]
    rw [e1, List.length_map, hl2] at hrun
    unfold Oper.wp
    simp only [execOp, ho, resolve, invoke, builtin, Sem.run_bind, Sem.run_pure, Result.andThen_ok, List.map_toArray, List.map_cons, List.map_nil, hd, hs, hrun]
    exact this
theorem wp_loadS {K : Act → World → Prop} {ty : TypeId} {x : Operand} (ho : o.op = .load ty x) {S n : Nat} {cs : Array Value} {T : TypeId} (hI : RowInfo P ty n)
    (hx : a.eval x = .pointer (some ⟨S, 0, none⟩)) (hg : w.heap[S]? = some (.cells cs T (0, 0))) (hs : cs.size = n) (h : K (a.put o.dst (.agg cs)) w) : o.wp P a w K Q := by
  obtain ⟨d, hu, hd⟩ := hI.desc
  exact wp_load_row ty x ho S hx T cs (0, 0) d hg hu (by revert hd; cases d <;> simp) (by rw [hI.2, hs]) h
theorem wpList_loadS (hgd : o.guard = none) {ty : TypeId} {x : Operand} (ho : o.op = .load ty x) {S n : Nat} {cs : Array Value} {T : TypeId} (hI : RowInfo P ty n)
    (hx : a.eval x = .pointer (some ⟨S, 0, none⟩)) (hg : w.heap[S]? = some (.cells cs T (0, 0))) (hs : cs.size = n) (h : wpList P ops Q rest (a.put o.dst (.agg cs)) w) : wpList P ops Q (o :: rest) a w :=
  wpList_plain hgd fun _ hK => wp_loadS ho hI hx hg hs (hK _ _ h)
theorem wpList_loadSG (hw : Region.wanted o (yielded ops a.tmps) = true) {ty : TypeId} {x : Operand} (ho : o.op = .load ty x) {S n : Nat} {cs : Array Value} {T : TypeId} (hI : RowInfo P ty n)
    (hx : a.eval x = .pointer (some ⟨S, 0, none⟩)) (hg : w.heap[S]? = some (.cells cs T (0, 0))) (hs : cs.size = n) (h : wpList P ops Q rest (a.put o.dst (.agg cs)) w) : wpList P ops Q (o :: rest) a w :=
  BigFrame.wpList_want hw fun _ hK => wp_loadS ho hI hx hg hs (hK _ _ h)
theorem wpList_buildS (hgd : o.guard = none) {t : TypeId} {parts : Array (Nat × Operand)} (ho : o.op = .build t parts) {cells : Array Value} (hf : P.built t (parts.map fun (i, x) => (i, a.eval x)).toList = some cells)
    (h : wpList P ops Q rest (a.put o.dst (.agg cells)) w) : wpList P ops Q (o :: rest) a w :=
  wpList_build hgd t parts ho (by rw [hf]; rfl) (by rw [hf]; exact h)
/-- A struct's cells and one slot handed back. -/
theorem results_S1 {fn : Func} {tmps : Array Value} {s k : Nat} {ty : TypeId} (hf : fn.results = #[.cell s ty, .tmp k]) {S n : Nat} {cs : Array Value} {T : TypeId} {v : Value} (hI : RowInfo P ty n)
    (hs : tmps.getD s undef = .pointer (some ⟨S, 0, none⟩)) (hk : tmps.getD k undef = v) (hg : w.heap[S]? = some (.cells cs T (0, 0))) (hn : cs.size = n) : (results fn tmps).run P w = .ok (.tuple #[.agg cs, v]) w := by
  obtain ⟨d, hu, hd⟩ := hI.desc
  have hl := run_loadVar_row w S T ty cs (0, 0) d hg hu (by revert hd; cases d <;> simp) (by rw [hI.2, hn])
  rw [Array.getD_eq_getD_getElem?] at hs hk
  simp [results, hf, hs, hk, asAddr, hl, Sem.run_bind, Result.andThen]
/-- A struct's cells handed back. -/
theorem results_S {fn : Func} {tmps : Array Value} {s : Nat} {ty : TypeId} (hf : fn.results = #[.cell s ty]) {S n : Nat} {cs : Array Value} {T : TypeId} (hI : RowInfo P ty n)
    (hs : tmps.getD s undef = .pointer (some ⟨S, 0, none⟩)) (hg : w.heap[S]? = some (.cells cs T (0, 0))) (hn : cs.size = n) : (results fn tmps).run P w = .ok (.agg cs) w := by
  obtain ⟨d, hu, hd⟩ := hI.desc
  have hl := run_loadVar_row w S T ty cs (0, 0) d hg hu (by revert hd; cases d <;> simp) (by rw [hI.2, hn])
  rw [Array.getD_eq_getD_getElem?] at hs
  simp [results, hf, hs, asAddr, hl, Sem.run_bind, Result.andThen]
end

theorem below_dN {B : Nat} {a w : World} (h : Below B a w) (n : Nat) : Below B a (w.drewN n) := ⟨h.os, h.tape, h.output, h.size, h.block⟩
theorem row_drewN {w : World} {S : Nat} {o : Obj} (h : w.heap[S]? = some o) (n : Nat) : (w.drewN n).heap[S]? = some o := h

/-! ### Pairs: numbers in twos, whether they rise -/
def riseB : List PR → Bool
  | a :: b :: t => decide (a.1 < b.1) && riseB (b :: t)
  | _ => true
theorem riseB_snoc : ∀ (ps : List PR) (x y : PR), ps.getLast? = some x → riseB (ps ++ [y]) = (riseB ps && decide (x.1 < y.1))
  | [], x, y, h => by simp at h
  | [a], x, y, h => by simp at h; subst h; simp [riseB]
  | a :: b :: t, x, y, h => by
    have ih := riseB_snoc (b :: t) x y (by simpa using h)
    simp only [List.cons_append, riseB] at ih ⊢
    rw [ih, Bool.and_assoc]
theorem riseB_append : ∀ (ps qs : List PR), riseB ps = false → riseB (ps ++ qs) = false
  | [], qs, h => by simp [riseB] at h
  | [a], qs, h => by simp [riseB] at h
  | a :: b :: t, qs, h => by
    simp only [riseB, Bool.and_eq_false_iff] at h
    simp only [List.cons_append, riseB, Bool.and_eq_false_iff]
    rcases h with h | h
    · exact .inl h
    · exact .inr (by simpa using riseB_append (b :: t) qs h)
/-- How far pairs rise: the first k and one more. -/
theorem riseB_take (ps : List PR) (k : Nat) (x y : PR) (hx : ps[k]? = some x) (hy : ps[k + 1]? = some y) : riseB (ps.take (k + 2)) = (riseB (ps.take (k + 1)) && decide (x.1 < y.1)) := by
  have h1 : ps.take (k + 2) = ps.take (k + 1) ++ [y] := by rw [List.take_add_one, hy]; rfl
  rw [h1]
  refine riseB_snoc _ _ _ ?_
  rw [List.take_add_one, hx]; simp
theorem riseB_cut (ps : List PR) (k : Nat) (h : riseB (ps.take k) = false) : riseB ps = false := by
  have := riseB_append (ps.take k) (ps.drop k) h
  rwa [List.take_append_drop] at this
end Go.Proofs.Ytpkmdnfkeebgbaa
