/- Contracts and plain laws that this claim uses, each with its conditions as premises. -/
import Derived.Test.YtpkmdnfkeebgbaaJm1
import Derived.Laws.IdiomCopy
import Derived.Deep.MidRow
import Derived.Stop.BytesEq
import Derived.Deep.CutBlock
import Derived.Deep.RegionLaw
import Derived.OrdersHeld
import Derived.Deep.Slices
/- Structs in a block of their own, known whole: stores of all cells, loads. No program in sight; no condition. -/
namespace Go.Proofs.Ytpkmdnfkeebgbaa
open Go.ChangeShapes Go.WideShapes Go.ChangeAt Go.RowKit
set_option linter.unusedVariables false
set_option linter.unusedSimpArgs false

theorem row_set {w : World} {S : Nat} {cur : Array Value} {T : TypeId} (h : w.heap[S]? = some (.cells cur T (0, 0))) (j : Nat) (v : Value) : (w.setCell ⟨S, j, none⟩ v).heap[S]? = some (.cells (cur.setIfInBounds j v) T (0, 0)) := by
  have hlt := lt_of_heap h
  unfold World.setCell
  simp only [Array.getElem?_modify, ↓reduceIte]
  rw [h]
  rfl
theorem row_other {w : World} {S S' : Nat} {o : Obj} (h : w.heap[S]? = some o) (j : Nat) (v : Value) (hne : S ≠ S') : (w.setCell ⟨S', j, none⟩ v).heap[S]? = some o :=
  (heap_setCell_other w ⟨S', j, none⟩ S v hne).trans h
theorem row_sets {S : Nat} {T : TypeId} : ∀ (vs : List Value) (o : Nat) (w : World) (cur : Array Value), w.heap[S]? = some (.cells cur T (0, 0)) → o + vs.length ≤ cur.size →
    (w.setCells S o vs).heap[S]? = some (.cells (cur.toList.take o ++ (vs ++ cur.toList.drop (o + vs.length))).toArray T (0, 0))
  | [], o, w, cur, h, hs => by
    rw [World.setCells, h]
    simp
  | v :: r, o, w, cur, h, hs => by
    have ho : o < cur.size := by simp at hs; omega
    rw [World.setCells, row_sets r (o + 1) _ _ (row_set h o v) (by simp at hs ⊢; omega)]
    congr 3
    rw [Array.toList_setIfInBounds, List.take_add_one, List.take_set_of_le (Nat.le_refl _), List.getElem?_set_self (by simpa using ho), List.drop_set_of_lt (by omega)]
    simp [Nat.add_assoc, Nat.add_comm 1]
/-- All cells of a block stored anew. -/
theorem row_all {w : World} {S : Nat} {cur : Array Value} {T : TypeId} (vs : List Value) (h : w.heap[S]? = some (.cells cur T (0, 0))) (hs : cur.size = vs.length) : (w.setCells S 0 vs).heap[S]? = some (.cells vs.toArray T (0, 0)) := by
  rw [row_sets vs 0 w cur h (by omega)]
  rw [Nat.zero_add, ← hs, ← Array.length_toList, List.drop_length]
  simp
theorem upd_sets (S : Nat) : ∀ (vs : List Value) (o : Nat) (w : World), Upd (· = S) w (w.setCells S o vs)
  | [], o, w => Upd.refl _ _
  | v :: r, o, w => (Upd.setCell (F := (· = S)) w ⟨S, o, none⟩ v rfl).trans (upd_sets S r (o + 1) _) (fun _ _ h => h)
theorem below_sets {B : Nat} {w0 : World} {S : Nat} (hB : B ≤ S) : ∀ (vs : List Value) (o : Nat) (w : World), Below B w0 w → Below B w0 (w.setCells S o vs)
  | [], o, w, hb => hb
  | v :: r, o, w, hb => below_sets hB r (o + 1) _ (hb.setCell (p := ⟨S, o, none⟩) hB v)
theorem row_upd {F : Nat → Prop} {w w' : World} {S : Nat} {o : Obj} (hu : Upd F w w') (hf : ¬ F S) (h : w.heap[S]? = some o) : w'.heap[S]? = some o := (hu.block S (lt_of_heap h) hf).trans h
theorem row_below {B : Nat} {w w' : World} {S : Nat} {o : Obj} (hb : Below B w w') (hS : S < B) (h : w.heap[S]? = some o) : w'.heap[S]? = some o := (hb.block S hS).trans h

theorem OwnP.upd {e : TypeId} {F : Nat → Prop} {w w' : World} {base : Nat} {a : Option Addr} {n c : Nat} {ps : List PR} (h : OwnP e w base a n c ps) (hu : Upd F w w') (hf : ∀ x, a = some x → ¬ F x.block) : OwnP e w' base a n c ps := by
  refine ⟨h.1, h.2.1, ?_⟩
  rcases h.2.2 with h1 | ⟨g, cap, cur, h', hbg, hg, r⟩
  · exact .inl h1
  · cases h'
    exact .inr ⟨g, _, cur, rfl, hbg, by rw [hu.block g (Array.getElem?_eq_some_iff.1 hg).1 (hf _ rfl)]; exact hg, r⟩

/-! ### Whole structs stored, loaded, handed back -/
/-- What is known of a struct's type: it is one, of so many cells. -/
def RowInfo (P : Program) (ty : TypeId) (n : Nat) : Prop := (P.underlying ty).map (fun d => match d with | .struct _ | .array _ _ => true | _ => false) = some true ∧ (P.info? ty).map (·.size) = some n

section
variable {P : Program} {w : World} {ops : Array Oper} {rest : List Oper} {o : Oper} {a : Act} {Q : Exit → Act → World → Prop}
theorem RowInfo.desc {ty : TypeId} {n : Nat} (h : RowInfo P ty n) : ∃ d, P.underlying ty = some d ∧ (match d with | .struct _ | .array _ _ => true | _ => false) = true := by
  have := h.1
  cases hu : P.underlying ty with
  | none => rw [hu] at this; cases this
  | some d => rw [hu] at this; exact ⟨d, rfl, by simpa using this⟩
theorem wp_storeS {K : Act → World → Prop} {ty : TypeId} {x y : Operand} (ho : o.op = .store ty x y) {S n : Nat} {cells old : Array Value} {T : TypeId} (hI : RowInfo P ty n)
    (hx : a.eval x = .pointer (some ⟨S, 0, none⟩)) (hy : a.eval y = .agg cells) (hg : w.heap[S]? = some (.cells old T (0, 0))) (hs : old.size = n) (hc : cells.size = n) (h1 : cells.all (·.oneCell') = true)
    (h : ∀ w', Hid (w'.heap[S]? = some (.cells cells T (0, 0))) → Upd (· = S) w w' → K (a.put o.dst undef) w') : o.wp P a w K Q := by
  refine wp_store_row ty x y ho S cells hx hy T old hg (by rw [hI.2, hc]) (by omega) h1 (h _ ?_ ?_)
  · exact setRow_heap w S _ _ T _ hg
  · exact ⟨rfl, rfl, rfl, by simp [World.setRow], fun k _ hk => setRow_other w S k _ hk⟩
theorem wpList_storeS (hgd : o.guard = none) {ty : TypeId} {x y : Operand} (ho : o.op = .store ty x y) {S n : Nat} {cells old : Array Value} {T : TypeId} (hI : RowInfo P ty n)
    (hx : a.eval x = .pointer (some ⟨S, 0, none⟩)) (hy : a.eval y = .agg cells) (hg : w.heap[S]? = some (.cells old T (0, 0))) (hs : old.size = n) (hc : cells.size = n) (h1 : cells.all (·.oneCell') = true)
    (h : ∀ w', Hid (w'.heap[S]? = some (.cells cells T (0, 0))) → Upd (· = S) w w' → wpList P ops Q rest (a.put o.dst undef) w') : wpList P ops Q (o :: rest) a w :=
  wpList_plain hgd fun _ hK => wp_storeS ho hI hx hy hg hs hc h1 fun w' h2 h3 => hK _ _ (h w' h2 h3)
theorem step_storeS {K : Act → World → Prop} {E : Prop} (hgd : o.guard = none) {ty : TypeId} {x y : Operand} (ho : o.op = .store ty x y) {S n : Nat} {cells old : Array Value} {T : TypeId} (hI : RowInfo P ty n)
    (hx : a.eval x = .pointer (some ⟨S, 0, none⟩)) (hy : a.eval y = .agg cells) (hg : w.heap[S]? = some (.cells old T (0, 0))) (hs : old.size = n) (hc : cells.size = n) (h1 : cells.all (·.oneCell') = true)
    (h : ∀ w', Hid (w'.heap[S]? = some (.cells cells T (0, 0))) → Upd (· = S) w w' → K (a.put o.dst undef) w') :
    if Region.wanted o (yielded ops a.tmps) = true then Oper.wp P o a w K Q else E := by
  have hw : Region.wanted o (yielded ops a.tmps) = true := by simp [Region.wanted, hgd]
  rw [if_pos hw]
  exact wp_storeS ho hI hx hy hg hs hc h1 h
theorem step_copyS {α : Type} {enc : α → Value} {K : Act → World → Prop} {E : Prop} (hgd : o.guard = none) {d s : Operand} {dT sT : TypeId} (ho : o.op = .call { callee := .builtin .copy, args := #[d, s], argTypes := #[dT, sT] })
    {e : TypeId} {bytes : Nat} (hI : OneInfo P dT e bytes) {g off dLen dCap : Nat} (hd : a.eval d = .slice (some ⟨g, off, none⟩) dLen dCap) {xa : Option Addr} {xn xc : Nat} (hs : a.eval s = .slice xa xn xc)
    {cur : List Value} {T : TypeId} (hg : w.heap[g]? = some (.cells cur.toArray T (0, 0))) {l2 : List α} (hr : Rd enc w xa xn xc l2) (hfit : off + xn ≤ cur.length) (hle : xn ≤ dLen) (h1 : ∀ y, (enc y).oneCell' = true)
    (h : ∀ w', Hid (w'.heap[g]? = some (.cells (splice cur off (l2.map enc)).toArray T (0, 0))) → Upd (· = g) w w' → K (a.put o.dst (goInt xn)) w') :
    if Region.wanted o (yielded ops a.tmps) = true then Oper.wp P o a w K Q else E := by
  have hw : Region.wanted o (yielded ops a.tmps) = true := by simp [Region.wanted, hgd]
  rw [if_pos hw]
  obtain ⟨ht, i, z, hi, hz, hsize, hby, hzs⟩ := hI
  have hsz : (P.info? e).map (·.size) = some 1 := by rw [hi]; simp [hsize]
  obtain ⟨hl2, hc1, hc2, hcn, hcells⟩ := hr
  by_cases h0 : xn = 0
  · subst h0
    obtain rfl : l2 = [] := List.eq_nil_of_length_eq_zero hl2
    have hrun := run_copy_none (P := P) w dT sT o.type e (some ⟨g, off, none⟩) xa dLen dCap 0 xc ht hsz (by simp)
    have := h w (show _ = _ by simpa [splice] using hg) (Upd.refl _ _)
    unfold Oper.wp
    simp [execOp, ho, resolve, invoke, builtin, hd, hs, hrun, Result.andThen]
    exact this
  · rcases hcells with h0' | ⟨b, o2, rfl, hbk, hc⟩
    · omega
    have hcsn : (l2.map enc).length = Nat.min xn dLen := by rw [List.length_map, hl2]; exact (Nat.min_eq_left hle).symm
    have hrun := run_copy_row (P := P) w dT sT o.type e g off dLen dCap ⟨b, o2, none⟩ xn xc cur.toArray T (l2.map enc) ht hsz hg hcsn (fun j v hv => by
      rw [List.getElem?_map] at hv
      obtain ⟨y, hy, rfl⟩ := Option.map_eq_some_iff.1 hv
      rw [addr_add]
      exact hc j y hy) (by rw [List.length_map, hl2]; simpa using hfit) (fun v hv => by
      obtain ⟨y, _, rfl⟩ := List.mem_map.1 hv
      exact h1 y)
    have := h (w.setRow g (splice cur off (l2.map enc)).toArray) (setRow_heap w g _ _ T _ hg) ⟨rfl, rfl, rfl, by simp [World.setRow], fun k _ hk => setRow_other w g k _ hk⟩
    have e1 : (cur.toArray.toList.take off ++ l2.map enc ++ cur.toArray.toList.drop (off + (l2.map enc).length)).toArray = (splice cur off (l2.map enc)).toArray := by simp [splice]
    rw [e1, List.length_map, hl2] at hrun
    unfold Oper.wp
    simp only [execOp, ho, resolve, invoke, builtin, Sem.run_bind, Sem.run_pure, Result.andThen_ok, List.map_toArray, List.map_cons, List.map_nil, hd, hs, hrun]
    exact this
theorem wp_loadS {K : Act → World → Prop} {ty : TypeId} {x : Operand} (ho : o.op = .load ty x) {S n : Nat} {cs : Array Value} {T : TypeId} (hI : RowInfo P ty n)
    (hx : a.eval x = .pointer (some ⟨S, 0, none⟩)) (hg : w.heap[S]? = some (.cells cs T (0, 0))) (hs : cs.size = n) (h : K (a.put o.dst (.agg cs)) w) : o.wp P a w K Q := by
  obtain ⟨d, hu, hd⟩ := hI.desc
  exact wp_load_row ty x ho S hx T cs (0, 0) d hg hu (by revert hd; cases d <;> simp) (by rw [hI.2, hs]) h
theorem wpList_loadS (hgd : o.guard = none) {ty : TypeId} {x : Operand} (ho : o.op = .load ty x) {S n : Nat} {cs : Array Value} {T : TypeId} (hI : RowInfo P ty n)
    (hx : a.eval x = .pointer (some ⟨S, 0, none⟩)) (hg : w.heap[S]? = some (.cells cs T (0, 0))) (hs : cs.size = n) (h : wpList P ops Q rest (a.put o.dst (.agg cs)) w) : wpList P ops Q (o :: rest) a w :=
  wpList_plain hgd fun _ hK => wp_loadS ho hI hx hg hs (hK _ _ h)
theorem wpList_loadSG (hw : Region.wanted o (yielded ops a.tmps) = true) {ty : TypeId} {x : Operand} (ho : o.op = .load ty x) {S n : Nat} {cs : Array Value} {T : TypeId} (hI : RowInfo P ty n)
    (hx : a.eval x = .pointer (some ⟨S, 0, none⟩)) (hg : w.heap[S]? = some (.cells cs T (0, 0))) (hs : cs.size = n) (h : wpList P ops Q rest (a.put o.dst (.agg cs)) w) : wpList P ops Q (o :: rest) a w :=
  BigFrame.wpList_want hw fun _ hK => wp_loadS ho hI hx hg hs (hK _ _ h)
theorem wpList_buildS (hgd : o.guard = none) {t : TypeId} {parts : Array (Nat × Operand)} (ho : o.op = .build t parts) {cells : Array Value} (hf : P.built t (parts.map fun (i, x) => (i, a.eval x)).toList = some cells)
    (h : wpList P ops Q rest (a.put o.dst (.agg cells)) w) : wpList P ops Q (o :: rest) a w :=
  wpList_build hgd t parts ho (by rw [hf]; rfl) (by rw [hf]; exact h)
/-- A struct's cells and one slot handed back. -/
theorem results_S1 {fn : Func} {tmps : Array Value} {s k : Nat} {ty : TypeId} (hf : fn.results = #[.cell s ty, .tmp k]) {S n : Nat} {cs : Array Value} {T : TypeId} {v : Value} (hI : RowInfo P ty n)
    (hs : tmps.getD s undef = .pointer (some ⟨S, 0, none⟩)) (hk : tmps.getD k undef = v) (hg : w.heap[S]? = some (.cells cs T (0, 0))) (hn : cs.size = n) : (results fn tmps).run P w = .ok (.tuple #[.agg cs, v]) w := by
  obtain ⟨d, hu, hd⟩ := hI.desc
  have hl := run_loadVar_row w S T ty cs (0, 0) d hg hu (by revert hd; cases d <;> simp) (by rw [hI.2, hn])
  rw [Array.getD_eq_getD_getElem?] at hs hk
  simp [results, hf, hs, hk, asAddr, hl, Sem.run_bind, Result.andThen]
/-- A struct's cells handed back. -/
theorem results_S {fn : Func} {tmps : Array Value} {s : Nat} {ty : TypeId} (hf : fn.results = #[.cell s ty]) {S n : Nat} {cs : Array Value} {T : TypeId} (hI : RowInfo P ty n)
    (hs : tmps.getD s undef = .pointer (some ⟨S, 0, none⟩)) (hg : w.heap[S]? = some (.cells cs T (0, 0))) (hn : cs.size = n) : (results fn tmps).run P w = .ok (.agg cs) w := by
  obtain ⟨d, hu, hd⟩ := hI.desc
  have hl := run_loadVar_row w S T ty cs (0, 0) d hg hu (by revert hd; cases d <;> simp) (by rw [hI.2, hn])
  rw [Array.getD_eq_getD_getElem?] at hs
  simp [results, hf, hs, asAddr, hl, Sem.run_bind, Result.andThen]
end

theorem below_dN {B : Nat} {a w : World} (h : Below B a w) (n : Nat) : Below B a (w.drewN n) := ⟨h.os, h.tape, h.output, h.size, h.block⟩
theorem row_drewN {w : World} {S : Nat} {o : Obj} (h : w.heap[S]? = some o) (n : Nat) : (w.drewN n).heap[S]? = some o := h

/-! ### Pairs: numbers in twos, whether they rise -/
def riseB : List PR → Bool
  | a :: b :: t => decide (a.1 < b.1) && riseB (b :: t)
  | _ => true
theorem riseB_snoc : ∀ (ps : List PR) (x y : PR), ps.getLast? = some x → riseB (ps ++ [y]) = (riseB ps && decide (x.1 < y.1))
  | [], x, y, h => by simp at h
  | [a], x, y, h => by simp at h; subst h; simp [riseB]
  | a :: b :: t, x, y, h => by
    have ih := riseB_snoc (b :: t) x y (by simpa using h)
    simp only [List.cons_append, riseB] at ih ⊢
    rw [ih, Bool.and_assoc]
theorem riseB_append : ∀ (ps qs : List PR), riseB ps = false → riseB (ps ++ qs) = false
  | [], qs, h => by simp [riseB] at h
  | [a], qs, h => by simp [riseB] at h
  | a :: b :: t, qs, h => by
    simp only [riseB, Bool.and_eq_false_iff] at h
    simp only [List.cons_append, riseB, Bool.and_eq_false_iff]
    rcases h with h | h
    · exact .inl h
    · exact .inr (by simpa using riseB_append (b :: t) qs h)
/-- How far pairs rise: the first k and one more. -/
theorem riseB_take (ps : List PR) (k : Nat) (x y : PR) (hx : ps[k]? = some x) (hy : ps[k + 1]? = some y) : riseB (ps.take (k + 2)) = (riseB (ps.take (k + 1)) && decide (x.1 < y.1)) := by
  have h1 : ps.take (k + 2) = ps.take (k + 1) ++ [y] := by rw [List.take_add_one, hy]; rfl
  rw [h1]
  refine riseB_snoc _ _ _ ?_
  rw [List.take_add_one, hx]; simp
theorem riseB_cut (ps : List PR) (k : Nat) (h : riseB (ps.take k) = false) : riseB ps = false := by
  have := riseB_append (ps.take k) (ps.drop k) h
  rwa [List.take_append_drop] at this
end Go.Proofs.Ytpkmdnfkeebgbaa

/- Arrays of bytes by value: loads out of the middle of a block, comparison. No program in sight; no condition. -/
namespace Go.Proofs.Ytpkmdnfkeebgbaa
open Go.ChangeShapes Go.WideShapes Go.ChangeAt Go.RowKit
open Extern.Stop (cell)
set_option linter.unusedVariables false
set_option linter.unusedSimpArgs false

def u8s (B : List Int) : List UInt8 := B.map fun b => UInt8.ofNat b.toNat
theorem u8s_cells {B : List Int} (h : IsB B) : B.map (Value.int .u8) = (u8s B).map cell := by
  unfold u8s
  rw [List.map_map]
  refine List.map_congr_left fun b hb => ?_
  obtain ⟨h1, h2⟩ := h b hb
  simp only [Function.comp, cell]
  congr 1
  rw [UInt8.toNat_ofNat']
  show b = ((b.toNat % 256 : Nat) : Int)
  omega
theorem u8s_beq {A B : List Int} (hA : IsB A) (hB : IsB B) : (u8s A == u8s B) = decide (A = B) := by
  by_cases h : A = B
  · subst h; simp
  · rw [decide_eq_false h, beq_eq_false_iff_ne]
    exact fun e => h (bytes_inj hA hB e)

/-- A type of so many bytes. -/
def BytesT (P : Program) (t : TypeId) (n : Nat) : Prop := ∃ e, P.underlying t = some (.array n e) ∧ P.underlying e = some (.int .u8) ∧ (∀ w, (sizeOf e).run P w = .ok 1 w) ∧ P.eqGuardType P.depth t = false ∧ (P.info? t).map (·.size) = some n

section
variable {P : Program} {w : World} {ops : Array Oper} {rest : List Oper} {o : Oper} {a : Act} {Q : Exit → Act → World → Prop}
theorem run_equalIn_B {t : TypeId} {n : Nat} (hT : BytesT P t n) (d : Nat) {A B : List Int} (hA : IsB A) (hB : IsB B) (la : A.length = n) (lb : B.length = n) (w : World) :
    (Op.equalIn (d + 2) t (.agg (A.map (Value.int .u8)).toArray) (.agg (B.map (Value.int .u8)).toArray)).run P w = .ok (decide (A = B)) w := by
  obtain ⟨e, ht, he, hsz, _, _⟩ := hT
  rw [u8s_cells hA, u8s_cells hB, run_equalIn_bytes w d t e n ht he hsz _ _ (by simp [u8s, la]) (by simp [u8s, lb]), u8s_beq hA hB]
theorem wp_neqB {K : Act → World → Prop} {t t2 : TypeId} {x y : Operand} (ho : o.op = .binOp .neq t x y t2) {n : Nat} (hT : BytesT P t n) {A B : List Int} (hA : IsB A) (hB : IsB B) (la : A.length = n) (lb : B.length = n)
    (hx : a.eval x = .agg (A.map (Value.int .u8)).toArray) (hy : a.eval y = .agg (B.map (Value.int .u8)).toArray) (h : K (a.put o.dst (.bool (!decide (A = B)))) w) : o.wp P a w K Q := by
  have h1 := run_equalIn_B hT 9998 hA hB la lb w
  obtain ⟨e, ht, he, hsz, hg, _⟩ := hT
  unfold Oper.wp execOp
  simp only [ho, hx, hy, Sem.run_bind, run_eqGuard_agg _ _ _ _ _ _ _ hg, Result.andThen_ok, run_neq_struct, h1, Sem.run_pure]
  exact h
theorem wp_eqlB {K : Act → World → Prop} {t t2 : TypeId} {x y : Operand} (ho : o.op = .binOp .eql t x y t2) {n : Nat} (hT : BytesT P t n) {A B : List Int} (hA : IsB A) (hB : IsB B) (la : A.length = n) (lb : B.length = n)
    (hx : a.eval x = .agg (A.map (Value.int .u8)).toArray) (hy : a.eval y = .agg (B.map (Value.int .u8)).toArray) (h : K (a.put o.dst (.bool (decide (A = B)))) w) : o.wp P a w K Q := by
  have h1 := run_equalIn_B hT 9998 hA hB la lb w
  obtain ⟨e, ht, he, hsz, hg, _⟩ := hT
  unfold Oper.wp execOp
  simp only [ho, hx, hy, Sem.run_bind, run_eqGuard_agg _ _ _ _ _ _ _ hg, Result.andThen_ok, run_eql_struct, h1, Sem.run_pure]
  exact h
theorem wpList_neqBG (hw : Region.wanted o (yielded ops a.tmps) = true) {t t2 : TypeId} {x y : Operand} (ho : o.op = .binOp .neq t x y t2) {n : Nat} (hT : BytesT P t n) {A B : List Int} (hA : IsB A) (hB : IsB B) (la : A.length = n) (lb : B.length = n)
    (hx : a.eval x = .agg (A.map (Value.int .u8)).toArray) (hy : a.eval y = .agg (B.map (Value.int .u8)).toArray) (h : wpList P ops Q rest (a.put o.dst (.bool (!decide (A = B)))) w) : wpList P ops Q (o :: rest) a w :=
  BigFrame.wpList_want hw fun _ hK => wp_neqB ho hT hA hB la lb hx hy (hK _ _ h)
theorem wpList_neqB (hgd : o.guard = none) {t t2 : TypeId} {x y : Operand} (ho : o.op = .binOp .neq t x y t2) {n : Nat} (hT : BytesT P t n) {A B : List Int} (hA : IsB A) (hB : IsB B) (la : A.length = n) (lb : B.length = n)
    (hx : a.eval x = .agg (A.map (Value.int .u8)).toArray) (hy : a.eval y = .agg (B.map (Value.int .u8)).toArray) (h : wpList P ops Q rest (a.put o.dst (.bool (!decide (A = B)))) w) : wpList P ops Q (o :: rest) a w :=
  wpList_plain hgd fun _ hK => wp_neqB ho hT hA hB la lb hx hy (hK _ _ h)
theorem wpList_eqlBG (hw : Region.wanted o (yielded ops a.tmps) = true) {t t2 : TypeId} {x y : Operand} (ho : o.op = .binOp .eql t x y t2) {n : Nat} (hT : BytesT P t n) {A B : List Int} (hA : IsB A) (hB : IsB B) (la : A.length = n) (lb : B.length = n)
    (hx : a.eval x = .agg (A.map (Value.int .u8)).toArray) (hy : a.eval y = .agg (B.map (Value.int .u8)).toArray) (h : wpList P ops Q rest (a.put o.dst (.bool (decide (A = B)))) w) : wpList P ops Q (o :: rest) a w :=
  BigFrame.wpList_want hw fun _ hK => wp_eqlB ho hT hA hB la lb hx hy (hK _ _ h)
theorem wpList_eqlB (hgd : o.guard = none) {t t2 : TypeId} {x y : Operand} (ho : o.op = .binOp .eql t x y t2) {n : Nat} (hT : BytesT P t n) {A B : List Int} (hA : IsB A) (hB : IsB B) (la : A.length = n) (lb : B.length = n)
    (hx : a.eval x = .agg (A.map (Value.int .u8)).toArray) (hy : a.eval y = .agg (B.map (Value.int .u8)).toArray) (h : wpList P ops Q rest (a.put o.dst (.bool (decide (A = B)))) w) : wpList P ops Q (o :: rest) a w :=
  wpList_plain hgd fun _ hK => wp_eqlB ho hT hA hB la lb hx hy (hK _ _ h)

theorem BytesT.row {t : TypeId} {n : Nat} (hT : BytesT P t n) : ∃ d, P.underlying t = some d ∧ d.isRow = true ∧ (P.info? t).map (·.size) = some n := by
  obtain ⟨e, ht, _, _, _, hi⟩ := hT
  exact ⟨_, ht, rfl, hi⟩
/-- The bytes lie there. -/
def AtB (w : World) (b o : Nat) (B : List Int) : Prop := w.rangeAt b o (B.map (Value.int .u8))
theorem wp_loadB {K : Act → World → Prop} {t : TypeId} {x : Operand} (ho : o.op = .load t x) {n : Nat} (hT : BytesT P t n) {b off : Nat} {B : List Int} (hx : a.eval x = .pointer (some ⟨b, off, none⟩)) (hc : AtB w b off B) (lb : B.length = n)
    (h : K (a.put o.dst (.agg (B.map (Value.int .u8)).toArray)) w) : o.wp P a w K Q := by
  obtain ⟨d, hu, hd, hi⟩ := hT.row
  exact wp_load_mid t x ho b off hx _ d hc hu hd (by rw [hi, List.length_map, lb]) h
theorem wpList_loadB (hgd : o.guard = none) {t : TypeId} {x : Operand} (ho : o.op = .load t x) {n : Nat} (hT : BytesT P t n) {b off : Nat} {B : List Int} (hx : a.eval x = .pointer (some ⟨b, off, none⟩)) (hc : AtB w b off B) (lb : B.length = n)
    (h : wpList P ops Q rest (a.put o.dst (.agg (B.map (Value.int .u8)).toArray)) w) : wpList P ops Q (o :: rest) a w :=
  wpList_plain hgd fun _ hK => wp_loadB ho hT hx hc lb (hK _ _ h)
theorem wpList_loadBG (hw : Region.wanted o (yielded ops a.tmps) = true) {t : TypeId} {x : Operand} (ho : o.op = .load t x) {n : Nat} (hT : BytesT P t n) {b off : Nat} {B : List Int} (hx : a.eval x = .pointer (some ⟨b, off, none⟩)) (hc : AtB w b off B) (lb : B.length = n)
    (h : wpList P ops Q rest (a.put o.dst (.agg (B.map (Value.int .u8)).toArray)) w) : wpList P ops Q (o :: rest) a w :=
  BigFrame.wpList_want hw fun _ hK => wp_loadB ho hT hx hc lb (hK _ _ h)
end
theorem row_range {w : World} {S o : Nat} {cs : Array Value} {T : TypeId} (h : w.heap[S]? = some (.cells cs T (0, 0))) (B : List Int) (hB : ∀ (j : Nat) (v : Value), (B.map (Value.int .u8))[j]? = some v → cs[o + j]? = some v) : AtB w S o B :=
  fun j v hv => cell_of_heap h (o + j) v (hB j v hv)
end Go.Proofs.Ytpkmdnfkeebgbaa

/- A run of cells loaded out of the middle of a block. No program in sight; no condition. -/
namespace Go.Proofs.Ytpkmdnfkeebgbaa
open Go.ChangeShapes Go.WideShapes Go.ChangeAt Go.RowKit
set_option linter.unusedVariables false
set_option linter.unusedSimpArgs false
section
variable {P : Program} {w : World} {ops : Array Oper} {rest : List Oper} {o : Oper} {a : Act} {Q : Exit → Act → World → Prop}
theorem RowInfo.row {ty : TypeId} {n : Nat} (h : RowInfo P ty n) : ∃ d, P.underlying ty = some d ∧ d.isRow = true := by
  obtain ⟨d, hu, hd⟩ := h.desc
  refine ⟨d, hu, ?_⟩
  cases d <;> simp at hd <;> rfl
theorem wp_loadMid {K : Act → World → Prop} {t : TypeId} {x : Operand} (ho : o.op = .load t x) {n : Nat} (hI : RowInfo P t n) {b off : Nat} {L : List Value} (hx : a.eval x = .pointer (some ⟨b, off, none⟩)) (hc : w.rangeAt b off L) (lb : L.length = n)
    (h : K (a.put o.dst (.agg L.toArray)) w) : o.wp P a w K Q := by
  obtain ⟨d, hu, hd⟩ := hI.row
  exact wp_load_mid t x ho b off hx _ d hc hu hd (by rw [hI.2, lb]) h
theorem wpList_loadMid (hgd : o.guard = none) {t : TypeId} {x : Operand} (ho : o.op = .load t x) {n : Nat} (hI : RowInfo P t n) {b off : Nat} {L : List Value} (hx : a.eval x = .pointer (some ⟨b, off, none⟩)) (hc : w.rangeAt b off L) (lb : L.length = n)
    (h : wpList P ops Q rest (a.put o.dst (.agg L.toArray)) w) : wpList P ops Q (o :: rest) a w :=
  wpList_plain hgd fun _ hK => wp_loadMid ho hI hx hc lb (hK _ _ h)
theorem range_of_heap {S o : Nat} {cs : Array Value} {T : TypeId} (h : w.heap[S]? = some (.cells cs T (0, 0))) (L : List Value) (hL : ∀ (j : Nat) (v : Value), L[j]? = some v → cs[o + j]? = some v) : w.rangeAt S o L :=
  fun j v hv => cell_of_heap h (o + j) v (hL j v hv)
theorem exec_buildS {ρ : Operand → Value} {t : TypeId} {parts : Array (Nat × Operand)} (ho : o.op = .build t parts) {cells : Array Value} (hf : P.built t (parts.map fun (i, x) => (i, ρ x)).toList = some cells) : (execOp ρ o).run P w = .ok (.value (.agg cells)) w := by
  unfold execOp
  simp only [ho, Sem.run_bind, run_build w t _ cells hf, Result.andThen_ok, Sem.run_pure]
end
theorem list16 {B : List Int} (h : B.length = 16) : ∃ b0 b1 b2 b3 b4 b5 b6 b7 b8 b9 b10 b11 b12 b13 b14 b15, B = [b0, b1, b2, b3, b4, b5, b6, b7, b8, b9, b10, b11, b12, b13, b14, b15] := by
  match B, h with
  | [b0, b1, b2, b3, b4, b5, b6, b7, b8, b9, b10, b11, b12, b13, b14, b15], _ => exact ⟨b0, b1, b2, b3, b4, b5, b6, b7, b8, b9, b10, b11, b12, b13, b14, b15, rfl⟩
theorem list20 {B : List Int} (h : B.length = 20) : ∃ b0 b1 b2 b3 b4 b5 b6 b7 b8 b9 b10 b11 b12 b13 b14 b15 b16 b17 b18 b19, B = [b0, b1, b2, b3, b4, b5, b6, b7, b8, b9, b10, b11, b12, b13, b14, b15, b16, b17, b18, b19] := by
  match B, h with
  | [b0, b1, b2, b3, b4, b5, b6, b7, b8, b9, b10, b11, b12, b13, b14, b15, b16, b17, b18, b19], _ => exact ⟨b0, b1, b2, b3, b4, b5, b6, b7, b8, b9, b10, b11, b12, b13, b14, b15, b16, b17, b18, b19, rfl⟩
end Go.Proofs.Ytpkmdnfkeebgbaa

/- Slices of structs: an element loaded, an element stored. No program in sight; no condition. -/
namespace Go.Proofs.Ytpkmdnfkeebgbaa
open Go.ChangeShapes Go.WideShapes Go.ChangeAt Go.RowKit
set_option linter.unusedVariables false
set_option linter.unusedSimpArgs false
section
variable {α : Type} {enc : α → List Value} {k : Nat} {P : Program} {w : World} {ops : Array Oper} {rest : List Oper} {o : Oper} {a : Act} {Q : Exit → Act → World → Prop}
theorem CellsK.range {b off : Nat} {l : List α} (h : CellsK enc k w b off l) (i : Nat) (x : α) (hx : l[i]? = some x) (p : Nat) (hp : p = off + i * k) : w.rangeAt b p (enc x) := by
  intro j v hv
  subst hp
  have := h i x hx j v hv
  rwa [← Nat.add_assoc] at this
theorem wp_loadK {K : Act → World → Prop} {t : TypeId} {y : Operand} (ho : o.op = .load t y) (hI : RowInfo P t k) {b p : Nat} (hy : a.eval y = .pointer (some ⟨b, p, none⟩)) {x : α} (hc : w.rangeAt b p (enc x)) (hE : EncK enc k)
    (h : K (a.put o.dst (.agg (enc x).toArray)) w) : o.wp P a w K Q := wp_loadMid ho hI hy hc (hE.len x) h
theorem wpList_loadK (hgd : o.guard = none) {t : TypeId} {y : Operand} (ho : o.op = .load t y) (hI : RowInfo P t k) {b p : Nat} (hy : a.eval y = .pointer (some ⟨b, p, none⟩)) {x : α} (hc : w.rangeAt b p (enc x)) (hE : EncK enc k)
    (h : wpList P ops Q rest (a.put o.dst (.agg (enc x).toArray)) w) : wpList P ops Q (o :: rest) a w :=
  wpList_plain hgd fun _ hK => wp_loadK ho hI hy hc hE (hK _ _ h)
theorem exec_loadK {ρ : Operand → Value} {t : TypeId} {y : Operand} (ho : o.op = .load t y) (hI : RowInfo P t k) {b p : Nat} (hy : ρ y = .pointer (some ⟨b, p, none⟩)) {x : α} (hc : w.rangeAt b p (enc x)) (hE : EncK enc k) :
    (execOp ρ o).run P w = .ok (.value (.agg (enc x).toArray)) w := by
  obtain ⟨d, hu, hd⟩ := hI.row
  unfold execOp
  simp only [ho, hy, Sem.run_bind, run_loadAt_mid w b p t (enc x) d hc hu hd (by rw [hI.2, hE.len]), Result.andThen_ok, Sem.run_pure]
/-- One element stored anew. -/
theorem OwnK.put (hE : EncK enc k) {e : TypeId} {base g n c : Nat} {l : List α} (h : OwnK enc k e w base (some ⟨g, 0, none⟩) n c l) (i : Nat) (hi : i < n) (x : α) : OwnK enc k e (w.setCells g (i * k) (enc x)) base (some ⟨g, 0, none⟩) n c (l.set i x) ∧ w.there g (i * k) k := by
  obtain ⟨hl, h1, h2⟩ := h
  rcases h2 with ⟨h', _⟩ | ⟨g', cap, cur, h', hb, hg, hn, hm, hs, hc⟩
  · cases h'
  · simp only [Value.slice.injEq, Option.some.injEq, Addr.mk.injEq, and_true, true_and] at h'
    obtain ⟨rfl, rfl⟩ := h'
    have hik : i * k + k ≤ n * k := by have : (i + 1) * k ≤ n * k := Nat.mul_le_mul_right k hi; rwa [Nat.succ_mul] at this
    have hnc : n * k ≤ c * k := Nat.mul_le_mul_right k hn
    have hcur : cur.toList.length = c * k := by rw [Array.length_toList]; exact hs
    refine ⟨⟨by simpa using hl, by rw [flatK_length hE]; simp [hl], .inr ⟨g, c, _, rfl, hb, row_sets (enc x) (i * k) w cur hg (by rw [hE.len, hs]; omega), hn, hm, ?_, ?_⟩⟩, ?_⟩
    · rw [List.size_toArray, List.length_append, List.length_append, List.length_take, List.length_drop, hE.len, hcur]; omega
    · rw [flatK_set hE l i x (by omega), ← hc, hE.len]
      rw [List.take_take, Nat.min_eq_left (by omega), List.drop_take, List.take_append, List.length_take, hcur, Nat.min_eq_left (by omega)]
      rw [List.take_of_length_le (by rw [List.length_take, hcur]; omega), List.take_append, hE.len, List.take_of_length_le (l := enc x) (by rw [hE.len]; omega)]
      congr 3
      omega
    · intro j hj
      have hjc : i * k + j < cur.size := by omega
      exact ⟨by rw [cell_of_heap hg (i * k + j) (cur[i * k + j]'hjc) (Array.getElem?_eq_getElem hjc)]; rfl, free_of_heap hg (i * k + j)⟩
theorem wpList_storeK (hE : EncK enc k) (hgd : o.guard = none) {t : TypeId} {y z : Operand} (ho : o.op = .store t y z) (hI : RowInfo P t k) {e : TypeId} {base g p n c : Nat} {l : List α} (hy : a.eval y = .pointer (some ⟨g, p, none⟩)) {x : α} (hz : a.eval z = .agg (enc x).toArray)
    (hown : OwnK enc k e w base (some ⟨g, 0, none⟩) n c l) {i : Nat} (hp : p = i * k) (hi : i < n)
    (h : ∀ w', OwnK enc k e w' base (some ⟨g, 0, none⟩) n c (l.set i x) → Upd (· = g) w w' → wpList P ops Q rest (a.put o.dst undef) w') : wpList P ops Q (o :: rest) a w := by
  subst hp
  obtain ⟨h1, h2⟩ := hown.put hE i hi x
  refine wpList_plain hgd fun _ hK => wp_store_mid t y z ho g (i * k) (enc x).toArray hy hz (by rw [List.size_toArray, hE.len]; exact h2) (by rw [hI.2, List.size_toArray, hE.len]) (all_oneCell_toArray (hE.one x)) (hK _ _ (h _ (by simpa using h1) (by simpa using upd_sets g (enc x) (i * k) w)))
end
section
variable {α : Type} {enc : α → List Value} {k : Nat} {w w' : World}
theorem OwnK.at {e : TypeId} {base n c : Nat} {a : Option Addr} {l : List α} (h : OwnK enc k e w base a n c l) (hp : 0 < n) : ∃ g, a = some ⟨g, 0, none⟩ ∧ base ≤ g ∧ g < w.heap.size := by
  rcases h.2.2 with ⟨_, h0⟩ | ⟨g, cap, cur, hv, hb, hg, r⟩
  · omega
  · cases hv; exact ⟨g, rfl, hb, lt_of_heap hg⟩
theorem OwnK.range (hE : EncK enc k) {e : TypeId} {base g n c : Nat} {l : List α} (h : OwnK enc k e w base (some ⟨g, 0, none⟩) n c l) (i : Nat) (x : α) (hx : l[i]? = some x) (p : Nat) (hp : p = i * k) : w.rangeAt g p (enc x) := by
  obtain ⟨b, off, hb, _, hc⟩ := (h.rd hE).at (by have := (List.getElem?_eq_some_iff.1 hx).1; have := h.1; omega)
  cases hb
  exact hc.range i x hx p (by omega)
theorem range_below {B b p : Nat} {vs : List Value} (h : w.rangeAt b p vs) (hb : Below B w w') (hB : b < B) : w'.rangeAt b p vs := fun j v hv => bcell hb hB (h j v hv)
theorem range_upd {F : Nat → Prop} {b p : Nat} {vs : List Value} (h : w.rangeAt b p vs) (hu : Upd F w w') (hf : ¬ F b) : w'.rangeAt b p vs := fun j v hv => ucell hu hf (h j v hv)
end
end Go.Proofs.Ytpkmdnfkeebgbaa

/- Structs in a block of their own: the load as a step that is taken first. No program in sight; no condition. -/
namespace Go.Proofs.Ytpkmdnfkeebgbaa
open Go.ChangeShapes Go.WideShapes Go.ChangeAt Go.RowKit
set_option linter.unusedVariables false
set_option linter.unusedSimpArgs false
section
variable {P : Program} {w : World} {o : Oper}
theorem exec_loadS {ρ : Operand → Value} {ty : TypeId} {x : Operand} (ho : o.op = .load ty x) {S n : Nat} {cs : Array Value} {T : TypeId} (hI : RowInfo P ty n)
    (hx : ρ x = .pointer (some ⟨S, 0, none⟩)) (hg : w.heap[S]? = some (.cells cs T (0, 0))) (hs : cs.size = n) : (execOp ρ o).run P w = .ok (.value (.agg cs)) w := by
  obtain ⟨d, hu, hd⟩ := hI.desc
  unfold execOp
  simp only [ho, hx, Instr.loadAt, Instr.sureAddr, Sem.run_bind, Sem.run_pure, Result.andThen_ok, run_loadVar_row w S T ty cs (0, 0) d hg hu (by revert hd; cases d <;> simp) (by rw [hI.2, hs])]
end
end Go.Proofs.Ytpkmdnfkeebgbaa

/- A journal's head as cells: the plain words. No program in sight; no condition. -/
namespace Go.Proofs.Ytpkmdnfkeebgbaa
open Go.ChangeShapes Go.WideShapes Go.ChangeAt Go.RowKit
set_option linter.unusedVariables false
set_option linter.unusedSimpArgs false

/-- The cells of a head: two numbers of 32 bits, the state, four names (64 bytes), numbers of 64 bits, two of 32, one of 64. -/
def headL (co inc st : Int) (I Ns : List Int) (ta ti te : Int) : List Value :=
  [Value.int .u32 co, Value.int .u32 inc, Value.int .i64 st] ++ (I.map (Value.int .u8) ++ (Ns.map (Value.int .u64) ++ [Value.int .u32 ta, Value.int .u32 ti, Value.int .u64 te]))
section
variable {co inc st : Int} {I Ns : List Int} {ta ti te : Int}
theorem headL_length {n : Nat} (hI : I.length = 64) (hN : Ns.length = n) : (headL co inc st I Ns ta ti te).length = 70 + n := by simp [headL, hI, hN]; omega
theorem headL_size {n : Nat} (hI : I.length = 64) (hN : Ns.length = n) : (headL co inc st I Ns ta ti te).toArray.size = 70 + n := headL_length hI hN
theorem headL_one : (headL co inc st I Ns ta ti te).toArray.all (·.oneCell') = true := by
  rw [Array.all_eq_true_iff_forall_mem]
  intro v hv
  simp only [headL, List.mem_toArray, List.mem_append, List.mem_cons, List.mem_map, List.not_mem_nil, or_false] at hv
  rcases hv with (rfl | rfl | rfl) | ⟨y, _, rfl⟩ | ⟨y, _, rfl⟩ | rfl | rfl | rfl <;> rfl
theorem headL_I (j : Nat) (v : Value) (h : (I.map (Value.int .u8))[j]? = some v) : (headL co inc st I Ns ta ti te).toArray[3 + j]? = some v := by
  have hl : j < I.length := by have := (List.getElem?_eq_some_iff.1 h).1; simpa using this
  simp only [headL, List.getElem?_toArray]
  rw [List.getElem?_append_right (by simp), List.getElem?_append_left (by simp; omega), ← h]
  simp
theorem headL_N (hI : I.length = 64) (i : Nat) (v : Int) (h : Ns[i]? = some v) : (headL co inc st I Ns ta ti te).toArray[67 + i]? = some (.int .u64 v) := by
  have hl : i < Ns.length := (List.getElem?_eq_some_iff.1 h).1
  simp only [headL, List.getElem?_toArray]
  rw [List.getElem?_append_right (by simp; omega), List.getElem?_append_right (by simp [hI]; omega), List.getElem?_append_left (by simp [hI]; omega)]
  simp only [List.length_cons, List.length_nil, List.length_map, hI]
  rw [show 67 + i - (0 + 1 + 1 + 1) - 64 = i by omega, List.getElem?_map, h]; rfl
theorem headL_ta {n : Nat} (hI : I.length = 64) (hN : Ns.length = n) : (headL co inc st I Ns ta ti te).toArray[67 + n]? = some (.int .u32 ta) := by
  simp only [headL, List.getElem?_toArray]
  rw [List.getElem?_append_right (by simp; omega), List.getElem?_append_right (by simp [hI]; omega), List.getElem?_append_right (by simp [hI, hN]; omega)]
  simp only [List.length_cons, List.length_nil, List.length_map, hI, hN]
  rw [show 67 + n - (0 + 1 + 1 + 1) - 64 - n = 0 by omega]; rfl
theorem headL_ti {n : Nat} (hI : I.length = 64) (hN : Ns.length = n) : (headL co inc st I Ns ta ti te).toArray[68 + n]? = some (.int .u32 ti) := by
  simp only [headL, List.getElem?_toArray]
  rw [List.getElem?_append_right (by simp; omega), List.getElem?_append_right (by simp [hI]; omega), List.getElem?_append_right (by simp [hI, hN]; omega)]
  simp only [List.length_cons, List.length_nil, List.length_map, hI, hN]
  rw [show 68 + n - (0 + 1 + 1 + 1) - 64 - n = 1 by omega]; rfl
theorem headL_te {n : Nat} (hI : I.length = 64) (hN : Ns.length = n) : (headL co inc st I Ns ta ti te).toArray[69 + n]? = some (.int .u64 te) := by
  simp only [headL, List.getElem?_toArray]
  rw [List.getElem?_append_right (by simp; omega), List.getElem?_append_right (by simp [hI]; omega), List.getElem?_append_right (by simp [hI, hN]; omega)]
  simp only [List.length_cons, List.length_nil, List.length_map, hI, hN]
  rw [show 69 + n - (0 + 1 + 1 + 1) - 64 - n = 2 by omega]; rfl
theorem headL_setN (hI : I.length = 64) (i : Nat) (hi : i < Ns.length) (v : Int) : (headL co inc st I Ns ta ti te).toArray.setIfInBounds (67 + i) (.int .u64 v) = (headL co inc st I (Ns.set i v) ta ti te).toArray := by
  simp only [headL, List.setIfInBounds_toArray]
  congr 1
  rw [List.set_append_right _ _ (by simp; omega), List.set_append_right _ _ (by simp [hI]; omega), List.set_append_left _ _ (by simp [hI]; omega)]
  simp only [List.length_cons, List.length_nil, List.length_map, hI]
  rw [show 67 + i - (0 + 1 + 1 + 1) - 64 = i by omega, List.map_set]
theorem headL_setCo (v : Int) : (headL co inc st I Ns ta ti te).toArray.setIfInBounds 0 (.int .u32 v) = (headL v inc st I Ns ta ti te).toArray := rfl
theorem headL_setInc (v : Int) : (headL co inc st I Ns ta ti te).toArray.setIfInBounds 1 (.int .u32 v) = (headL co v st I Ns ta ti te).toArray := rfl
theorem headL_setTa {n : Nat} (hI : I.length = 64) (hN : Ns.length = n) (v : Int) : (headL co inc st I Ns ta ti te).toArray.setIfInBounds (67 + n) (.int .u32 v) = (headL co inc st I Ns v ti te).toArray := by
  simp only [headL, List.setIfInBounds_toArray]
  congr 1
  rw [List.set_append_right _ _ (by simp; omega), List.set_append_right _ _ (by simp [hI]; omega), List.set_append_right _ _ (by simp [hI, hN]; omega)]
  simp only [List.length_cons, List.length_nil, List.length_map, hI, hN]
  rw [show 67 + n - (0 + 1 + 1 + 1) - 64 - n = 0 by omega]; rfl
theorem headL_setTi {n : Nat} (hI : I.length = 64) (hN : Ns.length = n) (v : Int) : (headL co inc st I Ns ta ti te).toArray.setIfInBounds (68 + n) (.int .u32 v) = (headL co inc st I Ns ta v te).toArray := by
  simp only [headL, List.setIfInBounds_toArray]
  congr 1
  rw [List.set_append_right _ _ (by simp; omega), List.set_append_right _ _ (by simp [hI]; omega), List.set_append_right _ _ (by simp [hI, hN]; omega)]
  simp only [List.length_cons, List.length_nil, List.length_map, hI, hN]
  rw [show 68 + n - (0 + 1 + 1 + 1) - 64 - n = 1 by omega]; rfl
theorem headL_setTe {n : Nat} (hI : I.length = 64) (hN : Ns.length = n) (v : Int) : (headL co inc st I Ns ta ti te).toArray.setIfInBounds (69 + n) (.int .u64 v) = (headL co inc st I Ns ta ti v).toArray := by
  simp only [headL, List.setIfInBounds_toArray]
  congr 1
  rw [List.set_append_right _ _ (by simp; omega), List.set_append_right _ _ (by simp [hI]; omega), List.set_append_right _ _ (by simp [hI, hN]; omega)]
  simp only [List.length_cons, List.length_nil, List.length_map, hI, hN]
  rw [show 69 + n - (0 + 1 + 1 + 1) - 64 - n = 2 by omega]; rfl
/-- One name laid over the names. -/
theorem headL_spliceI (hI : I.length = 64) (k : Nat) (X : List Int) (hX : X.length = 16) (hk : k + 16 ≤ 64) : splice (headL co inc st I Ns ta ti te) (3 + k) (X.map (Value.int .u8)) = headL co inc st (I.take k ++ (X ++ I.drop (k + 16))) Ns ta ti te := by
  unfold splice headL
  have h3 : ([Value.int .u32 co, Value.int .u32 inc, Value.int .i64 st] : List Value).length = 3 := rfl
  rw [List.take_append, List.drop_append, h3, List.length_map, hX]
  rw [List.take_of_length_le (by rw [h3]; omega), List.drop_of_length_le (l := [Value.int .u32 co, Value.int .u32 inc, Value.int .i64 st]) (by rw [h3]; omega), List.nil_append]
  rw [show 3 + k - 3 = k by omega, show 3 + k + 16 - 3 = k + 16 by omega, List.take_append_of_le_length (by simp [hI]; omega), List.drop_append_of_le_length (by simp [hI]; omega)]
  simp [List.append_assoc, List.map_take, List.map_drop]
end
/-- A name of a head: sixteen of the 64 bytes. -/
def idN (I : List Int) (k : Nat) : List Int := (I.drop k).take 16
theorem idN_length {I : List Int} (hI : I.length = 64) (k : Nat) (hk : k + 16 ≤ 64) : (idN I k).length = 16 := by simp [idN, hI]; omega
theorem idN_isB {I : List Int} (h : IsB I) (k : Nat) : IsB (idN I k) := (h.drop k).take 16
theorem headL_id {co inc st : Int} {I Ns : List Int} {ta ti te : Int} (k : Nat) (j : Nat) (v : Value) (h : ((idN I k).map (Value.int .u8))[j]? = some v) : (headL co inc st I Ns ta ti te).toArray[3 + k + j]? = some v := by
  rw [Nat.add_assoc]
  refine headL_I (k + j) v ?_
  unfold idN at h
  rw [List.getElem?_map, List.getElem?_take] at h
  rw [List.getElem?_map]
  split at h
  · rw [List.getElem?_drop] at h; exact h
  · cases h
end Go.Proofs.Ytpkmdnfkeebgbaa

/- What le.size computes: which sizes a number may have. No condition. -/
namespace Go.Proofs.Ytpkmdnfkeebgbaa
open Go.ChangeShapes Go.WideShapes Go.ChangeAt Go.RowKit
set_option linter.unusedVariables false

/-! ### size -/
def okSize (n : Int) : Bool := n == 1 || n == 2 || n == 4 || n == 8
theorem okSize_cases {n : Int} (h : okSize n = true) : n = 1 ∨ n = 2 ∨ n = 4 ∨ n = 8 := by
  simpa [okSize, or_assoc] using h

theorem size_any (n : Int) (w : World) :
    Calls Try.prog 38 #[.int .i64 n] w fun e w' => e = .returned (.bool (okSize n)) ∧ w = w' := by
  go_enter Try.func38, Try.ntmps38
  go_wp2
  all_goals
    go_ret
    exact ⟨by simp [okSize, *], rfl⟩

theorem okSize_no {n : Int} (h : okSize n = false) : (n != 1) = true ∧ (n != 2) = true ∧ (n != 4) = true ∧ (n != 8) = true := by
  simp only [okSize, Bool.or_eq_false_iff] at h
  obtain ⟨⟨⟨h1, h2⟩, h3⟩, h4⟩ := h
  exact ⟨by rw [bne, h1]; rfl, by rw [bne, h2]; rfl, by rw [bne, h3]; rfl, by rw [bne, h4]; rfl⟩

end Go.Proofs.Ytpkmdnfkeebgbaa

/- What slices.Clone computes at bytes: new bytes, the same. Conditions stand as premises. -/
namespace Go.Proofs.Ytpkmdnfkeebgbaa
open Go.ChangeShapes Go.WideShapes Go.ChangeAt Go.RowKit
set_option linter.unusedVariables false

/-! ### Clone -/
theorem Try.u8Info : (Try.prog.info? 5).map (fun i => (i.zero, i.size, i.bytes)) = some (some (.int .u8 0), 1, 1) := by kernel_rfl
theorem Try.oneB : OneInfo Try.prog 22 5 1 := by
  obtain ⟨i, hi, h0, h1, h2⟩ := info_parts Try.u8Info
  exact ⟨Try.underlying22, i, _, hi, h0, h1, h2, rfl⟩

theorem Try.zeroB : (Try.prog.info? 5).map (fun i => i.zero) = some (some (.int .u8 0)) := by kernel_rfl

/-- The answer of a call that hands back bytes of its own. -/
def NewB (base : Nat) (w : World) (l : List Int) (e : Ending) (w' : World) : Prop := ∃ a cap, e = .returned (.slice a l.length cap) ∧ OwnB 5 w' base a l.length cap l ∧ Below base w w'

theorem clone_any (a : Option Addr) (len cap : Nat) (l : List Int) (w : World) (hr : RdB w a len cap l) (hlen : len ≤ 140737488351232) :
    Calls Try.prog 37 #[.slice a len cap] w (NewB w.heap.size w l) := by
  have qn : ∀ (w : World) (a : Option Addr) (n c : Nat), (binOp .eql 22 (.slice a n c) (.slice none 0 0)).run Try.prog w = .ok (.bool a.isNone) w := fun w a n c => Lib.run_eql_slice_nil w _ _ a n c 0 0 Try.underlying22
  have Hl := Lib.hid hr.len
  cases a with
  | none =>
    have h0 : len = 0 := by
      have h1 := hr.2.2.1
      have h2 := hr.2.2.2.2.1 rfl
      omega
    obtain rfl : l = [] := List.eq_nil_of_length_eq_zero (by have := Hl.out; omega)
    clear h0
    go_enter Try.func37, Try.ntmps37
    go_wp2
    go_ret
    exact ⟨none, 0, rfl, ⟨IsB.nil, Own.nil _ _ _ _⟩, Below.refl _ _⟩
  | some ad =>
    go_enter Try.func37, Try.ntmps37
    have hr1 := hr.2.mono ((Below.refl _ _).alloc (Nat.le_refl _) (.cells #[] 5))
    have ho1 : Own (Value.int .u8) 5 (w.alloc (.cells #[] 5)) w.heap.size (some ⟨w.heap.size, 0, none⟩) 0 0 [] := Own.lit [] _ 0 rfl rfl (Nat.le_refl _) (Nat.zero_le _)
    go_wp2_with (at_builtin; go_must (refine wpList_appOwn rfl rfl Try.oneB rfl rfl ho1 hr1 (fun _ => rfl) (by omega) (by omega) (by simp) ?_); intro a' c' w' ho hb hn _)
    go_ret
    obtain rfl : l.length = len := Hl.out
    rw [Nat.zero_add] at ho
    exact ⟨a', c', rfl, ⟨hr.1, ho⟩, (((Below.refl _ _).alloc (Nat.le_refl _) _)).trans hb⟩

end Go.Proofs.Ytpkmdnfkeebgbaa

/- What le.Add computes. Conditions stand as premises. -/
namespace Go.Proofs.Ytpkmdnfkeebgbaa
open Go.ChangeShapes Go.WideShapes Go.ChangeAt Go.RowKit
set_option linter.unusedVariables false

/-! ### Add -/
theorem digs_next (v : Int) (k : Nat) (l : List Int) : l ++ digs k v ++ [v / 2 ^ (8 * k) % 256] = l ++ digs (k + 1) v := by
  rw [digs_snoc, List.append_assoc, Int.pow_mul]
  rfl

theorem add_yes (a : Option Addr) (len cap : Nat) (l : List Int) (n : Nat) (v : Int) (w : World) (hr : RdB w a len cap l) (hlen : len ≤ 140737488351000) (hs : okSize n = true) (hv : 0 ≤ v ∧ v ≤ 18446744073709551615) :
    Calls Try.prog 24 #[.slice a len cap, .int .i64 n, .int .u64 v] w (NewB w.heap.size w (l ++ digs n v)) := by
  have hn : n ≤ 8 ∧ 1 ≤ n := by rcases okSize_cases hs with h | h | h | h <;> omega
  obtain rfl : l.length = len := hr.len
  go_enter Try.func24, Try.ntmps24
  go_wp2_with (first | (go_at_call 37; refine (clone_any _ _ _ l _ hr (by omega)).mono ?_; rintro e w1 ⟨a1, c1, rfl, ho1, hb1⟩) | (go_at_call 38; refine (size_any _ _).mono ?_; rintro e w' ⟨rfl, rfl⟩))
  go_loopw [7, 16] (fun s i wr => ∃ (k : Nat) (a' : Option Addr) (c' : Nat), k ≤ n ∧ i = .int .i64 k ∧ s = .slice a' (l.length + k) c' ∧ OwnB 5 wr w.heap.size a' (l.length + k) c' (l ++ digs k v) ∧ Below w.heap.size w wr) (fun _ i _ => n - (intOf i).toNat)
  case atStart => exact ⟨0, a1, c1, Nat.zero_le _, rfl, rfl, by simpa [digs] using ho1, hb1⟩
  case round =>
    obtain ⟨k, a', c', hk, rfl, rfl, ho, hb⟩ := hrel
    by_cases hlt : k < n
    · have hsz := hb.size
      go_wp2_with (at_builtin; go_must (refine wpList_appOwn rfl rfl Try.oneB rfl rfl (ho.2.alloc _) (Rd.one _ _ _ _) (fun _ => rfl) (by omega) (by omega) (by simp; omega) ?_); intro a2 c2 w2 ho2 hb2 hn2 _)
      go_roundw
      case rel =>
        rw [digs_next] at ho2
        exact ⟨k + 1, a2, c2, by omega, by go_num, rfl, ⟨hr.1.append (digs_isB _ _), ho2⟩, (hb.alloc hsz _).trans hb2⟩
      case measure => simp [intOf]; omega
    · have : k = n := by omega
      subst this
      have Hl := Lib.hid ho.len
      go_wp2
      go_ret
      exact ⟨a', c', by rw [Hl.out]; rfl, by rw [Hl.out]; exact ho, hb⟩

theorem add_no (a : Option Addr) (len cap : Nat) (l : List Int) (n v : Int) (w : World) (hr : RdB w a len cap l) (hlen : len ≤ 140737488351000) (hs : okSize n = false) :
    Calls Try.prog 24 #[.slice a len cap, .int .i64 n, .int .u64 v] w (NewB w.heap.size w l) := by
  obtain rfl : l.length = len := hr.len
  go_enter Try.func24, Try.ntmps24
  go_wp2_with (first | (go_at_call 37; refine (clone_any _ _ _ l _ hr (by omega)).mono ?_; rintro e w1 ⟨a1, c1, rfl, ho1, hb1⟩) | (go_at_call 38; refine (size_any _ _).mono ?_; rintro e w' ⟨rfl, rfl⟩))
  go_ret
  exact ⟨a1, c1, rfl, ho1, hb1⟩

def addV (l : List Int) (n v : Int) : List Int := if okSize n then l ++ digs n.toNat v else l

theorem add_any (a : Option Addr) (len cap : Nat) (l : List Int) (n v : Int) (w : World) (hr : RdB w a len cap l) (hlen : len ≤ 140737488351000) (hv : 0 ≤ v ∧ v ≤ 18446744073709551615) :
    Calls Try.prog 24 #[.slice a len cap, .int .i64 n, .int .u64 v] w (NewB w.heap.size w (addV l n v)) := by
  unfold addV
  cases hs : okSize n
  · simpa using add_no a len cap l n v w hr hlen hs
  · obtain ⟨m, rfl⟩ := Int.eq_ofNat_of_zero_le (show 0 ≤ n by rcases okSize_cases hs with h | h | h | h <;> omega)
    simpa using add_yes a len cap l m v w hr hlen hs hv

end Go.Proofs.Ytpkmdnfkeebgbaa

/- What a head's ids, long, End compute. Conditions stand as premises. -/
namespace Go.Proofs.Ytpkmdnfkeebgbaa
open Go.ChangeShapes Go.WideShapes Go.ChangeAt Go.RowKit
set_option linter.unusedVariables false
set_option linter.unusedSimpArgs false

/-- A place in a block, as a pointer. -/
def encP (S : Nat) (o : Nat) : Value := .pointer (some ⟨S, o, none⟩)
def idPs : List Nat := [3, 19, 35, 51]
def longPs : List Nat := [67, 68, 69, 70, 71, 72, 73, 74, 75, 76, 77, 78, 79, 80, 81, 82, 83, 84, 85, 86, 87]
def PtrE (S : Nat) (ps : List Nat) (w : World) (e : Ending) (w' : World) : Prop := ∃ a, e = .returned (.slice a ps.length ps.length) ∧ Rd (encP S) w' a ps.length ps.length ps ∧ Below w.heap.size w w' ∧ (∀ x, a = some x → w.heap.size ≤ x.block)
theorem ptr_lits (S : Nat) (e : TypeId) (w : World) (ps : List Nat) (cs : Array Value) (hcs : cs = (ps.map (encP S)).toArray) (hm : ps.length ≤ 1000) : Rd (encP S) (w.alloc (.cells cs e)) (some ⟨w.heap.size, 0, none⟩) ps.length ps.length ps :=
  (Own.lit (base := 0) (e := e) ps cs ps.length hcs rfl (Nat.zero_le _) (by unfold maxLen; omega)).rd

set_option maxRecDepth 100000 in
set_option maxHeartbeats 1000000 in
theorem ids_any (S : Nat) (w : World) :
    Calls Try.prog 25 #[.pointer (some ⟨S, 0, none⟩)] w (PtrE S idPs w) := by
  go_enter Try.func25, Try.ntmps25
  go_upto_region 1 with fail
  go_region_law fail
  all_goals
    go_wp2_with fail
    go_ret
    exact ⟨_, rfl, (ptr_lits S _ w idPs _ rfl (by decide)).mono (below_drew _), (below_alloc w _).drew, fun x h => by cases h; exact Nat.le_refl _⟩

/-- Where a journal ends. -/
def endV (z r : Int) : Int := if 18446744073709551615 < z + r then 0 else z + r
def endB (z r : Int) : Bool := !decide (18446744073709551615 < z + r)
set_option maxRecDepth 100000 in
set_option maxHeartbeats 1000000 in
theorem headend_any (co inc st : Int) (I Ns : List Int) (ta ti te z r : Int) (w : World) (hI : I.length = 64) (hz : Ns[0]? = some z) (hr : Ns[1]? = some r) (hz0 : 0 ≤ z ∧ z ≤ 18446744073709551615) (hr0 : 0 ≤ r ∧ r ≤ 18446744073709551615) :
    Calls Try.prog 11 #[.agg (headL co inc st I Ns ta ti te).toArray] w fun e w' => e = .returned (.tuple #[.int .u64 (endV z r), .bool (endB z r)]) ∧ Below w.heap.size w w' := by
  have hX := heap_alloc_new w (.cells (headL co inc st I Ns ta ti te).toArray 29)
  have hB := below_alloc w (.cells (headL co inc st I Ns ta ti te).toArray 29)
  have i0 := cell_of_heap hX 67 _ (headL_N hI 0 z hz)
  have i1 := cell_of_heap hX 68 _ (headL_N hI 1 r hr)
  have HB := Lib.hid hB
  obtain ⟨z0, z1⟩ := hz0
  obtain ⟨r0, r1⟩ := hr0
  clear hz hr hI hX hB
  by_cases hbig : 18446744073709551615 < z + r
  · have hw : IntKind.u64.wrap (z + r) = z + r - 18446744073709551616 := by rw [IntKind.wrap_u64]; omega
    have h1 : endV z r = 0 := if_pos hbig
    have h2 : endB z r = false := by unfold endB; simp; omega
    have H1 := Lib.hid h1
    have H2 := Lib.hid h2
    have hlt : decide (z + r - 18446744073709551616 < z) = true := by simp; omega
    clear h1 h2
    go_enter Try.func11, Try.ntmps11
    go_upto_region 1 with fail
    generalize w.alloc (.cells (headL co inc st I Ns ta ti te).toArray 29) = w1 at i0 i1 HB ⊢
    go_wp2_with fail
    refine bodyPost_ret (v := .tuple #[.int .u64 (0), .bool false]) (by simp [results, Try.results11, go_sem]) rfl ?_
    exact ⟨by rw [H1.out, H2.out], HB.out⟩
  · have hw : IntKind.u64.wrap (z + r) = z + r := by rw [IntKind.wrap_u64]; omega
    have h1 : endV z r = z + r := if_neg hbig
    have h2 : endB z r = true := by unfold endB; simp; omega
    have H1 := Lib.hid h1
    have H2 := Lib.hid h2
    have hlt : decide (z + r < z) = false := by simp; omega
    have hlt2 : decide (r < 0) = false := by simp; omega
    clear h1 h2
    go_enter Try.func11, Try.ntmps11
    go_upto_region 1 with fail
    generalize w.alloc (.cells (headL co inc st I Ns ta ti te).toArray 29) = w1 at i0 i1 HB ⊢
    go_wp2_with fail
    refine bodyPost_ret (v := .tuple #[.int .u64 (z + r), .bool true]) (by simp [results, Try.results11, go_sem]) rfl ?_
    exact ⟨by rw [H1.out, H2.out], HB.out⟩
end Go.Proofs.Ytpkmdnfkeebgbaa

/- Moves of a walk through a region that draws its order, one operation at a time. No program in sight; no condition. -/
namespace Go.Proofs.Ytpkmdnfkeebgbaa
set_option linter.unusedVariables false

section
variable {P : Program} {ops : Array Oper} {Q : Exit → Act → World → Prop} {md : Region.Mode} {S : World → Prop}

theorem wpOp_do {i : Nat} {oi : Oper} {a : Act} {w : World} {K : Act → World → Prop} (hi : ops[i]? = some oi)
    (h : if Region.wanted oi (yielded ops a.tmps) = true then Oper.wp P oi a w K Q else K (a.put oi.dst undef) w) : wpOp P ops Q i K a w := by
  unfold wpOp
  simp only [hi]
  split
  · rename_i hw; rw [if_pos hw] at h; exact .inl h
  · rename_i hw; rw [if_neg hw] at h; exact h

/-- The only one that may come up comes up. -/
theorem any_one (i : Nat) {oi : Oper} {fuel : Nat} {listed : Array Bool} {a : Act} {w : World} (hi : ops[i]? = some oi) (hr : Region.ready md ops listed = [i])
    (h : ∀ K : Act → World → Prop, (∀ a' w', wpAny P md ops Q fuel (listed.setIfInBounds i true) a' w' → K a' w') → if Region.wanted oi (yielded ops a.tmps) = true then Oper.wp P oi a w K Q else K (a.put oi.dst undef) w) :
    wpAny P md ops Q (fuel + 1) listed a w := by
  refine ⟨fun h0 => (by rw [hr] at h0; cases h0), fun j hj => ?_⟩
  rw [hr] at hj
  obtain rfl : j = i := by simpa using hj
  exact wpOp_do hi (h _ fun a' w' h' => h')
theorem held_one (i : Nat) {oi : Oper} {fuel : Nat} {listed : Array Bool} {a : Act} {w : World} (hi : ops[i]? = some oi) (hr : Region.ready md ops listed = [i])
    (h : ∀ K : Act → World → Prop, (∀ a' w', S w' → wpAnyH P md ops Q S fuel (listed.setIfInBounds i true) a' w' → K a' w') → if Region.wanted oi (yielded ops a.tmps) = true then Oper.wp P oi a w K Q else K (a.put oi.dst undef) w) :
    wpAnyH P md ops Q S (fuel + 1) listed a w := by
  refine ⟨fun h0 => (by rw [hr] at h0; cases h0), fun j hj => ?_⟩
  rw [hr] at hj
  obtain rfl : j = i := by simpa using hj
  exact wpOp_do hi (h _ fun a' w' h1 h2 => ⟨h1, h2⟩)

/-- Number i is taken first. -/
theorem any_take (i : Nat) {oi : Oper} {d : Option Nat} {v : Value} {fuel : Nat} {listed : Array Bool} {a : Act} {w : World} (hi : ops[i]? = some oi) (hd : oi.dst = d)
    (hs : Region.noSelect ops = true) (hf : Region.free md ops listed i = true) (hr : (Region.ready md ops listed).contains i = true)
    (hQ : ∀ c a w, Q (.panic c) (a.put d v) w → Q (.panic c) a w) (hw : Region.wanted oi (yielded ops a.tmps) = true) (hy : ∀ w, (execOp a.eval oi).run P w = .ok (.value v) w)
    (h : wpAny P md ops Q fuel (listed.setIfInBounds i true) (a.put d v) w) : wpAny P md ops Q (fuel + 1) listed a w := by
  subst hd
  exact wpAny_take hi hs hf hr hQ (.inl ⟨hw, hy⟩) h
theorem held_take (i : Nat) {oi : Oper} {d : Option Nat} {v : Value} {fuel : Nat} {listed : Array Bool} {a : Act} {w : World} (hi : ops[i]? = some oi) (hd : oi.dst = d)
    (hs : Region.noSelect ops = true) (hf : Region.free md ops listed i = true) (hr : (Region.ready md ops listed).contains i = true)
    (hQ : ∀ c a w, Q (.panic c) (a.put d v) w → Q (.panic c) a w) (hS : S w) (hw : Region.wanted oi (yielded ops a.tmps) = true) (hy : ∀ w, S w → (execOp a.eval oi).run P w = .ok (.value v) w)
    (h : wpAnyH P md ops Q S fuel (listed.setIfInBounds i true) (a.put d v) w) : wpAnyH P md ops Q S (fuel + 1) listed a w := by
  subst hd
  exact wpAnyH_take hi hs hf hr hQ (.inl ⟨hw, hy⟩) hS h
/-- Number i is passed over: its guard says no. -/
theorem held_skip (i : Nat) {oi : Oper} {d : Option Nat} {fuel : Nat} {listed : Array Bool} {a : Act} {w : World} (hi : ops[i]? = some oi) (hd : oi.dst = d)
    (hs : Region.noSelect ops = true) (hf : Region.free md ops listed i = true) (hr : (Region.ready md ops listed).contains i = true)
    (hQ : ∀ c a w, Q (.panic c) (a.put d undef) w → Q (.panic c) a w) (hS : S w) (hw : Region.wanted oi (yielded ops a.tmps) = false)
    (h : wpAnyH P md ops Q S fuel (listed.setIfInBounds i true) (a.put d undef) w) : wpAnyH P md ops Q S (fuel + 1) listed a w := by
  subst hd
  exact wpAnyH_take hi hs hf hr hQ (.inr ⟨hw, rfl⟩) hS h
/-- Two may come up: both ways. -/
theorem held_two (i j : Nat) {oi oj : Oper} {fuel : Nat} {listed : Array Bool} {a : Act} {w : World} (hi : ops[i]? = some oi) (hj : ops[j]? = some oj) (hr : Region.ready md ops listed = [i, j])
    (h1 : ∀ K : Act → World → Prop, (∀ a' w', S w' → wpAnyH P md ops Q S fuel (listed.setIfInBounds i true) a' w' → K a' w') → if Region.wanted oi (yielded ops a.tmps) = true then Oper.wp P oi a w K Q else K (a.put oi.dst undef) w)
    (h2 : ∀ K : Act → World → Prop, (∀ a' w', S w' → wpAnyH P md ops Q S fuel (listed.setIfInBounds j true) a' w' → K a' w') → if Region.wanted oj (yielded ops a.tmps) = true then Oper.wp P oj a w K Q else K (a.put oj.dst undef) w) :
    wpAnyH P md ops Q S (fuel + 1) listed a w := by
  refine ⟨fun h0 => (by rw [hr] at h0; cases h0), fun k hk => ?_⟩
  rw [hr] at hk
  simp only [List.mem_cons, List.not_mem_nil, or_false] at hk
  rcases hk with rfl | rfl
  · exact wpOp_do hi (h1 _ fun a' w' h1 h2 => ⟨h1, h2⟩)
  · exact wpOp_do hj (h2 _ fun a' w' h1 h2 => ⟨h1, h2⟩)
end
end Go.Proofs.Ytpkmdnfkeebgbaa

/- What (*head.Head).long computes: the places of a head's numbers. Conditions stand as premises. -/
namespace Go.Proofs.Ytpkmdnfkeebgbaa
open Go.ChangeShapes Go.WideShapes Go.ChangeAt Go.RowKit
set_option linter.unusedVariables false
set_option maxRecDepth 100000 in
set_option maxHeartbeats 4000000 in
theorem long_any (S : Nat) (w : World) :
    Calls Try.prog 26 #[.pointer (some ⟨S, 0, none⟩)] w (PtrE S longPs w) := by
  go_enter Try.func26, Try.ntmps26
  go_wp2_with fail
  refine wp_region_any (by kernel_rfl) ?_
  change wpAny _ _ _ _ _ _ _ w.drew
  refine any_take 0 (d := some 3) (v := (.pointer (some ⟨S, 0, none⟩))) rfl rfl (by kernel_rfl) (by kernel_rfl) (by kernel_rfl) (fun _ _ _ h => h) (by kernel_rfl) (fun w => by go_simp) ?_
  try simp only [Act.put, List.setIfInBounds_toArray, List.set_cons_zero, List.set_cons_succ]
  refine any_take 1 (d := some 4) (v := (.pointer (some ⟨S, 0, none⟩))) rfl rfl (by kernel_rfl) (by kernel_rfl) (by kernel_rfl) (fun _ _ _ h => h) (by kernel_rfl) (fun w => by go_simp) ?_
  try simp only [Act.put, List.setIfInBounds_toArray, List.set_cons_zero, List.set_cons_succ]
  refine any_take 2 (d := some 5) (v := (.pointer (some ⟨S, 67, none⟩))) rfl rfl (by kernel_rfl) (by kernel_rfl) (by kernel_rfl) (fun _ _ _ h => h) (by kernel_rfl) (fun w => by go_simp) ?_
  try simp only [Act.put, List.setIfInBounds_toArray, List.set_cons_zero, List.set_cons_succ]
  refine any_take 3 (d := some 6) (v := (.pointer (some ⟨S, 0, none⟩))) rfl rfl (by kernel_rfl) (by kernel_rfl) (by kernel_rfl) (fun _ _ _ h => h) (by kernel_rfl) (fun w => by go_simp) ?_
  try simp only [Act.put, List.setIfInBounds_toArray, List.set_cons_zero, List.set_cons_succ]
  refine any_take 4 (d := some 7) (v := (.pointer (some ⟨S, 0, none⟩))) rfl rfl (by kernel_rfl) (by kernel_rfl) (by kernel_rfl) (fun _ _ _ h => h) (by kernel_rfl) (fun w => by go_simp) ?_
  try simp only [Act.put, List.setIfInBounds_toArray, List.set_cons_zero, List.set_cons_succ]
  refine any_take 5 (d := some 8) (v := (.pointer (some ⟨S, 68, none⟩))) rfl rfl (by kernel_rfl) (by kernel_rfl) (by kernel_rfl) (fun _ _ _ h => h) (by kernel_rfl) (fun w => by go_simp) ?_
  try simp only [Act.put, List.setIfInBounds_toArray, List.set_cons_zero, List.set_cons_succ]
  refine any_take 6 (d := some 9) (v := (.pointer (some ⟨S, 0, none⟩))) rfl rfl (by kernel_rfl) (by kernel_rfl) (by kernel_rfl) (fun _ _ _ h => h) (by kernel_rfl) (fun w => by go_simp) ?_
  try simp only [Act.put, List.setIfInBounds_toArray, List.set_cons_zero, List.set_cons_succ]
  refine any_take 7 (d := some 10) (v := (.pointer (some ⟨S, 0, none⟩))) rfl rfl (by kernel_rfl) (by kernel_rfl) (by kernel_rfl) (fun _ _ _ h => h) (by kernel_rfl) (fun w => by go_simp) ?_
  try simp only [Act.put, List.setIfInBounds_toArray, List.set_cons_zero, List.set_cons_succ]
  refine any_take 8 (d := some 11) (v := (.pointer (some ⟨S, 69, none⟩))) rfl rfl (by kernel_rfl) (by kernel_rfl) (by kernel_rfl) (fun _ _ _ h => h) (by kernel_rfl) (fun w => by go_simp) ?_
  try simp only [Act.put, List.setIfInBounds_toArray, List.set_cons_zero, List.set_cons_succ]
  refine any_take 9 (d := some 12) (v := (.pointer (some ⟨S, 0, none⟩))) rfl rfl (by kernel_rfl) (by kernel_rfl) (by kernel_rfl) (fun _ _ _ h => h) (by kernel_rfl) (fun w => by go_simp) ?_
  try simp only [Act.put, List.setIfInBounds_toArray, List.set_cons_zero, List.set_cons_succ]
  refine any_take 10 (d := some 13) (v := (.pointer (some ⟨S, 0, none⟩))) rfl rfl (by kernel_rfl) (by kernel_rfl) (by kernel_rfl) (fun _ _ _ h => h) (by kernel_rfl) (fun w => by go_simp) ?_
  try simp only [Act.put, List.setIfInBounds_toArray, List.set_cons_zero, List.set_cons_succ]
  refine any_take 11 (d := some 14) (v := (.pointer (some ⟨S, 70, none⟩))) rfl rfl (by kernel_rfl) (by kernel_rfl) (by kernel_rfl) (fun _ _ _ h => h) (by kernel_rfl) (fun w => by go_simp) ?_
  try simp only [Act.put, List.setIfInBounds_toArray, List.set_cons_zero, List.set_cons_succ]
  refine any_take 12 (d := some 15) (v := (.pointer (some ⟨S, 0, none⟩))) rfl rfl (by kernel_rfl) (by kernel_rfl) (by kernel_rfl) (fun _ _ _ h => h) (by kernel_rfl) (fun w => by go_simp) ?_
  try simp only [Act.put, List.setIfInBounds_toArray, List.set_cons_zero, List.set_cons_succ]
  refine any_take 13 (d := some 16) (v := (.pointer (some ⟨S, 0, none⟩))) rfl rfl (by kernel_rfl) (by kernel_rfl) (by kernel_rfl) (fun _ _ _ h => h) (by kernel_rfl) (fun w => by go_simp) ?_
  try simp only [Act.put, List.setIfInBounds_toArray, List.set_cons_zero, List.set_cons_succ]
  refine any_take 14 (d := some 17) (v := (.pointer (some ⟨S, 71, none⟩))) rfl rfl (by kernel_rfl) (by kernel_rfl) (by kernel_rfl) (fun _ _ _ h => h) (by kernel_rfl) (fun w => by go_simp) ?_
  try simp only [Act.put, List.setIfInBounds_toArray, List.set_cons_zero, List.set_cons_succ]
  refine any_take 15 (d := some 18) (v := (.pointer (some ⟨S, 0, none⟩))) rfl rfl (by kernel_rfl) (by kernel_rfl) (by kernel_rfl) (fun _ _ _ h => h) (by kernel_rfl) (fun w => by go_simp) ?_
  try simp only [Act.put, List.setIfInBounds_toArray, List.set_cons_zero, List.set_cons_succ]
  refine any_take 16 (d := some 19) (v := (.pointer (some ⟨S, 0, none⟩))) rfl rfl (by kernel_rfl) (by kernel_rfl) (by kernel_rfl) (fun _ _ _ h => h) (by kernel_rfl) (fun w => by go_simp) ?_
  try simp only [Act.put, List.setIfInBounds_toArray, List.set_cons_zero, List.set_cons_succ]
  refine any_take 17 (d := some 20) (v := (.pointer (some ⟨S, 72, none⟩))) rfl rfl (by kernel_rfl) (by kernel_rfl) (by kernel_rfl) (fun _ _ _ h => h) (by kernel_rfl) (fun w => by go_simp) ?_
  try simp only [Act.put, List.setIfInBounds_toArray, List.set_cons_zero, List.set_cons_succ]
  refine any_take 18 (d := some 21) (v := (.pointer (some ⟨S, 0, none⟩))) rfl rfl (by kernel_rfl) (by kernel_rfl) (by kernel_rfl) (fun _ _ _ h => h) (by kernel_rfl) (fun w => by go_simp) ?_
  try simp only [Act.put, List.setIfInBounds_toArray, List.set_cons_zero, List.set_cons_succ]
  refine any_take 19 (d := some 22) (v := (.pointer (some ⟨S, 0, none⟩))) rfl rfl (by kernel_rfl) (by kernel_rfl) (by kernel_rfl) (fun _ _ _ h => h) (by kernel_rfl) (fun w => by go_simp) ?_
  try simp only [Act.put, List.setIfInBounds_toArray, List.set_cons_zero, List.set_cons_succ]
  refine any_take 20 (d := some 23) (v := (.pointer (some ⟨S, 73, none⟩))) rfl rfl (by kernel_rfl) (by kernel_rfl) (by kernel_rfl) (fun _ _ _ h => h) (by kernel_rfl) (fun w => by go_simp) ?_
  try simp only [Act.put, List.setIfInBounds_toArray, List.set_cons_zero, List.set_cons_succ]
  refine any_take 21 (d := some 24) (v := (.pointer (some ⟨S, 0, none⟩))) rfl rfl (by kernel_rfl) (by kernel_rfl) (by kernel_rfl) (fun _ _ _ h => h) (by kernel_rfl) (fun w => by go_simp) ?_
  try simp only [Act.put, List.setIfInBounds_toArray, List.set_cons_zero, List.set_cons_succ]
  refine any_take 22 (d := some 25) (v := (.pointer (some ⟨S, 0, none⟩))) rfl rfl (by kernel_rfl) (by kernel_rfl) (by kernel_rfl) (fun _ _ _ h => h) (by kernel_rfl) (fun w => by go_simp) ?_
  try simp only [Act.put, List.setIfInBounds_toArray, List.set_cons_zero, List.set_cons_succ]
  refine any_take 23 (d := some 26) (v := (.pointer (some ⟨S, 74, none⟩))) rfl rfl (by kernel_rfl) (by kernel_rfl) (by kernel_rfl) (fun _ _ _ h => h) (by kernel_rfl) (fun w => by go_simp) ?_
  try simp only [Act.put, List.setIfInBounds_toArray, List.set_cons_zero, List.set_cons_succ]
  refine any_take 24 (d := some 27) (v := (.pointer (some ⟨S, 0, none⟩))) rfl rfl (by kernel_rfl) (by kernel_rfl) (by kernel_rfl) (fun _ _ _ h => h) (by kernel_rfl) (fun w => by go_simp) ?_
  try simp only [Act.put, List.setIfInBounds_toArray, List.set_cons_zero, List.set_cons_succ]
  refine any_take 25 (d := some 28) (v := (.pointer (some ⟨S, 0, none⟩))) rfl rfl (by kernel_rfl) (by kernel_rfl) (by kernel_rfl) (fun _ _ _ h => h) (by kernel_rfl) (fun w => by go_simp) ?_
  try simp only [Act.put, List.setIfInBounds_toArray, List.set_cons_zero, List.set_cons_succ]
  refine any_take 26 (d := some 29) (v := (.pointer (some ⟨S, 75, none⟩))) rfl rfl (by kernel_rfl) (by kernel_rfl) (by kernel_rfl) (fun _ _ _ h => h) (by kernel_rfl) (fun w => by go_simp) ?_
  try simp only [Act.put, List.setIfInBounds_toArray, List.set_cons_zero, List.set_cons_succ]
  refine any_take 27 (d := some 30) (v := (.pointer (some ⟨S, 0, none⟩))) rfl rfl (by kernel_rfl) (by kernel_rfl) (by kernel_rfl) (fun _ _ _ h => h) (by kernel_rfl) (fun w => by go_simp) ?_
  try simp only [Act.put, List.setIfInBounds_toArray, List.set_cons_zero, List.set_cons_succ]
  refine any_take 28 (d := some 31) (v := (.pointer (some ⟨S, 0, none⟩))) rfl rfl (by kernel_rfl) (by kernel_rfl) (by kernel_rfl) (fun _ _ _ h => h) (by kernel_rfl) (fun w => by go_simp) ?_
  try simp only [Act.put, List.setIfInBounds_toArray, List.set_cons_zero, List.set_cons_succ]
  refine any_take 29 (d := some 32) (v := (.pointer (some ⟨S, 76, none⟩))) rfl rfl (by kernel_rfl) (by kernel_rfl) (by kernel_rfl) (fun _ _ _ h => h) (by kernel_rfl) (fun w => by go_simp) ?_
  try simp only [Act.put, List.setIfInBounds_toArray, List.set_cons_zero, List.set_cons_succ]
  refine any_take 30 (d := some 33) (v := (.pointer (some ⟨S, 0, none⟩))) rfl rfl (by kernel_rfl) (by kernel_rfl) (by kernel_rfl) (fun _ _ _ h => h) (by kernel_rfl) (fun w => by go_simp) ?_
  try simp only [Act.put, List.setIfInBounds_toArray, List.set_cons_zero, List.set_cons_succ]
  refine any_take 31 (d := some 34) (v := (.pointer (some ⟨S, 0, none⟩))) rfl rfl (by kernel_rfl) (by kernel_rfl) (by kernel_rfl) (fun _ _ _ h => h) (by kernel_rfl) (fun w => by go_simp) ?_
  try simp only [Act.put, List.setIfInBounds_toArray, List.set_cons_zero, List.set_cons_succ]
  refine any_take 32 (d := some 35) (v := (.pointer (some ⟨S, 77, none⟩))) rfl rfl (by kernel_rfl) (by kernel_rfl) (by kernel_rfl) (fun _ _ _ h => h) (by kernel_rfl) (fun w => by go_simp) ?_
  try simp only [Act.put, List.setIfInBounds_toArray, List.set_cons_zero, List.set_cons_succ]
  refine any_take 33 (d := some 36) (v := (.pointer (some ⟨S, 0, none⟩))) rfl rfl (by kernel_rfl) (by kernel_rfl) (by kernel_rfl) (fun _ _ _ h => h) (by kernel_rfl) (fun w => by go_simp) ?_
  try simp only [Act.put, List.setIfInBounds_toArray, List.set_cons_zero, List.set_cons_succ]
  refine any_take 34 (d := some 37) (v := (.pointer (some ⟨S, 0, none⟩))) rfl rfl (by kernel_rfl) (by kernel_rfl) (by kernel_rfl) (fun _ _ _ h => h) (by kernel_rfl) (fun w => by go_simp) ?_
  try simp only [Act.put, List.setIfInBounds_toArray, List.set_cons_zero, List.set_cons_succ]
  refine any_take 35 (d := some 38) (v := (.pointer (some ⟨S, 78, none⟩))) rfl rfl (by kernel_rfl) (by kernel_rfl) (by kernel_rfl) (fun _ _ _ h => h) (by kernel_rfl) (fun w => by go_simp) ?_
  try simp only [Act.put, List.setIfInBounds_toArray, List.set_cons_zero, List.set_cons_succ]
  refine any_take 36 (d := some 39) (v := (.pointer (some ⟨S, 0, none⟩))) rfl rfl (by kernel_rfl) (by kernel_rfl) (by kernel_rfl) (fun _ _ _ h => h) (by kernel_rfl) (fun w => by go_simp) ?_
  try simp only [Act.put, List.setIfInBounds_toArray, List.set_cons_zero, List.set_cons_succ]
  refine any_take 37 (d := some 40) (v := (.pointer (some ⟨S, 0, none⟩))) rfl rfl (by kernel_rfl) (by kernel_rfl) (by kernel_rfl) (fun _ _ _ h => h) (by kernel_rfl) (fun w => by go_simp) ?_
  try simp only [Act.put, List.setIfInBounds_toArray, List.set_cons_zero, List.set_cons_succ]
  refine any_take 38 (d := some 41) (v := (.pointer (some ⟨S, 79, none⟩))) rfl rfl (by kernel_rfl) (by kernel_rfl) (by kernel_rfl) (fun _ _ _ h => h) (by kernel_rfl) (fun w => by go_simp) ?_
  try simp only [Act.put, List.setIfInBounds_toArray, List.set_cons_zero, List.set_cons_succ]
  refine any_take 39 (d := some 42) (v := (.pointer (some ⟨S, 0, none⟩))) rfl rfl (by kernel_rfl) (by kernel_rfl) (by kernel_rfl) (fun _ _ _ h => h) (by kernel_rfl) (fun w => by go_simp) ?_
  try simp only [Act.put, List.setIfInBounds_toArray, List.set_cons_zero, List.set_cons_succ]
  refine any_take 40 (d := some 43) (v := (.pointer (some ⟨S, 0, none⟩))) rfl rfl (by kernel_rfl) (by kernel_rfl) (by kernel_rfl) (fun _ _ _ h => h) (by kernel_rfl) (fun w => by go_simp) ?_
  try simp only [Act.put, List.setIfInBounds_toArray, List.set_cons_zero, List.set_cons_succ]
  refine any_take 41 (d := some 44) (v := (.pointer (some ⟨S, 80, none⟩))) rfl rfl (by kernel_rfl) (by kernel_rfl) (by kernel_rfl) (fun _ _ _ h => h) (by kernel_rfl) (fun w => by go_simp) ?_
  try simp only [Act.put, List.setIfInBounds_toArray, List.set_cons_zero, List.set_cons_succ]
  refine any_take 42 (d := some 45) (v := (.pointer (some ⟨S, 0, none⟩))) rfl rfl (by kernel_rfl) (by kernel_rfl) (by kernel_rfl) (fun _ _ _ h => h) (by kernel_rfl) (fun w => by go_simp) ?_
  try simp only [Act.put, List.setIfInBounds_toArray, List.set_cons_zero, List.set_cons_succ]
  refine any_take 43 (d := some 46) (v := (.pointer (some ⟨S, 0, none⟩))) rfl rfl (by kernel_rfl) (by kernel_rfl) (by kernel_rfl) (fun _ _ _ h => h) (by kernel_rfl) (fun w => by go_simp) ?_
  try simp only [Act.put, List.setIfInBounds_toArray, List.set_cons_zero, List.set_cons_succ]
  refine any_take 44 (d := some 47) (v := (.pointer (some ⟨S, 81, none⟩))) rfl rfl (by kernel_rfl) (by kernel_rfl) (by kernel_rfl) (fun _ _ _ h => h) (by kernel_rfl) (fun w => by go_simp) ?_
  try simp only [Act.put, List.setIfInBounds_toArray, List.set_cons_zero, List.set_cons_succ]
  refine any_take 45 (d := some 48) (v := (.pointer (some ⟨S, 0, none⟩))) rfl rfl (by kernel_rfl) (by kernel_rfl) (by kernel_rfl) (fun _ _ _ h => h) (by kernel_rfl) (fun w => by go_simp) ?_
  try simp only [Act.put, List.setIfInBounds_toArray, List.set_cons_zero, List.set_cons_succ]
  refine any_take 46 (d := some 49) (v := (.pointer (some ⟨S, 0, none⟩))) rfl rfl (by kernel_rfl) (by kernel_rfl) (by kernel_rfl) (fun _ _ _ h => h) (by kernel_rfl) (fun w => by go_simp) ?_
  try simp only [Act.put, List.setIfInBounds_toArray, List.set_cons_zero, List.set_cons_succ]
  refine any_take 47 (d := some 50) (v := (.pointer (some ⟨S, 82, none⟩))) rfl rfl (by kernel_rfl) (by kernel_rfl) (by kernel_rfl) (fun _ _ _ h => h) (by kernel_rfl) (fun w => by go_simp) ?_
  try simp only [Act.put, List.setIfInBounds_toArray, List.set_cons_zero, List.set_cons_succ]
  refine any_take 48 (d := some 51) (v := (.pointer (some ⟨S, 0, none⟩))) rfl rfl (by kernel_rfl) (by kernel_rfl) (by kernel_rfl) (fun _ _ _ h => h) (by kernel_rfl) (fun w => by go_simp) ?_
  try simp only [Act.put, List.setIfInBounds_toArray, List.set_cons_zero, List.set_cons_succ]
  refine any_take 49 (d := some 52) (v := (.pointer (some ⟨S, 0, none⟩))) rfl rfl (by kernel_rfl) (by kernel_rfl) (by kernel_rfl) (fun _ _ _ h => h) (by kernel_rfl) (fun w => by go_simp) ?_
  try simp only [Act.put, List.setIfInBounds_toArray, List.set_cons_zero, List.set_cons_succ]
  refine any_take 50 (d := some 53) (v := (.pointer (some ⟨S, 83, none⟩))) rfl rfl (by kernel_rfl) (by kernel_rfl) (by kernel_rfl) (fun _ _ _ h => h) (by kernel_rfl) (fun w => by go_simp) ?_
  try simp only [Act.put, List.setIfInBounds_toArray, List.set_cons_zero, List.set_cons_succ]
  refine any_take 51 (d := some 54) (v := (.pointer (some ⟨S, 0, none⟩))) rfl rfl (by kernel_rfl) (by kernel_rfl) (by kernel_rfl) (fun _ _ _ h => h) (by kernel_rfl) (fun w => by go_simp) ?_
  try simp only [Act.put, List.setIfInBounds_toArray, List.set_cons_zero, List.set_cons_succ]
  refine any_take 52 (d := some 55) (v := (.pointer (some ⟨S, 0, none⟩))) rfl rfl (by kernel_rfl) (by kernel_rfl) (by kernel_rfl) (fun _ _ _ h => h) (by kernel_rfl) (fun w => by go_simp) ?_
  try simp only [Act.put, List.setIfInBounds_toArray, List.set_cons_zero, List.set_cons_succ]
  refine any_take 53 (d := some 56) (v := (.pointer (some ⟨S, 84, none⟩))) rfl rfl (by kernel_rfl) (by kernel_rfl) (by kernel_rfl) (fun _ _ _ h => h) (by kernel_rfl) (fun w => by go_simp) ?_
  try simp only [Act.put, List.setIfInBounds_toArray, List.set_cons_zero, List.set_cons_succ]
  refine any_take 54 (d := some 57) (v := (.pointer (some ⟨S, 0, none⟩))) rfl rfl (by kernel_rfl) (by kernel_rfl) (by kernel_rfl) (fun _ _ _ h => h) (by kernel_rfl) (fun w => by go_simp) ?_
  try simp only [Act.put, List.setIfInBounds_toArray, List.set_cons_zero, List.set_cons_succ]
  refine any_take 55 (d := some 58) (v := (.pointer (some ⟨S, 0, none⟩))) rfl rfl (by kernel_rfl) (by kernel_rfl) (by kernel_rfl) (fun _ _ _ h => h) (by kernel_rfl) (fun w => by go_simp) ?_
  try simp only [Act.put, List.setIfInBounds_toArray, List.set_cons_zero, List.set_cons_succ]
  refine any_take 56 (d := some 59) (v := (.pointer (some ⟨S, 85, none⟩))) rfl rfl (by kernel_rfl) (by kernel_rfl) (by kernel_rfl) (fun _ _ _ h => h) (by kernel_rfl) (fun w => by go_simp) ?_
  try simp only [Act.put, List.setIfInBounds_toArray, List.set_cons_zero, List.set_cons_succ]
  refine any_take 57 (d := some 60) (v := (.pointer (some ⟨S, 0, none⟩))) rfl rfl (by kernel_rfl) (by kernel_rfl) (by kernel_rfl) (fun _ _ _ h => h) (by kernel_rfl) (fun w => by go_simp) ?_
  try simp only [Act.put, List.setIfInBounds_toArray, List.set_cons_zero, List.set_cons_succ]
  refine any_take 58 (d := some 61) (v := (.pointer (some ⟨S, 0, none⟩))) rfl rfl (by kernel_rfl) (by kernel_rfl) (by kernel_rfl) (fun _ _ _ h => h) (by kernel_rfl) (fun w => by go_simp) ?_
  try simp only [Act.put, List.setIfInBounds_toArray, List.set_cons_zero, List.set_cons_succ]
  refine any_take 59 (d := some 62) (v := (.pointer (some ⟨S, 86, none⟩))) rfl rfl (by kernel_rfl) (by kernel_rfl) (by kernel_rfl) (fun _ _ _ h => h) (by kernel_rfl) (fun w => by go_simp) ?_
  try simp only [Act.put, List.setIfInBounds_toArray, List.set_cons_zero, List.set_cons_succ]
  refine any_take 60 (d := some 63) (v := (.pointer (some ⟨S, 0, none⟩))) rfl rfl (by kernel_rfl) (by kernel_rfl) (by kernel_rfl) (fun _ _ _ h => h) (by kernel_rfl) (fun w => by go_simp) ?_
  try simp only [Act.put, List.setIfInBounds_toArray, List.set_cons_zero, List.set_cons_succ]
  refine any_take 61 (d := some 64) (v := (.pointer (some ⟨S, 0, none⟩))) rfl rfl (by kernel_rfl) (by kernel_rfl) (by kernel_rfl) (fun _ _ _ h => h) (by kernel_rfl) (fun w => by go_simp) ?_
  try simp only [Act.put, List.setIfInBounds_toArray, List.set_cons_zero, List.set_cons_succ]
  refine any_take 62 (d := some 65) (v := (.pointer (some ⟨S, 87, none⟩))) rfl rfl (by kernel_rfl) (by kernel_rfl) (by kernel_rfl) (fun _ _ _ h => h) (by kernel_rfl) (fun w => by go_simp) ?_
  try simp only [Act.put, List.setIfInBounds_toArray, List.set_cons_zero, List.set_cons_succ]
  refine any_one 63 rfl (by kernel_rfl) (fun K hK => ?_)
  go_simp
  refine hK _ _ ?_
  clear hK K
  try simp only [Act.put, List.setIfInBounds_toArray, List.set_cons_zero, List.set_cons_succ]
  refine any_take 64 (d := some 2) (v := (.slice (some ⟨w.heap.size, 0, none⟩) 21 21)) rfl rfl (by kernel_rfl) (by kernel_rfl) (by kernel_rfl) (fun _ _ _ h => h) (by kernel_rfl) (fun w => by go_simp) ?_
  try simp only [Act.put, List.setIfInBounds_toArray, List.set_cons_zero, List.set_cons_succ]
  refine wpAny_done (by kernel_rfl) ?_ _
  go_wp2_with fail
  go_ret
  exact ⟨_, rfl, (ptr_lits S _ w longPs _ rfl (by decide)).mono (below_drew _), (below_alloc w _).drew, fun x h => by cases h; exact Nat.le_refl _⟩
end Go.Proofs.Ytpkmdnfkeebgbaa

/- Objects' bytes and numbers' bytes: the plain words. No program in sight; no condition. -/
namespace Go.Proofs.Ytpkmdnfkeebgbaa
set_option linter.unusedVariables false

/-- An object of a kind: its bytes. -/
def objL (kind : Int) (b : List Int) : List Int := kind :: (List.replicate 7 0 ++ (digs 8 (16 + b.length) ++ (b ++ List.replicate ((8 - b.length % 8) % 8) 0)))
/-- What Put answers. -/
def putO (kind : Int) (b : List Int) : List Int := if 1 ≤ kind ∧ kind ≤ 7 then objL kind b else []

theorem objL_length (kind : Int) (b : List Int) : (objL kind b).length = 16 + b.length + (8 - b.length % 8) % 8 := by
  simp [objL, digs_length]; omega
theorem objL_isB {kind : Int} {b : List Int} (hk : 1 ≤ kind ∧ kind ≤ 7) (hb : IsB b) : IsB (objL kind b) :=
  IsB.cons (by omega) ((IsB.replicate 7).append ((digs_isB _ _).append (hb.append (IsB.replicate _))))

/-- Numbers of eight bytes, one behind the other. -/
def numsL (l : List Int) : List Int := l.flatMap (digs 8)
theorem numsL_length (l : List Int) : (numsL l).length = 8 * l.length := by
  induction l with
  | nil => rfl
  | cons v l ih => simp only [numsL, List.flatMap_cons, List.length_append, digs_length, List.length_cons] at ih ⊢; omega
theorem numsL_isB (l : List Int) : IsB (numsL l) := by
  induction l with
  | nil => exact IsB.nil
  | cons v l ih => exact (digs_isB 8 v).append ih
theorem numsL_snoc (l : List Int) (k : Nat) (h : k < l.length) : numsL (l.take (k + 1)) = numsL (l.take k) ++ digs 8 (l[k]'h) := by
  have e : l[k]?.getD 0 = l[k] := by simp [h]
  rw [numsL, take_snoc l k h, List.flatMap_append, e, List.flatMap_singleton]
  rfl
end Go.Proofs.Ytpkmdnfkeebgbaa

/- Names (sixteen bytes): their type, where they lie. No condition. -/
namespace Go.Proofs.Ytpkmdnfkeebgbaa
open Go.ChangeShapes Go.WideShapes Go.ChangeAt Go.RowKit
set_option linter.unusedVariables false
set_option linter.unusedSimpArgs false

theorem RdB.mk2 {w : World} {a : Option Addr} {n c : Nat} {l : List Int} (h1 : IsB l) (h2 : Rd (Value.int .u8) w a n c l) : RdB w a n c l := ⟨h1, h2⟩
def U64 (v : Int) : Prop := 0 ≤ v ∧ v ≤ 18446744073709551615
theorem sizeOne {P : Program} {e : TypeId} (h : (P.info? e).map (·.size) = some 1) (w : World) : (sizeOf e).run P w = .ok 1 w := by
  cases hq : P.info? e with
  | none => simp [hq] at h
  | some i => have : i.size = 1 := by simpa [hq] using h
              simp [sizeOf, typeInfo, hq, this]
theorem Try.idT : BytesT Try.prog 26 16 := ⟨5, by kernel_rfl, by kernel_rfl, sizeOne (by kernel_rfl), by kernel_rfl, by kernel_rfl⟩
theorem AtB.mono {w w' : World} {b o : Nat} {B : List Int} (h : AtB w b o B) (hb : Below w.heap.size w w') : AtB w' b o B :=
  fun j v hv => bcell hb (World.block_lt_of_cell? w _ (h j v hv)) (h j v hv)

theorem AtB.rd {w : World} {S o n : Nat} {B : List Int} (h : AtB w S o B) (hn : B.length = n) (hS : S < w.heap.size) (hm : n ≤ 1000) : Rd (Value.int .u8) w (some ⟨S, o, none⟩) n n B :=
  ⟨hn, Nat.le_refl _, by unfold maxLen; omega, (fun h => by cases h), .inr ⟨S, o, rfl, hS, fun i y hy => h i _ (by rw [List.getElem?_map, hy]; rfl)⟩⟩
theorem Rd.lits {α : Type} (enc : α → Value) (e : TypeId) (w : World) (l : List α) (cs : Array Value) (n : Nat) (hcs : cs = (l.map enc).toArray) (hn : l.length = n) (hm : n ≤ 1000) : Rd enc (w.alloc (.cells cs e)) (some ⟨w.heap.size, 0, none⟩) n n l :=
  (Own.lit (base := 0) (e := e) l cs n hcs hn (Nat.zero_le _) (by unfold maxLen; omega)).rd
theorem Try.idI : RowInfo Try.prog 26 16 := ⟨by kernel_rfl, by kernel_rfl⟩
theorem bytes_one (B : List Int) : (B.map (Value.int .u8)).toArray.all (·.oneCell') = true := by
  rw [Array.all_eq_true_iff_forall_mem]
  intro v hv
  obtain ⟨y, _, rfl⟩ := List.mem_map.1 (List.mem_toArray.1 hv)
  rfl
end Go.Proofs.Ytpkmdnfkeebgbaa

/- What head.Put computes: a head's bytes. Conditions stand as premises. -/
namespace Go.Proofs.Ytpkmdnfkeebgbaa
open Go.ChangeShapes Go.WideShapes Go.ChangeAt Go.RowKit
set_option linter.unusedVariables false
set_option linter.unusedSimpArgs false

def U32 (v : Int) : Prop := 0 ≤ v ∧ v ≤ 4294967295
/-- What a journal begins with. -/
def signL : List Int := [76, 80, 75, 83, 72, 72, 82, 72]
def headA (co inc st : Int) : List Int := signL ++ digs 4 co ++ digs 4 inc ++ [st % 256, 0, 0, 0, 0, 0, 0, 0]
/-- A head's bytes. -/
def headB (co inc st : Int) (I Ns : List Int) (ta ti te : Int) : List Int := headA co inc st ++ I ++ numsL Ns ++ digs 4 ta ++ digs 4 ti ++ digs 8 te
theorem headA_length (co inc st : Int) : (headA co inc st).length = 24 := by simp [headA, signL, digs_length]
theorem headA_isB (co inc st : Int) : IsB (headA co inc st) := by
  unfold headA
  refine (((show IsB signL from by unfold signL IsB; simp).append (digs_isB _ _)).append (digs_isB _ _)).append ?_
  exact IsB.cons (by omega) (IsB.replicate 7)
theorem headB_length {co inc st : Int} {I Ns : List Int} {ta ti te : Int} (hI : I.length = 64) : (headB co inc st I Ns ta ti te).length = 104 + 8 * Ns.length := by
  simp [headB, headA_length, numsL_length, digs_length, hI]; omega
theorem headB_isB {co inc st : Int} {I Ns : List Int} {ta ti te : Int} (hI : IsB I) : IsB (headB co inc st I Ns ta ti te) :=
  (((((headA_isB _ _ _).append hI).append (numsL_isB _)).append (digs_isB _ _)).append (digs_isB _ _)).append (digs_isB _ _)

theorem headl_0 {w : World} {S : Nat} {co inc st : Int} {I Ns : List Int} {ta ti te : Int} {T : TypeId} (h : w.heap[S]? = some (.cells (headL co inc st I Ns ta ti te).toArray T (0, 0))) : w.cell? ⟨S, 0, none⟩ = some (.int .u32 co) := cell_of_heap h 0 _ rfl
theorem headl_1 {w : World} {S : Nat} {co inc st : Int} {I Ns : List Int} {ta ti te : Int} {T : TypeId} (h : w.heap[S]? = some (.cells (headL co inc st I Ns ta ti te).toArray T (0, 0))) : w.cell? ⟨S, 1, none⟩ = some (.int .u32 inc) := cell_of_heap h 1 _ rfl
theorem headl_2 {w : World} {S : Nat} {co inc st : Int} {I Ns : List Int} {ta ti te : Int} {T : TypeId} (h : w.heap[S]? = some (.cells (headL co inc st I Ns ta ti te).toArray T (0, 0))) : w.cell? ⟨S, 2, none⟩ = some (.int .i64 st) := cell_of_heap h 2 _ rfl
theorem headl_ta {w : World} {S : Nat} {co inc st : Int} {I Ns : List Int} {ta ti te : Int} {T : TypeId} (h : w.heap[S]? = some (.cells (headL co inc st I Ns ta ti te).toArray T (0, 0))) (hI : I.length = 64) (hN : Ns.length = 21) : w.cell? ⟨S, 88, none⟩ = some (.int .u32 ta) := cell_of_heap h 88 _ (headL_ta hI hN)
theorem headl_ti {w : World} {S : Nat} {co inc st : Int} {I Ns : List Int} {ta ti te : Int} {T : TypeId} (h : w.heap[S]? = some (.cells (headL co inc st I Ns ta ti te).toArray T (0, 0))) (hI : I.length = 64) (hN : Ns.length = 21) : w.cell? ⟨S, 89, none⟩ = some (.int .u32 ti) := cell_of_heap h 89 _ (headL_ti hI hN)
theorem headl_te {w : World} {S : Nat} {co inc st : Int} {I Ns : List Int} {ta ti te : Int} {T : TypeId} (h : w.heap[S]? = some (.cells (headL co inc st I Ns ta ti te).toArray T (0, 0))) (hI : I.length = 64) (hN : Ns.length = 21) : w.cell? ⟨S, 90, none⟩ = some (.int .u64 te) := cell_of_heap h 90 _ (headL_te hI hN)
theorem idPs_at (k : Nat) (h : k < 4) : idPs[k]? = some (3 + 16 * k) := by
  rcases k with _ | _ | _ | _ | k
  · rfl
  · rfl
  · rfl
  · rfl
  · omega
theorem longPs_at (k : Nat) (h : k < 21) : longPs[k]? = some (67 + k) := by
  have e : longPs = (List.range 21).map (67 + ·) := rfl
  rw [e, List.getElem?_map, List.getElem?_range h]; rfl
theorem take_id (I : List Int) (k : Nat) : I.take (16 * (k + 1)) = I.take (16 * k) ++ idN I (16 * k) := by
  unfold idN
  rw [Nat.mul_succ, List.take_add]

theorem ids4_any (S : Nat) (w : World) :
    Calls Try.prog 25 #[.pointer (some ⟨S, 0, none⟩)] w fun e w' => ∃ a, e = .returned (.slice a 4 4) ∧ Rd (encP S) w' a 4 4 idPs ∧ Below w.heap.size w w' ∧ (∀ x, a = some x → w.heap.size ≤ x.block) := ids_any S w
theorem long21_any (S : Nat) (w : World) :
    Calls Try.prog 26 #[.pointer (some ⟨S, 0, none⟩)] w fun e w' => ∃ a, e = .returned (.slice a 21 21) ∧ Rd (encP S) w' a 21 21 longPs ∧ Below w.heap.size w w' ∧ (∀ x, a = some x → w.heap.size ≤ x.block) := long_any S w
/-- le.Add with the length told. -/
theorem addn_any (a : Option Addr) (len cap : Nat) (l : List Int) (n : Nat) (v : Int) (w : World) (hr : RdB w a len cap l) (hlen : len ≤ 140737488351000) (hs : okSize n = true) (hv : 0 ≤ v ∧ v ≤ 18446744073709551615) :
    Calls Try.prog 24 #[.slice a len cap, .int .i64 n, .int .u64 v] w fun e w' => ∃ a' c', e = .returned (.slice a' (len + n) c') ∧ OwnB 5 w' w.heap.size a' (len + n) c' (l ++ digs n v) ∧ Below w.heap.size w w' := by
  refine (add_yes a len cap l n v w hr hlen hs hv).mono ?_
  rintro e w' ⟨a', c', rfl, ho, hb⟩
  have hl : (l ++ digs n v).length = len + n := by rw [List.length_append, digs_length, hr.len]
  rw [hl] at ho ⊢
  exact ⟨a', c', rfl, ho, hb⟩
theorem add4_any (a : Option Addr) (len cap : Nat) (l : List Int) (v : Int) (w : World) (hr : RdB w a len cap l) (hlen : len ≤ 140737488351000) (hv : U32 v) :
    Calls Try.prog 24 #[.slice a len cap, .int .i64 4, .int .u64 v] w fun e w' => ∃ a' c', e = .returned (.slice a' (len + 4) c') ∧ OwnB 5 w' w.heap.size a' (len + 4) c' (l ++ digs 4 v) ∧ Below w.heap.size w w' :=
  addn_any a len cap l 4 v w hr hlen rfl ⟨hv.1, by have := hv.2; omega⟩
theorem add8_any (a : Option Addr) (len cap : Nat) (l : List Int) (v : Int) (w : World) (hr : RdB w a len cap l) (hlen : len ≤ 140737488351000) (hv : U64 v) :
    Calls Try.prog 24 #[.slice a len cap, .int .i64 8, .int .u64 v] w fun e w' => ∃ a' c', e = .returned (.slice a' (len + 8) c') ∧ OwnB 5 w' w.heap.size a' (len + 8) c' (l ++ digs 8 v) ∧ Below w.heap.size w w' :=
  addn_any a len cap l 8 v w hr hlen rfl hv

set_option maxRecDepth 100000 in
set_option maxHeartbeats 4000000 in
theorem headput_any (co inc st : Int) (I Ns : List Int) (ta ti te : Int) (w : World) (hI : I.length = 64) (hN : Ns.length = 21) (hIB : IsB I) (h1 : U32 co) (h2 : U32 inc) (h3 : ∀ v ∈ Ns, U64 v) (h4 : U32 ta) (h5 : U32 ti) (h6 : U64 te) :
    Calls Try.prog 14 #[.agg (headL co inc st I Ns ta ti te).toArray] w (NewB w.heap.size w (headB co inc st I Ns ta ti te)) := by
  have HI := Lib.hid hI
  have HN := Lib.hid hN
  have HIB := Lib.hid hIB
  have H1 := Lib.hid h1
  have H2 := Lib.hid h2
  have H3 := Lib.hid h3
  have H4 := Lib.hid h4
  have H5 := Lib.hid h5
  have H6 := Lib.hid h6
  obtain ⟨c0, c1⟩ := h1
  obtain ⟨n0, n1⟩ := h2
  obtain ⟨a0, a1⟩ := h4
  obtain ⟨t0, t1⟩ := h5
  have HW1 := Lib.hid (show IntKind.u64.wrap co = co by rw [IntKind.wrap_u64]; omega)
  have HW2 := Lib.hid (show IntKind.u64.wrap inc = inc by rw [IntKind.wrap_u64]; omega)
  have HW4 := Lib.hid (show IntKind.u64.wrap ta = ta by rw [IntKind.wrap_u64]; omega)
  have HW5 := Lib.hid (show IntKind.u64.wrap ti = ti by rw [IntKind.wrap_u64]; omega)
  have HSt := Lib.hid (show IntKind.u8.wrap st = st % 256 by rw [IntKind.wrap_u8])
  clear hI hN hIB h3 h6
  go_enter Try.func14, Try.ntmps14
  go_upto_region 1 with fail
  have hX1 := heap_alloc_new w (.cells (headL co inc st I Ns ta ti te).toArray 29)
  have HB1 := Lib.hid (below_alloc w (.cells (headL co inc st I Ns ta ti te).toArray 29))
  generalize w.alloc (.cells (headL co inc st I Ns ta ti te).toArray 29) = w1 at hX1 HB1 ⊢
  obtain ⟨S, hS⟩ : ∃ S, w.heap.size = S := ⟨_, rfl⟩
  have HS := Lib.hid hS
  rw [hS] at hX1 ⊢
  clear hS
  have hSw1 := lt_of_heap hX1
  have HX1 := Lib.hid hX1
  have kc : (convert 22 22 (.slice (some ⟨w1.heap.size, 0, none⟩) 8 8)).run Try.prog ((w1.alloc (.cells #[.int .u8 76, .int .u8 80, .int .u8 75, .int .u8 83, .int .u8 72, .int .u8 72, .int .u8 82, .int .u8 72] 5)).drew) = .ok (.slice (some ⟨w1.heap.size, 0, none⟩) 8 8) ((w1.alloc (.cells #[.int .u8 76, .int .u8 80, .int .u8 75, .int .u8 83, .int .u8 72, .int .u8 72, .int .u8 82, .int .u8 72] 5 (8, 9))).drew) :=
    Lib.run_convert_bytes_const (P := Try.prog) w1.drew 22 5 #[.int .u8 76, .int .u8 80, .int .u8 75, .int .u8 83, .int .u8 72, .int .u8 72, .int .u8 82, .int .u8 72] 8 8 Try.underlying22 Try.underlying5
  have HL8 := Lib.hid (RdB.marked w1.drew signL 5 (8, 9) #[.int .u8 76, .int .u8 80, .int .u8 75, .int .u8 83, .int .u8 72, .int .u8 72, .int .u8 82, .int .u8 72] 8 8 rfl rfl (by omega) (by decide) (by unfold signL IsB; simp))
  have HBU := Lib.hid ((below_drew w1).alloc (Nat.le_refl _) (.cells #[.int .u8 76, .int .u8 80, .int .u8 75, .int .u8 83, .int .u8 72, .int .u8 72, .int .u8 82, .int .u8 72] 5))
  have HBA := Lib.hid ((below_drew w1).alloc (Nat.le_refl _) (.cells #[.int .u8 76, .int .u8 80, .int .u8 75, .int .u8 83, .int .u8 72, .int .u8 72, .int .u8 82, .int .u8 72] 5 (8, 9)))
  have hC : w1.drew.heap[S]? = some (.cells (headL co inc st I Ns ta ti te).toArray 29 (0, 0)) := hX1
  refine wp_region_held (S := fun w' => w'.heap[S]? = some (.cells (headL co inc st I Ns ta ti te).toArray 29 (0, 0))) (by kernel_rfl) ?_
  change wpAnyH _ _ _ _ _ _ _ _ w1.drew
  clear hX1
  refine held_take 2 (d := some 10) (v := (.pointer (some ⟨S, 0, none⟩))) rfl rfl (by kernel_rfl) (by kernel_rfl) (by kernel_rfl) (fun _ _ _ h => h) hC (by kernel_rfl) (fun w hSw => by have x0 := headl_0 hSw; have x1 := headl_1 hSw; clear hSw; go_simp) ?_
  try simp only [Act.put, List.setIfInBounds_toArray, List.set_cons_zero, List.set_cons_succ]
  refine held_take 3 (d := some 11) (v := (.int .u32 co)) rfl rfl (by kernel_rfl) (by kernel_rfl) (by kernel_rfl) (fun _ _ _ h => h) hC (by kernel_rfl) (fun w hSw => by have x0 := headl_0 hSw; have x1 := headl_1 hSw; clear hSw; go_simp) ?_
  try simp only [Act.put, List.setIfInBounds_toArray, List.set_cons_zero, List.set_cons_succ]
  refine held_take 4 (d := some 12) (v := (.int .u64 co)) rfl rfl (by kernel_rfl) (by kernel_rfl) (by kernel_rfl) (fun _ _ _ h => h) hC (by kernel_rfl) (fun w hSw => by go_simp; exact HW1.out) ?_
  try simp only [Act.put, List.setIfInBounds_toArray, List.set_cons_zero, List.set_cons_succ]
  refine held_take 6 (d := some 14) (v := (.pointer (some ⟨S, 1, none⟩))) rfl rfl (by kernel_rfl) (by kernel_rfl) (by kernel_rfl) (fun _ _ _ h => h) hC (by kernel_rfl) (fun w hSw => by have x0 := headl_0 hSw; have x1 := headl_1 hSw; clear hSw; go_simp) ?_
  try simp only [Act.put, List.setIfInBounds_toArray, List.set_cons_zero, List.set_cons_succ]
  refine held_take 7 (d := some 15) (v := (.int .u32 inc)) rfl rfl (by kernel_rfl) (by kernel_rfl) (by kernel_rfl) (fun _ _ _ h => h) hC (by kernel_rfl) (fun w hSw => by have x0 := headl_0 hSw; have x1 := headl_1 hSw; clear hSw; go_simp) ?_
  try simp only [Act.put, List.setIfInBounds_toArray, List.set_cons_zero, List.set_cons_succ]
  refine held_take 8 (d := some 16) (v := (.int .u64 inc)) rfl rfl (by kernel_rfl) (by kernel_rfl) (by kernel_rfl) (fun _ _ _ h => h) hC (by kernel_rfl) (fun w hSw => by go_simp; exact HW2.out) ?_
  try simp only [Act.put, List.setIfInBounds_toArray, List.set_cons_zero, List.set_cons_succ]
  refine held_one 0 rfl (by kernel_rfl) (fun K hK => ?_)
  go_simp
  have hC1 := row_below HBU.out hSw1 HX1.out
  clear hC
  refine hK _ _ hC1 ?_
  clear hK K
  try simp only [Act.put, List.setIfInBounds_toArray, List.set_cons_zero, List.set_cons_succ]
  refine held_one 1 rfl (by kernel_rfl) (fun K hK => ?_)
  go_simp
  have hC2 := row_below HBA.out hSw1 HX1.out
  clear hC1
  refine hK _ _ hC2 ?_
  clear hK K
  try simp only [Act.put, List.setIfInBounds_toArray, List.set_cons_zero, List.set_cons_succ]
  refine held_one 5 rfl (by kernel_rfl) (fun K hK => ?_)
  go_simp
  go_at_call 24
  refine (add4_any _ 8 8 signL co _ HL8.out (by omega) H1.out).mono ?_
  rintro e w2 ⟨a2, c2, rfl, ho2, hb2⟩
  have HB2 := Lib.hid (HBA.out.trans (hb2.mono HBA.out.size))
  have hC3 := row_below hb2 (lt_of_heap hC2) hC2
  have HR2 := Lib.hid ho2.rd
  clear hC2 ho2 hb2
  go_simp
  refine hK _ _ hC3 ?_
  clear hK K
  try simp only [Act.put, List.setIfInBounds_toArray, List.set_cons_zero, List.set_cons_succ]
  refine held_one 9 rfl (by kernel_rfl) (fun K hK => ?_)
  go_simp
  go_at_call 24
  refine (add4_any a2 12 c2 _ inc _ HR2.out (by omega) H2.out).mono ?_
  rintro e w3 ⟨a3, c3, rfl, ho3, hb3⟩
  have HB3 := Lib.hid (HB2.out.trans (hb3.mono HB2.out.size))
  have hC4 := row_below hb3 (lt_of_heap hC3) hC3
  have HO3 := Lib.hid (ho3.base HB2.out.size)
  clear hC3 ho3 hb3
  go_simp
  refine hK _ _ hC4 ?_
  clear hK K
  try simp only [Act.put, List.setIfInBounds_toArray, List.set_cons_zero, List.set_cons_succ]
  refine held_take 10 (d := some 3) (v := (.slice a3 16 c3)) rfl rfl (by kernel_rfl) (by kernel_rfl) (by kernel_rfl) (fun _ _ _ h => h) hC4 (by kernel_rfl) (fun w hSw => by clear hSw; go_simp) ?_
  try simp only [Act.put, List.setIfInBounds_toArray, List.set_cons_zero, List.set_cons_succ]
  refine wpAnyH_done (by kernel_rfl) ?_ _
  have i2 := headl_2 hC4
  have HX3 := Lib.hid hC4
  have hz3 : w1.heap.size ≤ w3.heap.size := HB3.out.size
  clear hC4 HL8 HBU HBA kc
  have HRL := Lib.hid (Rd.lits (Value.int .u8) 5 w3 [st % 256, 0, 0, 0, 0, 0, 0, 0] #[.int .u8 (st % 256), .int .u8 0, .int .u8 0, .int .u8 0, .int .u8 0, .int .u8 0, .int .u8 0, .int .u8 0] 8 rfl rfl (by omega))
  have HBL := Lib.hid (below_alloc w3 (.cells #[.int .u8 (st % 256), .int .u8 0, .int .u8 0, .int .u8 0, .int .u8 0, .int .u8 0, .int .u8 0, .int .u8 0] 5))
  have hz4 := Nat.le_trans hz3 HBL.out.size
  go_upto_region 3 with (at_builtin; go_must (refine wpList_appOwn rfl rfl Try.oneB rfl rfl (HO3.out.2.mono HBL.out) HRL.out (fun _ => rfl) (by omega) (by omega) hz4 ?_); intro a4 c4 w4 ho4 hb4 _ _)
  have HB4 := Lib.hid ((HB3.out.trans (HBL.out.mono hz3)).trans hb4)
  have HO4 := Lib.hid (show Own (Value.int .u8) 5 w4 w1.heap.size a4 24 c4 (headA co inc st) from ho4)
  clear ho4 hb4 HO3 HRL HBL hz4 hz3 i2 HX3 HB3 HB2 HR2
  go_upto_region 4 with (go_at_call 25; refine (ids4_any S _).mono ?_; rintro e w5 ⟨a5, rfl, hr5, hb5, hg5⟩)
  have HB5 := Lib.hid (HB4.out.trans (hb5.mono HB4.out.size))
  have HO5 := Lib.hid (HO4.out.mono hb5)
  have HR5 := Lib.hid hr5
  have HN5 := Lib.hid (show ∀ x, a5 = some x → x.block ∉ blk a4 from fun x hx h => by obtain ⟨z, hz, hb⟩ := mem_blk.1 h; have := hg5 x hx; have := (HO4.out.lt z hz).2; omega)
  clear HO4 HB4 hr5 hb5 hg5
  go_loopw [3, 26] (fun s_ i wr => ∃ (k : Nat) (a' : Option Addr) (c' : Nat), k ≤ 4 ∧ i = .int .i64 (k : Int) ∧ s_ = .slice a' (24 + 16 * k) c' ∧ Own (Value.int .u8) 5 wr w1.heap.size a' (24 + 16 * k) c' (headA co inc st ++ I.take (16 * k)) ∧ Rd (encP S) wr a5 4 4 idPs ∧ (∀ x, a5 = some x → x.block ∉ blk a') ∧ Below w1.heap.size w1 wr) (fun _ i _ => 4 - (intOf i).toNat)
  case atStart => exact ⟨0, a4, c4, Nat.zero_le _, rfl, rfl, by simpa using HO5.out, HR5.out, HN5.out, HB5.out⟩
  case round =>
    obtain ⟨k, a', c', hk, rfl, rfl, ho, hri, hni, hB⟩ := hrel
    have HO := Lib.hid ho
    have HB := Lib.hid hB
    have HRI := Lib.hid hri
    have HNI := Lib.hid hni
    have hXr := row_below hB hSw1 HX1.out
    clear ho hB hni
    by_cases hlt : k < 4
    · have hlt' : (k : Int) < 4 := by omega
      obtain ⟨b, off, rfl, hbk, hcs⟩ := hri.at (by omega)
      have hc := hcs k _ (idPs_at k hlt)
      have hsrc := (row_range (o := 3 + 16 * k) hXr (idN I (16 * k)) (fun j v h => headL_id (16 * k) j v h)).rd (idN_length HI.out _ (by omega)) (lt_of_heap hXr) (by omega)
      have HSR := Lib.hid hsrc
      have hzr := HB.out.size
      have HNB := Lib.hid (HNI.out _ rfl)
      have HTK := Lib.hid (take_id I k)
      clear hcs hri hXr hsrc
      unfold encP at hc
      go_wp2_with (at_builtin; go_must (refine wpList_appAt rfl rfl Try.oneB rfl rfl HO.out HSR.out (fun _ => rfl) (by omega) (by omega) hzr ?_); intro a6 c6 w6 ho6 hu6 hn6)
      have HO6 := Lib.hid (show Own (Value.int .u8) 5 w6 w1.heap.size a6 (24 + 16 * (k + 1)) c6 (headA co inc st ++ I.take (16 * (k + 1))) from by rw [HTK.out, ← List.append_assoc]; exact ho6)
      have HU6 := Lib.hid hu6
      have HN6 := Lib.hid hn6
      clear ho6 hu6 hn6 hc
      go_roundw
      case rel =>
        refine ⟨k + 1, a6, c6, by omega, by congr 1, by congr 1, HO6.out, HRI.out.upd HU6.out (fun x hx => by cases hx; exact HNB.out), ?_, HB.out.trans (HU6.out.below hzr (fun j hj => by obtain ⟨z, hz, rfl⟩ := mem_blk.1 hj; exact (HO.out.lt z hz).1))⟩
        intro x hx h
        cases hx
        rcases HN6.out _ h with h | h
        · exact HNB.out h
        · have h' : wr.heap.size ≤ b := h
          omega
      case measure => simp [intOf]; omega
    · obtain rfl : k = 4 := by omega
      have hge : ¬ ((4 : Int) < 4) := by omega
      have HOI := Lib.hid (show Own (Value.int .u8) 5 wr w1.heap.size a' 88 c' (headA co inc st ++ I) from by have := HO.out; rwa [List.take_of_length_le (by rw [HI.out]; omega)] at this)
      clear HO HRI HNI hri HN5 HR5 HO5 HB5
      go_upto_region 8 with fail
      go_upto_region 9 with (go_at_call 26; refine (long21_any S _).mono ?_; rintro e w7 ⟨a7, rfl, hr7, hb7, -⟩)
      have HR7 := Lib.hid hr7
      have HB7 := Lib.hid hb7
      have HO7 := Lib.hid (RdB.mk2 ((headA_isB co inc st).append HIB.out) ((HOI.out.mono hb7).rd))
      have HX7 := Lib.hid (row_below (HB.out.trans (hb7.mono HB.out.size)) hSw1 HX1.out)
      clear hr7 hb7 HOI
      have HBB := Lib.hid (HB.out.trans (HB7.out.mono HB.out.size))
      clear HB HB7
      go_loopw [3, 38] (fun s_ i wr => ∃ (k : Nat) (a' : Option Addr) (c' : Nat), k ≤ 21 ∧ i = .int .i64 (k : Int) ∧ s_ = .slice a' (88 + 8 * k) c' ∧ RdB wr a' (88 + 8 * k) c' (headA co inc st ++ I ++ numsL (Ns.take k)) ∧ Below w7.heap.size w7 wr) (fun _ i _ => 21 - (intOf i).toNat)
      case atStart => exact ⟨0, a', c', Nat.zero_le _, rfl, rfl, by simpa [numsL] using HO7.out, Below.refl _ _⟩
      case round =>
        obtain ⟨k, a8, c8, hk, rfl, rfl, ho, hB⟩ := hrel
        have HO := Lib.hid ho
        have HB := Lib.hid hB
        have hXr := row_below hB (lt_of_heap HX7.out) HX7.out
        clear ho hB
        by_cases hlt : k < 21
        · have hlt' : (k : Int) < 21 := by omega
          obtain ⟨b, off, hab, hbk, hcs⟩ := (HR7.out.mono HB.out).at (by omega)
          subst hab
          have hc := hcs k _ (longPs_at k hlt)
          have hkN : k < Ns.length := by rw [HN.out]; exact hlt
          have hv := cell_of_heap hXr (67 + k) _ (headL_N HI.out k _ (List.getElem?_eq_getElem hkN))
          have HV := Lib.hid (H3.out _ (List.getElem_mem hkN))
          have HSN := Lib.hid (numsL_snoc Ns k hkN)
          generalize Ns[k] = v at hv HV HSN
          clear hcs hXr hkN
          unfold encP at hc
          go_wp2_with (go_at_call 24; refine (add8_any a8 (88 + 8 * k) c8 _ v _ HO.out (by omega) HV.out).mono ?_; rintro e w9 ⟨a9, c9, rfl, ho9, hb9⟩)
          have HO9 := Lib.hid ho9.rd
          have HB9 := Lib.hid (HB.out.trans (hb9.mono HB.out.size))
          clear ho9 hb9
          go_roundw
          case rel => exact ⟨k + 1, a9, c9, by omega, by congr 1, by congr 1, by rw [HSN.out, ← List.append_assoc]; exact HO9.out, HB9.out⟩
          case measure => simp [intOf]; omega
        · obtain rfl : k = 21 := by omega
          have hge : ¬ ((21 : Int) < 21) := by omega
          have HOI := Lib.hid (show RdB wr a8 256 c8 (headA co inc st ++ I ++ numsL Ns) from by have := HO.out; rwa [List.take_of_length_le (by rw [HN.out]; omega)] at this)
          clear HO
          go_upto_region 13 with fail
          have hC : wr.drew.heap[S]? = some (.cells (headL co inc st I Ns ta ti te).toArray 29 (0, 0)) := hXr
          have HOd := Lib.hid (HOI.out.drewd)
          refine wp_region_held (S := fun w' => w'.heap[S]? = some (.cells (headL co inc st I Ns ta ti te).toArray 29 (0, 0))) (by kernel_rfl) ?_
          change wpAnyH _ _ _ _ _ _ _ _ wr.drew
          clear hXr
          refine held_take 0 (d := some 48) (v := (.slice a8 256 c8)) rfl rfl (by kernel_rfl) (by kernel_rfl) (by kernel_rfl) (fun _ _ _ h => h) hC (by kernel_rfl) (fun w hSw => by have x0 := headl_ta hSw HI.out HN.out; have x1 := headl_ti hSw HI.out HN.out; clear hSw; go_simp) ?_
          try simp only [Act.put, List.setIfInBounds_toArray, List.set_cons_zero, List.set_cons_succ]
          refine held_take 1 (d := some 49) (v := (.pointer (some ⟨S, 88, none⟩))) rfl rfl (by kernel_rfl) (by kernel_rfl) (by kernel_rfl) (fun _ _ _ h => h) hC (by kernel_rfl) (fun w hSw => by have x0 := headl_ta hSw HI.out HN.out; have x1 := headl_ti hSw HI.out HN.out; clear hSw; go_simp) ?_
          try simp only [Act.put, List.setIfInBounds_toArray, List.set_cons_zero, List.set_cons_succ]
          refine held_take 2 (d := some 50) (v := (.int .u32 ta)) rfl rfl (by kernel_rfl) (by kernel_rfl) (by kernel_rfl) (fun _ _ _ h => h) hC (by kernel_rfl) (fun w hSw => by have x0 := headl_ta hSw HI.out HN.out; have x1 := headl_ti hSw HI.out HN.out; clear hSw; go_simp) ?_
          try simp only [Act.put, List.setIfInBounds_toArray, List.set_cons_zero, List.set_cons_succ]
          refine held_take 3 (d := some 51) (v := (.int .u64 ta)) rfl rfl (by kernel_rfl) (by kernel_rfl) (by kernel_rfl) (fun _ _ _ h => h) hC (by kernel_rfl) (fun w hSw => by go_simp; exact HW4.out) ?_
          try simp only [Act.put, List.setIfInBounds_toArray, List.set_cons_zero, List.set_cons_succ]
          refine held_take 5 (d := some 53) (v := (.pointer (some ⟨S, 89, none⟩))) rfl rfl (by kernel_rfl) (by kernel_rfl) (by kernel_rfl) (fun _ _ _ h => h) hC (by kernel_rfl) (fun w hSw => by have x0 := headl_ta hSw HI.out HN.out; have x1 := headl_ti hSw HI.out HN.out; clear hSw; go_simp) ?_
          try simp only [Act.put, List.setIfInBounds_toArray, List.set_cons_zero, List.set_cons_succ]
          refine held_take 6 (d := some 54) (v := (.int .u32 ti)) rfl rfl (by kernel_rfl) (by kernel_rfl) (by kernel_rfl) (fun _ _ _ h => h) hC (by kernel_rfl) (fun w hSw => by have x0 := headl_ta hSw HI.out HN.out; have x1 := headl_ti hSw HI.out HN.out; clear hSw; go_simp) ?_
          try simp only [Act.put, List.setIfInBounds_toArray, List.set_cons_zero, List.set_cons_succ]
          refine held_take 7 (d := some 55) (v := (.int .u64 ti)) rfl rfl (by kernel_rfl) (by kernel_rfl) (by kernel_rfl) (fun _ _ _ h => h) hC (by kernel_rfl) (fun w hSw => by go_simp; exact HW5.out) ?_
          try simp only [Act.put, List.setIfInBounds_toArray, List.set_cons_zero, List.set_cons_succ]
          refine held_one 4 rfl (by kernel_rfl) (fun K hK => ?_)
          go_simp
          go_at_call 24
          refine (add4_any a8 256 c8 _ ta _ HOd.out (by omega) H4.out).mono ?_
          rintro e wa ⟨aa, ca, rfl, hoa, hba⟩
          have HBa := Lib.hid (((below_drew wr)).trans hba)
          have hCa := row_below hba (lt_of_heap hC) hC
          have HRa := Lib.hid hoa.rd
          clear hC hoa hba
          go_simp
          refine hK _ _ hCa ?_
          clear hK K
          try simp only [Act.put, List.setIfInBounds_toArray, List.set_cons_zero, List.set_cons_succ]
          refine held_one 8 rfl (by kernel_rfl) (fun K hK => ?_)
          go_simp
          go_at_call 24
          refine (add4_any aa 260 ca _ ti _ HRa.out (by omega) H5.out).mono ?_
          rintro e wb ⟨ab, cb, rfl, hob, hbb⟩
          have HBb := Lib.hid (HBa.out.trans (hbb.mono HBa.out.size))
          have hCb := row_below hbb (lt_of_heap hCa) hCa
          have HRb := Lib.hid hob.rd
          clear hCa hob hbb
          go_simp
          refine hK _ _ hCb ?_
          clear hK K
          try simp only [Act.put, List.setIfInBounds_toArray, List.set_cons_zero, List.set_cons_succ]
          refine held_take 9 (d := some 3) (v := (.slice ab 264 cb)) rfl rfl (by kernel_rfl) (by kernel_rfl) (by kernel_rfl) (fun _ _ _ h => h) hCb (by kernel_rfl) (fun w hSw => by clear hSw; go_simp) ?_
          try simp only [Act.put, List.setIfInBounds_toArray, List.set_cons_zero, List.set_cons_succ]
          refine wpAnyH_done (by kernel_rfl) ?_ _
          have i30 := headl_te hCb HI.out HN.out
          have HB1r := Lib.hid (HB1.out.trans (HBB.out.mono HB1.out.size))
          have HBr := Lib.hid (HB1r.out.trans (HB.out.mono HB1r.out.size))
          have HBbb := Lib.hid (HBr.out.trans (HBb.out.mono HBr.out.size))
          clear hCb
          go_wp2_with (go_at_call 24; refine (add8_any ab 264 cb _ te _ HRb.out (by omega) H6.out).mono ?_; rintro e wc ⟨ac, cc, rfl, hoc, hbc⟩)
          go_ret
          have hlen : (headB co inc st I Ns ta ti te).length = 272 := by rw [headB_length HI.out, HN.out]
          refine ⟨ac, cc, by rw [hlen]; rfl, ⟨headB_isB HIB.out, ?_⟩, ?_⟩
          · rw [hlen]; exact hoc.2.base HBbb.out.size
          · exact HBbb.out.trans (hbc.mono HBbb.out.size)
end Go.Proofs.Ytpkmdnfkeebgbaa

/- A slice of slices of bytes: how it is read. No condition. -/
namespace Go.Proofs.Ytpkmdnfkeebgbaa
open Go.ChangeShapes Go.WideShapes Go.ChangeAt Go.RowKit
set_option linter.unusedVariables false

theorem RdB.raw {w : World} {a : Option Addr} {n c : Nat} {l : List Int} (h : RdB w a n c l) : Rd (Value.int .u8) w a n c l := h.2
theorem RdB.of {w : World} {a : Option Addr} {n c : Nat} {l : List Int} (hb : IsB l) (h : Rd (Value.int .u8) w a n c l) : RdB w a n c l := ⟨hb, h⟩

/-- A slice as an element. -/
def encS (v : Option Addr × Nat × Nat) : Value := .slice v.1 v.2.1 v.2.2

/-- A slice of slices of bytes reads as ls. -/
def RdBB (w : World) (a : Option Addr) (n c : Nat) (ls : List (List Int)) : Prop :=
  ∃ vs : List (Option Addr × Nat × Nat), Rd encS w a n c vs ∧ vs.length = ls.length ∧ ∀ (i : Nat) (v : Option Addr × Nat × Nat) (l : List Int), vs[i]? = some v → ls[i]? = some l → RdB w v.1 v.2.1 v.2.2 l

theorem RdBB.mono {w w' : World} {a : Option Addr} {n c : Nat} {ls : List (List Int)} (h : RdBB w a n c ls) (hb : Below w.heap.size w w') : RdBB w' a n c ls := by
  obtain ⟨vs, h1, h2, h3⟩ := h
  exact ⟨vs, h1.mono hb, h2, fun i v l hv hl => (h3 i v l hv hl).mono hb⟩

theorem RdBB.len {w : World} {a : Option Addr} {n c : Nat} {ls : List (List Int)} (h : RdBB w a n c ls) : ls.length = n := by
  obtain ⟨vs, h1, h2, h3⟩ := h
  have := h1.1; omega

theorem RdBB.nil (w : World) : RdBB w none 0 0 [] := ⟨[], ⟨rfl, Nat.le_refl _, Nat.zero_le _, fun _ => rfl, .inl rfl⟩, rfl, fun i v l hv => by simp at hv⟩

/-- One slice, just laid as the only element. -/
theorem RdBB.one {w : World} {a : Option Addr} {n c : Nat} {l : List Int} (e : TypeId) (h : RdB w a n c l) : RdBB (w.alloc (.cells #[.slice a n c] e)) (some ⟨w.heap.size, 0, none⟩) 1 1 [l] := by
  refine ⟨[(a, n, c)], Rd.one encS e w (a, n, c), rfl, fun i v l' hv hl => ?_⟩
  match i, hv, hl with
  | 0, hv, hl =>
    simp only [List.getElem?_cons_zero, Option.some.injEq] at hv hl
    subst hv; subst hl
    exact h.mono ((Below.refl _ _).alloc (Nat.le_refl _) _)
  | i + 1, hv, hl => simp at hv

theorem RdBB.isB {w : World} {a : Option Addr} {n c : Nat} {ls : List (List Int)} (h : RdBB w a n c ls) : ∀ l ∈ ls, IsB l := by
  obtain ⟨vs, h1, h2, h3⟩ := h
  intro l hl
  obtain ⟨i, hi, rfl⟩ := List.getElem_of_mem hl
  exact (h3 i _ _ (List.getElem?_eq_getElem (by omega)) (List.getElem?_eq_getElem hi)).1

/-- The element type's row: a slice of slices of bytes. -/
theorem Try.sInfo : (Try.prog.info? 22).map (fun i => (i.zero, i.size, i.bytes)) = some (some (.slice none 0 0), 1, 24) := by kernel_rfl
theorem Try.oneBB : OneInfo Try.prog 105 22 24 := by
  obtain ⟨i, hi, h0, h1, h2⟩ := info_parts Try.sInfo
  exact ⟨Try.underlying105, i, _, hi, h0, h1, h2, rfl⟩

/-- A slice of slices that the call owns; each element reads as its list. -/
def OwnBB (w : World) (base : Nat) (a : Option Addr) (n c : Nat) (ls : List (List Int)) : Prop :=
  ∃ vs : List (Option Addr × Nat × Nat), Own encS 22 w base a n c vs ∧ vs.length = ls.length ∧ ∀ (i : Nat) (v : Option Addr × Nat × Nat) (l : List Int), vs[i]? = some v → ls[i]? = some l → RdB w v.1 v.2.1 v.2.2 l

theorem OwnBB.rd {w : World} {base : Nat} {a : Option Addr} {n c : Nat} {ls : List (List Int)} (h : OwnBB w base a n c ls) : RdBB w a n c ls := by
  obtain ⟨vs, h1, h2, h3⟩ := h
  exact ⟨vs, h1.rd, h2, h3⟩
theorem OwnBB.mono {w w' : World} {base : Nat} {a : Option Addr} {n c : Nat} {ls : List (List Int)} (h : OwnBB w base a n c ls) (hb : Below w.heap.size w w') : OwnBB w' base a n c ls := by
  obtain ⟨vs, h1, h2, h3⟩ := h
  exact ⟨vs, h1.mono hb, h2, fun i v l hv hl => (h3 i v l hv hl).mono hb⟩
theorem OwnBB.nil (w : World) (base : Nat) : OwnBB w base none 0 0 [] := ⟨[], Own.nil _ _ _ _, rfl, fun i v l hv => by simp at hv⟩
theorem OwnBB.len {w : World} {base : Nat} {a : Option Addr} {n c : Nat} {ls : List (List Int)} (h : OwnBB w base a n c ls) : ls.length = n := h.rd.len

/-- One more element behind: its reading and the others' must not lie in what was written: they lie below base. -/
theorem snoc_all {vs : List (Option Addr × Nat × Nat)} {ls : List (List Int)} {w : World} {v : Option Addr × Nat × Nat} {l : List Int} (h2 : vs.length = ls.length)
    (h3 : ∀ (i : Nat) (v : Option Addr × Nat × Nat) (l : List Int), vs[i]? = some v → ls[i]? = some l → RdB w v.1 v.2.1 v.2.2 l) (h : RdB w v.1 v.2.1 v.2.2 l) :
    ∀ (i : Nat) (v' : Option Addr × Nat × Nat) (l' : List Int), (vs ++ [v])[i]? = some v' → (ls ++ [l])[i]? = some l' → RdB w v'.1 v'.2.1 v'.2.2 l' := by
  intro i v' l' hv hl
  rw [List.getElem?_append] at hv hl
  by_cases hi : i < vs.length
  · rw [if_pos hi] at hv
    rw [if_pos (by omega)] at hl
    exact h3 i v' l' hv hl
  · rw [if_neg hi] at hv
    rw [if_neg (by omega)] at hl
    obtain ⟨j, hj⟩ : ∃ j, i = vs.length + j := ⟨i - vs.length, by omega⟩
    subst hj
    rw [Nat.add_sub_cancel_left] at hv
    rw [h2, Nat.add_sub_cancel_left] at hl
    match j, hv, hl with
    | 0, hv, hl =>
      simp only [List.getElem?_cons_zero, Option.some.injEq] at hv hl
      subst hv; subst hl
      exact h
    | j + 1, hv, hl => simp at hv

/-- A slice of slices that the call owns; its elements lie in what was there in the world w0. -/
def OwnOld (w0 w : World) (base : Nat) (a : Option Addr) (n c : Nat) (ls : List (List Int)) : Prop :=
  ∃ vs : List (Option Addr × Nat × Nat), Own encS 22 w base a n c vs ∧ vs.length = ls.length ∧ ∀ (i : Nat) (v : Option Addr × Nat × Nat) (l : List Int), vs[i]? = some v → ls[i]? = some l → RdB w0 v.1 v.2.1 v.2.2 l

theorem OwnOld.rd {w0 w : World} {base : Nat} {a : Option Addr} {n c : Nat} {ls : List (List Int)} (h : OwnOld w0 w base a n c ls) (hb : Below w0.heap.size w0 w) : RdBB w a n c ls := by
  obtain ⟨vs, h1, h2, h3⟩ := h
  exact ⟨vs, h1.rd, h2, fun i v l hv hl => (h3 i v l hv hl).mono hb⟩
theorem OwnOld.nil (w0 w : World) (base : Nat) : OwnOld w0 w base none 0 0 [] := ⟨[], Own.nil _ _ _ _, rfl, fun i v l hv => by simp at hv⟩

/-! ### What came in -/
theorem rdB_any {H : Type} {enc : TypeId × Value → H} {P : Program} {w : World} {base : Nat} {spare : Nat → Bool} {held : Bool} {fuel : Nat} {t e : TypeId} {x : DataW H × List MemPlace} {v : Value}
    (ht : P.underlying t = some (.slice e)) (he : P.underlying e = some (.int .u8)) (hc : P.cellsOf e = 1) (h : DataW.trod enc P w base spare held fuel t [v] = some x) : ∃ a n c l, v = .slice a n c ∧ RdB w a n c l := by
  have h0 := open_ints ht he hc h
  rcases h0 with ⟨hcs, _⟩ | ⟨ad, l, c, zs, hcs, _⟩
  · simp only [List.cons.injEq, and_true] at hcs
    subst hcs
    obtain ⟨l, hl⟩ := rdB_open ht he hc (a := none) (len := 0) (cap := 0) (by simpa [Value.cells] using h)
    exact ⟨none, 0, 0, l, rfl, hl⟩
  · simp only [List.cons.injEq, and_true] at hcs
    subst hcs
    obtain ⟨l', hl⟩ := rdB_open ht he hc (a := some ad) (len := l) (cap := c) (by simpa [Value.cells] using h)
    exact ⟨some ad, l, c, l', rfl, hl⟩

/-- A slice whose elements each read as something: as many readings. -/
theorem rdOf {α : Type} [Inhabited α] {w : World} {ad : Addr} {len cap : Nat} (encA : α → Value) (hl : len ≤ cap) (hm : cap ≤ maxLen) (R : Nat → α → Prop)
    (h : ∀ i, i < len → ∃ y : α, w.cell? (ad.add i) = some (encA y) ∧ R i y) : ∃ ys : List α, Rd encA w (some ad) len cap ys ∧ ∀ i y, ys[i]? = some y → R i y := by
  obtain ⟨f, hf⟩ : ∃ f : Nat → α, ∀ i, i < len → w.cell? (ad.add i) = some (encA (f i)) ∧ R i (f i) := by
    refine ⟨fun i => if hi : i < len then Classical.choose (h i hi) else default, fun i hi => ?_⟩
    show w.cell? (ad.add i) = some (encA (if hi : i < len then Classical.choose (h i hi) else default)) ∧ R i (if hi : i < len then Classical.choose (h i hi) else default)
    simp only [dif_pos hi]
    exact Classical.choose_spec (h i hi)
  refine ⟨(List.range len).map f, ⟨by simp, hl, hm, fun h => by (cases h), ?_⟩, fun i y hy => ?_⟩
  · by_cases h0 : len = 0
    · exact .inl h0
    · right
      obtain ⟨b, off, spot⟩ := ad
      have hc0 := (hf 0 (by omega)).1
      have hspot : spot = none := by simpa [Addr.add] using World.cell?_spot hc0
      subst hspot
      refine ⟨b, off, rfl, World.block_lt_of_cell? w _ hc0, fun i y hy => ?_⟩
      rw [List.getElem?_map] at hy
      obtain ⟨j, hj, rfl⟩ := Option.map_eq_some_iff.1 hy
      have hil : i < len := by have := (List.getElem?_eq_some_iff.1 hj).1; simpa using this
      rw [List.getElem?_range hil] at hj
      cases hj
      have := (hf i hil).1
      rwa [addr_add] at this
  · rw [List.getElem?_map] at hy
    obtain ⟨j, hj, rfl⟩ := Option.map_eq_some_iff.1 hy
    have hil : i < len := by have := (List.getElem?_eq_some_iff.1 hj).1; simpa using this
    rw [List.getElem?_range hil] at hj
    cases hj
    exact (hf i hil).2

theorem rdBB_open {H : Type} {enc : TypeId × Value → H} {P : Program} {w : World} {base : Nat} {spare : Nat → Bool} {held : Bool} {fuel : Nat} {t e b : TypeId} {x : DataW H × List MemPlace} {a : Option Addr} {len cap : Nat}
    (ht : P.underlying t = some (.slice e)) (he : P.underlying e = some (.slice b)) (hb : P.underlying b = some (.int .u8)) (hc : P.cellsOf e = 1) (hc2 : P.cellsOf b = 1)
    (h : DataW.trod enc P w base spare held fuel t (Value.slice a len cap).cells.toList = some x) : ∃ ls, RdBB w a len cap ls := by
  rcases Go.Deep.open_slice1 ht hc h with ⟨hcs, _⟩ | ⟨ad, l, c, m, n, V, D, Pl, hcs, _, hl, hm, hmm, _, hx⟩
  · simp [Value.cells] at hcs
    obtain ⟨rfl, rfl, rfl⟩ := hcs
    exact ⟨[], RdBB.nil w⟩
  · simp [Value.cells] at hcs
    obtain ⟨rfl, rfl, rfl⟩ := hcs
    have hlm : len ≤ m := by rw [hmm]; split <;> omega
    obtain ⟨ys, h1, h2⟩ := rdOf (w := w) (ad := ad) (len := len) (cap := cap) (fun y : (Option Addr × Nat × Nat) × List Int => encS y.1) hl hm (fun _ y => RdB w y.1.1 y.1.2.1 y.1.2.2 y.2) (fun i hi => by
      obtain ⟨h3, h4⟩ := hx i (by omega)
      obtain ⟨a', n', c', l', hv, hr⟩ := rdB_any he hb hc2 h4
      exact ⟨((a', n', c'), l'), by rw [h3, hv]; rfl, hr⟩)
    refine ⟨ys.map (·.2), ys.map (·.1), ?_, by simp, fun i v l hv hl' => ?_⟩
    · obtain ⟨g1, g2, g3, g4, g5⟩ := h1
      refine ⟨by simpa using g1, g2, g3, g4, ?_⟩
      rcases g5 with g5 | ⟨b', off, ha, hlt, hc'⟩
      · exact .inl g5
      · refine .inr ⟨b', off, ha, hlt, fun i y hy => ?_⟩
        rw [List.getElem?_map] at hy
        obtain ⟨z, hz, rfl⟩ := Option.map_eq_some_iff.1 hy
        exact hc' i z hz
    · rw [List.getElem?_map] at hv hl'
      obtain ⟨z, hz, rfl⟩ := Option.map_eq_some_iff.1 hv
      rw [hz] at hl'
      simp only [Option.map_some, Option.some.injEq] at hl'
      subst hl'
      exact h2 i z hz

end Go.Proofs.Ytpkmdnfkeebgbaa

/- What the document's own Low computes: the lowest bytes of a number. Conditions stand as premises. -/
namespace Go.Proofs.Ytpkmdnfkeebgbaa
open Go.ChangeShapes Go.WideShapes Go.ChangeAt Go.RowKit
set_option linter.unusedVariables false

/-! ### Low -/
theorem low_any (v : Int) (n : Nat) (w : World) (hv : 0 ≤ v ∧ v ≤ 18446744073709551615) (hn : n ≤ 1000) :
    Calls Try.prog 27 #[.int .u64 v, .int .i64 n] w (NewB w.heap.size w (digs n v)) := by
  go_enter Try.func27, Try.ntmps27
  go_wp2_with fail
  go_loopw [0, 5, 6] (fun x s i wr => ∃ (k : Nat) (a' : Option Addr) (c' : Nat) (y : Int), k ≤ n ∧ i = .int .i64 k ∧ x = .int .u64 y ∧ Hid (y = v / 256 ^ k) ∧ 0 ≤ y ∧ y ≤ 18446744073709551615 ∧ s = .slice a' k c' ∧ OwnB 5 wr w.heap.size a' k c' (digs k v) ∧ Below w.heap.size w wr) (fun _ _ i _ => n - (intOf i).toNat)
  case atStart => exact ⟨0, none, 0, v, Nat.zero_le _, rfl, rfl, Lib.hid (by simp), hv.1, hv.2, rfl, ⟨IsB.nil, Own.nil _ _ _ _⟩, Below.refl _ _⟩
  case round =>
    obtain ⟨k, a', c', y, hk, rfl, rfl, Hy, hy1, hy2, rfl, ho, hb⟩ := hrel
    by_cases hlt : k < n
    · have hsz := hb.size
      go_wp2_with (at_builtin; go_must (refine wpList_appOwn rfl rfl Try.oneB rfl rfl (ho.2.alloc _) (Rd.one _ _ _ _) (fun _ => rfl) (by omega) (by omega) (by simp; omega) ?_); intro a2 c2 w2 ho2 hb2 hn2 _)
      go_roundw
      case rel =>
        have hy := Hy.out
        subst hy
        have h5 : (v / 256 ^ k) / 256 = v / 256 ^ (k + 1) := by rw [Int.ediv_ediv_of_nonneg (Int.le_of_lt (Int.pow_pos (by decide))), Int.pow_succ]
        have h6 : v / 256 ^ (k + 1) ≤ v := Int.ediv_le_self _ hv.1
        have h7 : 0 ≤ v / 256 ^ (k + 1) := Int.ediv_nonneg hv.1 (Int.le_of_lt (Int.pow_pos (by decide)))
        refine ⟨k + 1, a2, c2, _, by omega, by go_num, rfl, Lib.hid h5, by omega, by omega, rfl, ⟨digs_isB _ _, ?_⟩, (hb.alloc hsz _).trans hb2⟩
        rw [digs_snoc]; exact ho2
      case measure => simp [intOf]; omega
    · have : k = n := by omega
      subst this
      have Hl := Lib.hid (digs_length k v)
      go_wp2
      go_ret
      exact ⟨a', c', by rw [Hl.out]; rfl, by rw [Hl.out]; exact ho, hb⟩

end Go.Proofs.Ytpkmdnfkeebgbaa
