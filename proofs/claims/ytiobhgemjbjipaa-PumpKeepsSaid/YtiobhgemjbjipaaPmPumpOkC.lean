/- The judgement 'okC': a piece of code of the first goroutine beside leavers, its rules (as the library's walk in company has them, without counts); calls; the whole run. Conditions stand as premises. -/
import Derived.Test.YtiobhgemjbjipaaPmG5
import Derived.Conc.CompanyMem
namespace Go.Proofs.Ytiobhgemjbjipaa
open Go.Conc
set_option linter.unusedVariables false
set_option linter.unusedSimpArgs false
/-- What an own step beside leavers may do. -/
def DO (Old : Nat → Prop) (w w' : World) (es : Array Event) : Prop := w.heap.size ≤ w'.heap.size ∧ ∀ e ∈ es, EvO Old w'.heap.size e
theorem termsO (Old : Nat → Prop) : Terms AtRel (DO Old) := ⟨atRel_trans, fun w => ok_none w⟩
theorem drawO (Old : Nat → Prop) : LetsDraw (DO Old) := fun w => ⟨Nat.le_refl _, fun e he => by simp at he⟩
theorem ownO (w : World) : AtRel w { w with drawn := w.drawn + 1 } := ⟨w.drawn + 1, rfl⟩
/-- The state of a walk beside leavers: the world, what is shunned, how many goroutines there may be. -/
structure St where
  w : World
  old : Nat → Prop
  m : Nat
section
variable (P : Program) (Post : Value → World → Prop)
def OkS (g : Goroutine) (s : St) : Prop := Ok P Post s.old s.m g s.w
/-- Where it goes on behind a piece of code. -/
def OkAfter (b : Frame) (k : List Item) (cs : List Frame) : Exit → Act → St → Prop
  | .normal, a, s => OkS P Post (G (b.at a k) cs) s
  | .exit id, a, s => ∃ k', exitTo id k = some k' ∧ OkS P Post (G (b.at a k') cs) s
  | .ret, a, s => ∀ todo, OkS P Post (G { b.at a todo with mode := .returning } cs) s
  | _, _, _ => False
end
def okC (P : Program) (fn : FuncId) (c : Code) (Q : Exit → Act → St → Prop) (a : Act) (s : St) : Prop :=
  ∀ (Post : Value → World → Prop) (b : Frame) (k : List Item) (cs : List Frame), b.fn = fn → b.kind ≠ .early → (∀ e a' s', Q e a' s' → OkAfter P Post b k cs e a' s') → OkS P Post (G (b.at a (.code c :: k)) cs) s
def OpsO (P : Program) (fn : FuncId) (ops : Array Oper) (todo : List Nat) (Q : Exit → Act → St → Prop) (a : Act) (s : St) : Prop :=
  ∀ (Post : Value → World → Prop) (b : Frame) (k : List Item) (cs : List Frame), b.fn = fn → b.kind ≠ .early → (∀ e a' s', Q e a' s' → OkAfter P Post b k cs e a' s') → OkS P Post (G (b.at a (.inRegion ops todo :: k)) cs) s
def thenO (next : Act → St → Prop) (Q : Exit → Act → St → Prop) : Exit → Act → St → Prop
  | .normal, a, s => next a s
  | e, a, s => Q e a s
def inBlockO (id : Nat) (Q : Exit → Act → St → Prop) : Exit → Act → St → Prop
  | .exit id', a, s => if id' = id then Q .normal a s else Q (.exit id') a s
  | e, a, s => Q e a s
section
variable {P : Program} {Post : Value → World → Prop} {fn : FuncId} {Q : Exit → Act → St → Prop} {a : Act} {s : St} {b : Frame} {k : List Item} {cs : List Frame}
theorem OkS.silent {g g' : Goroutine} (hr : g.status = .running) (hst : ∀ w, stepG P true g w = .go g' w #[]) (h : OkS P Post g' s) : OkS P Post g s :=
  Ok.step hr fun w₁ h₁ => by rw [hst]; exact ⟨ok_none _, Ok.rel h h₁⟩
theorem OkAfter.push {x : Item} {e : Exit} (hx : x.plain = true) (he : e ≠ .normal) (h : OkAfter P Post b k cs e a s) : OkAfter P Post b (x :: k) cs e a s := by
  cases e with
  | normal => exact absurd rfl he
  | exit id => obtain ⟨k', hk, hg⟩ := h; exact ⟨k', by cases x <;> simp_all [exitTo, Item.plain], hg⟩
  | ret => exact h
  | goto l => exact h
  | panic ch => exact h
  | outgrown => exact h
theorem okC_mono {c : Code} {Q' : Exit → Act → St → Prop} (h : okC P fn c Q a s) (hq : ∀ e a s, Q e a s → Q' e a s) : okC P fn c Q' a s :=
  fun Post b k cs hb hk hc => h Post b k cs hb hk fun e a' s' q => hc e a' s' (hq e a' s' q)
theorem okC_seq {x y : Code} (h : okC P fn x (thenO (fun a' s' => okC P fn y Q a' s') Q) a s) : okC P fn (.seq x y) Q a s := by
  intro Post b k cs hb hk hc
  refine OkS.silent rfl (fun w => stepG_seq) (h Post b (.code y :: k) cs hb hk fun e a' s' q => ?_)
  cases e with
  | normal => exact q Post b k cs hb hk hc
  | exit id => exact (hc _ _ _ q).push rfl (by simp)
  | ret => exact (hc _ _ _ q).push (x := .code y) rfl (by simp)
  | goto l => exact hc _ _ _ q
  | panic ch => exact hc _ _ _ q
  | outgrown => exact hc _ _ _ q
theorem okC_cond {c : Operand} {x y : Code} {t : Bool} (hc : a.eval c = .bool t) (h : okC P fn (if t then x else y) Q a s) : okC P fn (.cond c x y) Q a s :=
  fun Post b k cs hb hk hq => OkS.silent rfl (fun w => stepG_cond hc) (h Post b k cs hb hk hq)
theorem okC_skip (h : Q .normal a s) : okC P fn .skip Q a s := fun Post b k cs hb hk hc => OkS.silent rfl (fun w => stepG_skip) (hc _ _ _ h)
theorem okC_ret (h : Q .ret a s) : okC P fn .ret Q a s := fun Post b k cs hb hk hc => OkS.silent rfl (fun w => stepG_ret') (hc _ _ _ h _)
theorem okC_exit {id : Nat} (h : Q (.exit id) a s) : okC P fn (.exit id) Q a s := fun Post b k cs hb hk hc => by
  obtain ⟨k', hk', hg⟩ := hc _ _ _ h
  exact OkS.silent rfl (fun w => stepG_exit hk') hg
theorem okC_block {id : Nat} {c : Code} (h : okC P fn c (inBlockO id Q) a s) : okC P fn (.block id c) Q a s := by
  intro Post b k cs hb hk hc
  refine OkS.silent rfl (fun w => stepG_block) (h Post b (.inBlock id :: k) cs hb hk fun e a' s' q => ?_)
  cases e with
  | normal => exact OkS.silent rfl (fun w => stepG_inBlock) (hc _ _ _ q)
  | exit id' =>
    by_cases hid : id' = id
    · simp only [inBlockO, hid, if_true] at q
      exact ⟨k, by simp [exitTo, hid], hc _ _ _ q⟩
    · simp only [inBlockO, hid, if_false] at q
      obtain ⟨k', hk', hg⟩ := hc _ _ _ q
      have : (id == id') = false := by simp; exact fun h => hid h.symm
      exact ⟨k', by simp [exitTo, this, hk'], hg⟩
  | ret => exact fun todo => hc _ _ _ q todo
  | goto l => exact hc _ _ _ q
  | panic ch => exact hc _ _ _ q
  | outgrown => exact hc _ _ _ q
theorem okC_loop {c : Code} (I : Act → St → Prop) (μ : Act → St → Nat) (h₀ : I a s) (round : ∀ a s, I a s → okC P fn c (thenO (fun a' s' => I a' s' ∧ μ a' s' < μ a s) Q) a s) : okC P fn (.loop c) Q a s := by
  intro Post b k cs hb hk hc
  have key : ∀ N a s, μ a s ≤ N → I a s → OkS P Post (G (b.at a (.code c :: .inLoop c :: k)) cs) s := by
    intro N
    induction N with
    | zero =>
      intro a s hμ hI
      refine round a s hI Post b (.inLoop c :: k) cs hb hk fun e a' s' q => ?_
      cases e with
      | normal => exact absurd q.2 (by omega)
      | exit id => exact (hc _ _ _ q).push rfl (by simp)
      | ret => exact (hc _ _ _ q).push (x := .inLoop c) rfl (by simp)
      | goto l => exact hc _ _ _ q
      | panic ch => exact hc _ _ _ q
      | outgrown => exact hc _ _ _ q
    | succ N ih =>
      intro a s hμ hI
      refine round a s hI Post b (.inLoop c :: k) cs hb hk fun e a' s' q => ?_
      cases e with
      | normal => exact OkS.silent rfl (fun w => stepG_inLoop) (ih a' s' (by have := q.2; omega) q.1)
      | exit id => exact (hc _ _ _ q).push rfl (by simp)
      | ret => exact (hc _ _ _ q).push (x := .inLoop c) rfl (by simp)
      | goto l => exact hc _ _ _ q
      | panic ch => exact hc _ _ _ q
      | outgrown => exact hc _ _ _ q
  exact OkS.silent rfl (fun w => stepG_loop) (key _ a s (Nat.le_refl _) h₀)
theorem okC_region {id : Nat} {ops : Array Oper} (h : OpsO P fn ops (List.range ops.size) Q a s) : okC P fn (.region id ops false) Q a s :=
  fun Post b k cs hb hk hc => OkS.silent rfl (fun w => stepG_region) (h Post b k cs hb hk hc)
theorem opsO_nil {ops : Array Oper} (h : Q .normal a s) : OpsO P fn ops [] Q a s := fun Post b k cs _ _ hc => OkS.silent rfl (fun w => stepG_region_end) (hc _ _ _ h)
/-- From the library's judgement. -/
theorem okC_pure {c : Code} {w : World} {old : Nat → Prop} {m : Nat} (h : ∃ n, c.wpC P true AtRel (DO old) fn n (fun e a' w' => Q e a' ⟨w', old, m⟩) a w) : okC P fn c Q a ⟨w, old, m⟩ := by
  obtain ⟨n, h⟩ := h
  intro Post b k cs hb hk hc
  refine Ok.goes (Stop := fun g w => Ok P Post old m g w) (D := DO old) (fun _ _ _ h => h) (h b k cs _ 0 hb hk fun e a' w' q => ?_) (fun _ _ x => x)
  have hq := hc e a' ⟨w', old, m⟩ q
  cases e with
  | normal => exact fun w₁ h₁ => Ok.rel hq h₁
  | exit id => obtain ⟨k', hk', hg⟩ := hq; exact ⟨k', hk', fun w₁ h₁ => Ok.rel hg h₁⟩
  | ret => exact fun todo w₁ h₁ => Ok.rel (hq todo) h₁
  | goto l => exact hq
  | panic ch => exact hq
  | outgrown => exact hq
theorem opsO_pure {ops : Array Oper} {todo : List Nat} {w : World} {old : Nat → Prop} {m : Nat} (h : ∃ n, OpsC P true AtRel (DO old) fn ops todo n (fun e a' w' => Q e a' ⟨w', old, m⟩) a w) : OpsO P fn ops todo Q a ⟨w, old, m⟩ := by
  obtain ⟨n, h⟩ := h
  intro Post b k cs hb hk hc
  refine Ok.goes (Stop := fun g w => Ok P Post old m g w) (D := DO old) (fun _ _ _ h => h) (h b k cs _ 0 hb hk fun e a' w' q => ?_) (fun _ _ x => x)
  have hq := hc e a' ⟨w', old, m⟩ q
  cases e with
  | normal => exact fun w₁ h₁ => Ok.rel hq h₁
  | exit id => obtain ⟨k', hk', hg⟩ := hq; exact ⟨k', hk', fun w₁ h₁ => Ok.rel hg h₁⟩
  | ret => exact fun todo w₁ h₁ => Ok.rel (hq todo) h₁
  | goto l => exact hq
  | panic ch => exact hq
  | outgrown => exact hq
/-- One operation. -/
theorem opsO_cons {ops : Array Oper} {i : Nat} {rest : List Nat} {o : Oper} (ho : ops[i]? = some o) (hw : Region.wanted o (yielded ops a.tmps) = true)
    (h : ∀ w₁, AtRel s.w w₁ → ∀ K : Act → World → Prop, (∀ a' w', DO s.old w₁ w' (listed P fn a o w₁) ∧ OpsO P fn ops rest Q a' ⟨w', s.old, s.m⟩ → K a' w') → uponK o a K ((execOp a.eval o).run P w₁)) : OpsO P fn ops (i :: rest) Q a s := by
  intro Post b k cs hb hk hc
  refine Ok.step rfl fun w₁ h₁ => goes_oper_k ho hw hk fun K hK => h w₁ h₁ K fun a' w' x => hK a' w' ⟨by subst hb; exact x.1, x.2 Post b k cs hb hk hc⟩
theorem opsO_unwanted {ops : Array Oper} {i : Nat} {rest : List Nat} {o : Oper} (ho : ops[i]? = some o) (hw : Region.wanted o (yielded ops a.tmps) = false)
    (h : OpsO P fn ops rest Q (a.put o.dst undef) s) : OpsO P fn ops (i :: rest) Q a s :=
  fun Post b k cs hb hk hc => OkS.silent rfl (fun w => stepG_unwanted ho hw) (h Post b k cs hb hk hc)
/-- A CALL: entered beside leavers it comes back, beside more of them perhaps. -/
def CallsO (P : Program) (f : FuncId) (args : Array Value) (s : St) (Q : Value → St → Prop) : Prop :=
  ∃ fn c, P.funcs[f]? = some fn ∧ (fn.name == "runtime.NumGoroutine") = false ∧ fn.body = some c ∧
    ∀ (Post : Value → World → Prop) (b₀ : Frame) (a₀ : Act) (ops₀ : Array Oper) (i₀ : Nat) (rest₀ : List Nat) (k₀ : List Item) (cs : List Frame), b₀.kind ≠ .early →
      (∀ v s', Q v s' → OkS P Post (G (b₀.at (a₀.put ((ops₀[i₀]?).bind (·.dst)) v) (.inRegion ops₀ rest₀ :: k₀)) cs) s') →
      OkS P Post (G ((base f).at { tmps := args ++ Array.replicate (fn.ntmps - args.size) undef, defers := [] } [.code c]) ((b₀.at a₀ (.inRegion ops₀ (i₀ :: rest₀) :: k₀)) :: cs)) s
/-- What a callee's body must achieve. -/
def bodyPostO (P : Program) (fn : Func) (Q : Value → St → Prop) : Exit → Act → St → Prop
  | .normal, a, s | .ret, a, s => a.defers = [] ∧ ∃ v, ResultsC P fn a.tmps v ∧ Q v s
  | _, _, _ => False
theorem callsO_of_okC {f : FuncId} {fn : Func} {c : Code} {args : Array Value} {Q : Value → St → Prop} (hf : P.funcs[f]? = some fn) (hname : (fn.name == "runtime.NumGoroutine") = false) (hb : fn.body = some c)
    (h : okC P f c (bodyPostO P fn Q) { tmps := args ++ Array.replicate (fn.ntmps - args.size) undef, defers := [] } s) : CallsO P f args s Q := by
  refine ⟨fn, c, hf, hname, hb, fun Post b₀ a₀ ops₀ i₀ rest₀ k₀ cs hk hq => h Post (base f) [] _ rfl (by simp [base]) fun e a' s' q => ?_⟩
  have hleave : ∀ (todo : List Item), (a'.defers = [] ∧ ∃ v, ResultsC P fn a'.tmps v ∧ Q v s') → OkS P Post (G { (base f).at a' todo with mode := .returning } (b₀.at a₀ (.inRegion ops₀ (i₀ :: rest₀) :: k₀) :: cs)) s' := by
    rintro todo ⟨hd, v, hr, hp⟩
    refine OkS.silent rfl (fun w => ?_) (hq v s' hp)
    rw [stepG_leave (b := base f) rfl hd hf (hr w).1 (hr w).2, Frame.finish_at]
  cases e with
  | normal => exact OkS.silent rfl (fun w => stepG_end) (hleave [] q)
  | ret => exact fun todo => hleave todo q
  | exit id => exact q.elim
  | goto l => exact q.elim
  | panic ch => exact q.elim
  | outgrown => exact q.elim
theorem opsO_call {ops : Array Oper} {i : Nat} {rest : List Nat} {o : Oper} {f : FuncId} {args : Array Operand} {ats : Array TypeId} {Q' : Value → St → Prop}
    (ho : ops[i]? = some o) (hw : Region.wanted o (yielded ops a.tmps) = true) (hop : o.op = .call { callee := .value (.func f), args, argTypes := ats })
    (hcall : CallsO P f (args.map a.eval) s Q') (hnext : ∀ v s', Q' v s' → OpsO P fn ops rest Q (a.put o.dst v) s') : OpsO P fn ops (i :: rest) Q a s := by
  obtain ⟨fn', c, hf, hname, hbody, hwp⟩ := hcall
  intro Post b k cs hb hk hc
  refine Ok.step rfl fun w₁ h₁ => goes_call ho hw hk hop hf hname hbody ⟨ok_none _, Ok.rel (hwp Post b a ops i rest k cs hk fun v s' q => ?_) h₁⟩
  have := hnext v s' q Post b k cs hb hk hc
  rw [ho]
  exact this
/-- From a contract in company. -/
theorem callsO_of_callsC {f : FuncId} {args : Array Value} {w : World} {old : Nat → Prop} {m n : Nat} {Q : Value → World → Prop} (h : CallsC P true AtRel (DO old) f args n w Q) : CallsO P f args ⟨w, old, m⟩ (fun v s => Q v s.w ∧ s.old = old ∧ s.m = m) := by
  obtain ⟨fn, c, hf, hn, hb, h⟩ := h
  refine callsO_of_okC hf hn hb (okC_pure ⟨n, wpC_mono h fun e a w q => ?_⟩)
  cases e <;> first | exact ⟨q.1, q.2.choose, q.2.choose_spec.1, q.2.choose_spec.2, rfl, rfl⟩ | exact q
theorem CallsO.mono {f : FuncId} {args : Array Value} {Q Q' : Value → St → Prop} (h : CallsO P f args s Q) (hq : ∀ v s, Q v s → Q' v s) : CallsO P f args s Q' := by
  obtain ⟨fn, c, hf, hn, hb, hw⟩ := h
  exact ⟨fn, c, hf, hn, hb, fun Post b₀ a₀ ops₀ i₀ rest₀ k₀ cs hk hc => hw Post b₀ a₀ ops₀ i₀ rest₀ k₀ cs hk fun v s q => hc v s (hq v s q)⟩
/-- THE WHOLE RUN of a function that is entered alone. -/
theorem run_of_okC {f : FuncId} {fn : Func} {c : Code} {args : Array Value} {W : World} {Q : Value → World → Prop} {m : Nat} (hm : 0 < m) (hf : P.funcs[f]? = some fn) (hb : fn.body = some c) (hin : P.inits.idxOf? f = none) (hQ : ∀ v w d, Q v w → Q v (w.at d))
    (h : okC P f c (bodyPostO P fn fun v s => Q v s.w) { tmps := args ++ Array.replicate (fn.ntmps - args.size) undef, defers := [] } ⟨W, fun _ => False, m⟩) :
    ∃ M last o w' t', runNT P (M + 1) (solo (G (Frame.enter P f args .normal) []) W) #[] = (.ended o w', t') ∧ runN P M (solo (G (Frame.enter P f args .normal) []) W) = .next last ∧ step P last = .ended o w' ∧ Conc.Good P Q last o w' t' := by
  have hok : OkS P Q (G ((base f).at { tmps := args ++ Array.replicate (fn.ntmps - args.size) undef, defers := [] } [.code c]) []) ⟨W, fun _ => False, m⟩ := by
    refine h Q (base f) [] [] rfl (by simp [base]) fun e a' s' q => ?_
    have hend : ∀ todo, (a'.defers = [] ∧ ∃ v, ResultsC P fn a'.tmps v ∧ Q v s'.w) → OkS P Q (G { (base f).at a' todo with mode := .returning } []) s' := by
      rintro todo ⟨hd, v, hr, hq⟩
      refine Ok.ended rfl fun w₁ h₁ => ⟨v, #[], ?_, fun e he => by simp at he, ?_⟩
      · simp [G, stepG, unwind, doReturn, Frame.at, hd, hf, (hr w₁).1, (hr w₁).2, seen, GStep.after, base, hin]
      · obtain ⟨d, rfl⟩ := h₁
        exact hQ v _ d hq
    cases e with
    | normal => exact OkS.silent rfl (fun w => stepG_end) (hend [] q)
    | ret => exact fun todo => hend todo q
    | exit id => exact q.elim
    | goto l => exact q.elim
    | panic ch => exact q.elim
    | outgrown => exact q.elim
  have e : Frame.enter P f args .normal = (base f).at { tmps := args ++ Array.replicate (fn.ntmps - args.size) undef, defers := [] } [.code c] := by
    simp [Frame.enter, Frame.at, hf, base, hb]
  rw [e, solo_eq_crowd]
  have := hok #[_] none #[] (fun _ => 0) W.drawn rfl (by simp; omega) (leavers_one _ _) ⟨⟨past_nil.clean, fun i a ha hm => (past_nil.known i a ha hm).imp id fun x => x.1.elim, past_nil.over, past_nil.hears, fun op hop => by simp at hop⟩, fun i a c ha => by simp [touchAt, Trace.act?] at ha⟩
  exact this
end
end Go.Proofs.Ytiobhgemjbjipaa
