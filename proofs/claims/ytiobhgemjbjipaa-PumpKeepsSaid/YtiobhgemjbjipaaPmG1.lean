/- Contracts and plain laws that this claim uses, each with its conditions as premises. -/
import Derived.Test.YtiobhgemjbjipaaPmPumpSpec
import Derived.Conc.CrowdBase
import Derived.Conc.Pipeline
import Derived.Conc.Beside
/- The stages of all goroutines of one call as tags, and what holds of the tags at every moment: counting, no machine in sight. -/
namespace Go.Proofs.Ytiobhgemjbjipaa
open Go.Conc
open Go.ConcN (sumTo upd sumTo_upd upd_ne upd_same sumTo_congr le_sumTo sumTo_le sumTo_upd_out)
set_option linter.unusedVariables false
set_option linter.unusedSimpArgs false
inductive Tag where
  | none_
  | gone (d : Nat)
  | loop (l : List Value) | got (v : Value) (l : List Value) | quit | wdis | wadd | last1 | last2 | last3
  | tdis | tload | tcas (vs : Nat) | tsem | tload2 | tena | tacq | tshut
  | csel | cquit | cdone | cout
  | fdis (r : Nat) | fadd (r : Nat) | fena (r : Nat) | fgo (r : Nat) | fgoT | fgoC | cons (n : Nat) (b : Bool) (ys : List (Nat × Value × Value))
namespace Tag
def cnt : Tag → Nat
  | loop _ | got _ _ | quit | wdis | wadd | fena _ | fgo _ => 1
  | _ => 0
def sem : Tag → Nat
  | tsem => 1
  | _ => 0
def l1 : Tag → Nat
  | last1 => 1
  | _ => 0
def l2 : Tag → Nat
  | last2 => 1
  | _ => 0
def l3 : Tag → Nat
  | last3 => 1
  | _ => 0
def past : Tag → Nat
  | tload2 | tena | tacq | tshut => 1
  | _ => 0
def pre : Tag → Nat
  | tdis | tload | tcas _ => 1
  | _ => 0
def tt : Tag → Nat
  | tdis | tload | tcas _ | tsem | tload2 | tena | tacq | tshut => 1
  | _ => 0
def cc : Tag → Nat
  | csel | cquit | cdone | cout => 1
  | _ => 0
def co : Tag → Nat
  | cout => 1
  | _ => 0
def cd : Tag → Nat
  | cdone => 1
  | _ => 0
def cq : Tag → Nat
  | cquit => 1
  | _ => 0
def cs : Tag → Nat
  | csel => 1
  | _ => 0
def op : Tag → Nat
  | fdis _ | fadd _ | fena _ | fgo _ | fgoT | fgoC => 1
  | cons _ true _ => 1
  | _ => 0
/-- How deaf. -/
def dOf : Tag → Nat
  | gone d => d
  | wadd | last1 | last2 | last3 | tload | tcas _ | tsem | tload2 | tena | fadd _ | fena _ => 1
  | _ => 0
def ysOf : Tag → List (Nat × Value × Value)
  | cons _ _ ys => ys
  | _ => []
/-- Where it may stand waiting. -/
def waits : Tag → Bool
  | got _ _ | tsem | csel | cdone | cons _ _ _ => true
  | _ => false
def isGot : Tag → Bool
  | got _ _ => true
  | _ => false
/-- It has said its release. -/
def rel : Tag → Bool
  | gone _ | wdis | wadd | last1 | last2 | last3 => true
  | _ => false
/-- What it may say as it walks to its stop. -/
def sayM : Tag → Option (Addr → Mark)
  | tsem => some .write
  | fena _ => some .read
  | _ => none
def way : Tag → Bool
  | gone _ | loop _ | got _ _ | quit | wdis | wadd | last1 | last2 | last3 => true
  | _ => false
def wtr : Tag → Bool
  | gone _ | tdis | tload | tcas _ | tsem | tload2 | tena | tacq | tshut => true
  | _ => false
def clo : Tag → Bool
  | gone _ | csel | cquit | cdone | cout => true
  | _ => false
end Tag
open Tag
/-- How many messages the rows have that are not forked yet, r of them. -/
def toFork (E : PE) : Nat → Nat
  | 0 => 0
  | r + 1 => toFork E r + (E.rows (E.n - (r + 1))).length
def Tag.rest (E : PE) : Tag → Nat
  | loop l => l.length
  | got _ l => l.length + 1
  | fdis r | fadd r | fena r | fgo r => toFork E r + 1
  | fgoT | fgoC => 1
  | cons _ b _ => b.toNat
  | _ => 0
def Tag.room (nn : Nat) : Tag → Nat
  | fdis _ | fadd _ | fena _ | fgo _ | fgoT | fgoC => nn
  | cons n _ _ => n
  | _ => 0
def Tag.rank (E : PE) (nn : Nat) : Tag → Nat
  | none_ | gone _ => 0
  | loop l => 3 * l.length + 9
  | got _ l => 3 * l.length + 11
  | quit => 8 | wdis => 7 | wadd => 6 | last1 => 3 | last2 => 2 | last3 => 1
  | tdis => 12 | tload => 11 | tcas _ => 10 | tsem => 9 | tload2 => 8 | tena => 7 | tacq => 6 | tshut => 5
  | csel => 6 | cquit => 5 | cdone => 4 | cout => 3
  | cons n b _ => n + b.toNat
  | fgoC => nn + 12 | fgoT => nn + 30
  | fgo r => nn + 40 + 20 * r + 3 * toFork E r | fena r => nn + 41 + 20 * r + 3 * toFork E r | fadd r => nn + 42 + 20 * r + 3 * toFork E r | fdis r => nn + 43 + 20 * r + 3 * toFork E r
/-- What is the same at every moment of the call. -/
structure Cx where
  P : Program
  E : PE
  nn : Nat
  b0 : Bool
  Exit : Bool → List (Nat × Value × Value) → Goroutine → World → Prop
/-- The ghost: who stands where; what the shared blocks hold; what has come. -/
structure Gh where
  tag : Nat → Tag
  mine : Nat → Nat → Prop
  N : Nat
  v : Nat
  wt : Nat
  sm : Nat
  cr : Nat
  oc : Bool
  qc : Bool
  dc : Bool
  sc : Bool
  dl : Nat → List Value
  buf : Nat → List Value
def Gh.sum (σ : Gh) (sz : Nat) (φ : Tag → Nat) : Nat := sumTo sz fun i => φ (σ.tag i)
def Cx.iw (C : Cx) : Nat := C.E.j0 + C.E.n
def Cx.ic (C : Cx) : Nat := C.E.j0 + C.E.n + 1
/-- Who may bear which tag. -/
def Role (C : Cx) (i : Nat) (t : Tag) (sz : Nat) : Prop :=
  if i = 0 then match t with
    | fdis r | fadd r | fena r | fgo r => 1 ≤ r ∧ r ≤ C.E.n ∧ sz + r = C.iw
    | fgoT => sz = C.iw
    | fgoC => sz = C.ic
    | cons _ _ _ => sz = C.ic + 1
    | _ => False
  else if i < C.E.j0 then ∃ d, t = gone d
  else if sz ≤ i then t = none_
  else if i < C.iw then t.way = true
  else if i = C.iw then t.wtr = true
  else t.clo = true
def Nums (c s l1 l2 l3 p pr t k co cd cq cs op rw mw v wt sm oc dc qc sc sT sC : Nat) : Prop :=
  c = v ∧ wt + l3 + sm = s ∧ s ≤ 1 ∧ l1 + l2 ≤ wt ∧ (wt = 1 → v = 0 → l1 + l2 = 1) ∧ (1 ≤ l1 + l2 + l3 + sm → v = 0) ∧ (1 ≤ p + dc → v = 0 ∧ s = 0) ∧ t + dc = sT ∧ s + p + pr = t ∧ k + oc = sC ∧ co + oc ≤ dc ∧ cd ≤ qc ∧ cq ≤ sc ∧ qc ≤ sc ∧ cs + cq + qc ≤ 1 ∧ cs + cq + cd + co = k ∧ op + sc ≤ 1 ∧ rw ≤ mw
structure Abs (C : Cx) (σ : Gh) (sz : Nat) : Prop where
  j0 : 0 < C.E.j0 ∧ C.E.j0 ≤ sz ∧ sz ≤ C.ic + 1
  role : ∀ i, Role C i (σ.tag i) sz
  nums : Nums (σ.sum sz cnt) (σ.sum sz sem) (σ.sum sz l1) (σ.sum sz l2) (σ.sum sz l3) (σ.sum sz past) (σ.sum sz pre) (σ.sum sz tt) (σ.sum sz cc) (σ.sum sz co) (σ.sum sz cd) (σ.sum sz cq) (σ.sum sz cs) (σ.sum sz op) (σ.sum sz (rest C.E)) (room C.nn (σ.tag 0))
    σ.v σ.wt σ.sm σ.oc.toNat σ.dc.toNat σ.qc.toNat σ.sc.toNat (if C.iw < sz then 1 else 0) (if C.ic < sz then 1 else 0)
  cas : ∀ i vs, σ.tag i = .tcas vs → 1 ≤ vs ∧ (vs = σ.v ∨ 2 ≤ σ.cr)
  live : ∀ k, k < C.E.n → C.E.j0 + k < sz → match σ.tag (C.E.j0 + k) with
    | .loop l => C.E.rows k = σ.dl k ++ l ∧ σ.buf k = l
    | .got v l => C.E.rows k = σ.dl k ++ v :: l ∧ σ.buf k = l
    | _ => ∃ l, C.E.rows k = σ.dl k ++ l ∧ (l = [] ∨ σ.qc = true)
  idle : ∀ k, k < C.E.n → sz ≤ C.E.j0 + k → σ.dl k = [] ∧ σ.buf k = C.E.rows k
  had : ∀ k, ((σ.tag 0).ysOf.filter (fun y => y.1 == k)).map (·.2.1) = σ.dl k
def Gh.A (C : Cx) (σ : Gh) (sz : Nat) : Nat := σ.sum sz (rank C.E C.nn) + σ.cr
/-- One goroutine's tag turns. -/
def Gh.set (σ : Gh) (i : Nat) (t : Tag) : Gh := { σ with tag := upd σ.tag i t }
theorem sum_set (σ : Gh) {sz i : Nat} (t : Tag) (φ : Tag → Nat) (h : i < sz) : (σ.set i t).sum sz φ + φ (σ.tag i) = σ.sum sz φ + φ t := sumTo_upd σ.tag t φ h
theorem le_sum (σ : Gh) {sz i : Nat} (φ : Tag → Nat) (h : i < sz) : φ (σ.tag i) ≤ σ.sum sz φ := le_sumTo (f := fun i => φ (σ.tag i)) h
end Go.Proofs.Ytiobhgemjbjipaa

/- The turns of the tags, one by one: what holds of the tags at every moment is kept, and the measure falls. No machine in sight. -/
namespace Go.Proofs.Ytiobhgemjbjipaa
open Go.Conc
open Go.ConcN (sumTo upd sumTo_upd upd_ne upd_same sumTo_congr le_sumTo sumTo_le sumTo_upd_out)
open Tag
set_option linter.unusedVariables false
set_option linter.unusedSimpArgs false
variable {C : Cx} {σ σ' : Gh} {sz i k : Nat}
theorem sums_set (σ : Gh) {sz i : Nat} {a : Tag} (ha : σ.tag i = a) (t : Tag) (h : i < sz) (E : PE) (nn : Nat) :
    (σ.set i t).sum sz cnt + a.cnt = σ.sum sz cnt + t.cnt ∧ (σ.set i t).sum sz sem + a.sem = σ.sum sz sem + t.sem ∧ (σ.set i t).sum sz l1 + a.l1 = σ.sum sz l1 + t.l1 ∧ (σ.set i t).sum sz l2 + a.l2 = σ.sum sz l2 + t.l2 ∧
    (σ.set i t).sum sz l3 + a.l3 = σ.sum sz l3 + t.l3 ∧ (σ.set i t).sum sz past + a.past = σ.sum sz past + t.past ∧ (σ.set i t).sum sz pre + a.pre = σ.sum sz pre + t.pre ∧ (σ.set i t).sum sz tt + a.tt = σ.sum sz tt + t.tt ∧ (σ.set i t).sum sz Tag.cc + a.cc = σ.sum sz Tag.cc + t.cc ∧
    (σ.set i t).sum sz co + a.co = σ.sum sz co + t.co ∧ (σ.set i t).sum sz cd + a.cd = σ.sum sz cd + t.cd ∧ (σ.set i t).sum sz cq + a.cq = σ.sum sz cq + t.cq ∧ (σ.set i t).sum sz cs + a.cs = σ.sum sz cs + t.cs ∧
    (σ.set i t).sum sz op + a.op = σ.sum sz op + t.op ∧ (σ.set i t).sum sz (rest E) + a.rest E = σ.sum sz (rest E) + t.rest E ∧ (σ.set i t).sum sz (rank E nn) + a.rank E nn = σ.sum sz (rank E nn) + t.rank E nn := by
  subst ha
  exact ⟨sum_set σ t _ h, sum_set σ t _ h, sum_set σ t _ h, sum_set σ t _ h, sum_set σ t _ h, sum_set σ t _ h, sum_set σ t _ h, sum_set σ t _ h, sum_set σ t _ h, sum_set σ t _ h, sum_set σ t _ h, sum_set σ t _ h, sum_set σ t _ h, sum_set σ t _ h, sum_set σ t _ h, sum_set σ t _ h⟩
theorem sums_le (σ : Gh) {sz i : Nat} {a : Tag} (ha : σ.tag i = a) (h : i < sz) (E : PE) :
    a.cnt ≤ σ.sum sz cnt ∧ a.sem ≤ σ.sum sz sem ∧ a.l1 ≤ σ.sum sz l1 ∧ a.l2 ≤ σ.sum sz l2 ∧ a.l3 ≤ σ.sum sz l3 ∧ a.past ≤ σ.sum sz past ∧ a.pre ≤ σ.sum sz pre ∧ a.tt ≤ σ.sum sz tt ∧ a.cc ≤ σ.sum sz Tag.cc ∧ a.co ≤ σ.sum sz co ∧ a.cd ≤ σ.sum sz cd ∧ a.cq ≤ σ.sum sz cq ∧ a.cs ≤ σ.sum sz cs ∧ a.op ≤ σ.sum sz op ∧ a.rest E ≤ σ.sum sz (rest E) := by
  subst ha
  exact ⟨le_sum σ _ h, le_sum σ _ h, le_sum σ _ h, le_sum σ _ h, le_sum σ _ h, le_sum σ _ h, le_sum σ _ h, le_sum σ _ h, le_sum σ _ h, le_sum σ _ h, le_sum σ _ h, le_sum σ _ h, le_sum σ _ h, le_sum σ _ h, le_sum σ _ h⟩
/-- What a way's tag says of its row. -/
def Row (C : Cx) (dl buf : Nat → List Value) (qc : Bool) (k : Nat) (t : Tag) : Prop :=
  match t with
    | .loop l => C.E.rows k = dl k ++ l ∧ buf k = l
    | .got v l => C.E.rows k = dl k ++ v :: l ∧ buf k = l
    | _ => ∃ l, C.E.rows k = dl k ++ l ∧ (l = [] ∨ qc = true)
theorem Row.keep {dl buf dl' buf' : Nat → List Value} {qc qc' : Bool} {t : Tag} (h : Row C dl buf qc k t) (hd : dl' k = dl k) (hb : buf' k = buf k) (hq : qc = true → qc' = true) : Row C dl' buf' qc' k t := by
  unfold Row at h ⊢
  rw [hd, hb]
  split at h
  · exact h
  · exact h
  · obtain ⟨l, h1, h2⟩ := h
    exact ⟨l, h1, h2.imp id hq⟩
theorem Abs.cas_at (h : Abs C σ sz) {j vs : Nat} (ht : σ.tag j = .tcas vs) : j = C.iw ∧ C.iw < sz := by
  have r := h.role j
  unfold Role at r
  rw [ht] at r
  split at r
  · exact r.elim
  · split at r
    · obtain ⟨d, hd⟩ := r; cases hd
    · split at r
      · cases r
      · split at r
        · cases r
        · split at r
          · rename_i e; exact ⟨e, by omega⟩
          · cases r
/-- ONE TAG TURNS: what is to be shown. -/
theorem Abs.go (h : Abs C σ sz) {t : Tag} (hi : i < sz) (ht : σ'.tag = (σ.set i t).tag) (hr : Role C i t sz)
    (hn : Nums ((σ.set i t).sum sz cnt) ((σ.set i t).sum sz sem) ((σ.set i t).sum sz l1) ((σ.set i t).sum sz l2) ((σ.set i t).sum sz l3) ((σ.set i t).sum sz past) ((σ.set i t).sum sz pre) ((σ.set i t).sum sz tt) ((σ.set i t).sum sz Tag.cc) ((σ.set i t).sum sz co) ((σ.set i t).sum sz cd) ((σ.set i t).sum sz cq) ((σ.set i t).sum sz cs) ((σ.set i t).sum sz op) ((σ.set i t).sum sz (rest C.E)) (room C.nn (upd σ.tag i t 0))
      σ'.v σ'.wt σ'.sm σ'.oc.toNat σ'.dc.toNat σ'.qc.toNat σ'.sc.toNat (if C.iw < sz then 1 else 0) (if C.ic < sz then 1 else 0))
    (hc : ∀ j vs, j ≠ i → σ.tag j = .tcas vs → vs = σ.v ∨ 2 ≤ σ.cr → vs = σ'.v ∨ 2 ≤ σ'.cr) (hc' : ∀ vs, t = .tcas vs → 1 ≤ vs ∧ (vs = σ'.v ∨ 2 ≤ σ'.cr)) (hd : ∀ j, C.E.j0 + j ≠ i → σ'.dl j = σ.dl j ∧ σ'.buf j = σ.buf j) (hq : σ.qc = true → σ'.qc = true)
    (hl : ∀ k, k < C.E.n → C.E.j0 + k = i → Row C σ'.dl σ'.buf σ'.qc k t) (hh : ∀ k, (((upd σ.tag i t) 0).ysOf.filter (fun y => y.1 == k)).map (·.2.1) = σ'.dl k) : Abs C σ' sz := by
  have hs : ∀ φ, σ'.sum sz φ = (σ.set i t).sum sz φ := fun φ => by simp only [Gh.sum, ht]
  have hu : ∀ j, σ'.tag j = upd σ.tag i t j := fun j => by rw [ht]; rfl
  refine ⟨h.j0, fun j => ?_, by simp only [hs, hu 0]; exact hn, fun j vs hj => ?_, fun k hk hz => ?_, fun k hk hz => ?_, fun k => by rw [hu]; exact hh k⟩
  · rw [hu]
    by_cases e : j = i
    · subst e; rw [upd_same]; exact hr
    · rw [upd_ne _ _ e]; exact h.role j
  · rw [hu] at hj
    by_cases e : j = i
    · subst e; rw [upd_same] at hj; exact hc' vs hj
    · rw [upd_ne _ _ e] at hj; exact ⟨(h.cas j vs hj).1, hc j vs e hj (h.cas j vs hj).2⟩
  · rw [hu]
    by_cases e : C.E.j0 + k = i
    · rw [e, upd_same]; exact hl k hk e
    · rw [upd_ne _ _ e]
      exact Row.keep (h.live k hk hz) (hd k e).1 (hd k e).2 hq
  · have := hd k (by omega)
    rw [this.1, this.2]; exact h.idle k hk hz
theorem Abs.got1 (h : Abs C σ sz) (hk : k < C.E.n) (hz : C.E.j0 + k < sz) {v : Value} {l : List Value} (ht : σ.tag (C.E.j0 + k) = .loop (v :: l)) : Abs C ({ σ.set (C.E.j0 + k) (.got v l) with buf := upd σ.buf k l }) sz ∧ ({ σ.set (C.E.j0 + k) (.got v l) with buf := upd σ.buf k l } : Gh).A C sz < σ.A C sz := by
  have q := sums_set σ ht (.got v l) hz C.E C.nn
  have p := sums_le σ ht hz C.E
  have n := h.nums
  have hj := h.j0
  have eA : ({ σ.set (C.E.j0 + k) (.got v l) with buf := upd σ.buf k l } : Gh).A C sz = (σ.set (C.E.j0 + k) (.got v l)).sum sz (Tag.rank C.E C.nn) + ({ σ.set (C.E.j0 + k) (.got v l) with buf := upd σ.buf k l } : Gh).cr := rfl
  simp only [Tag.cnt, Tag.sem, Tag.l1, Tag.l2, Tag.l3, Tag.past, Tag.pre, Tag.tt, Tag.cc, Tag.co, Tag.cd, Tag.cq, Tag.cs, Tag.op, Tag.rest, Tag.room, Tag.rank, List.length_cons, List.length_nil, Bool.toNat_true, Bool.toNat_false] at q p
  unfold Nums at n
  have i1 : (if C.iw < sz then 1 else 0) ≤ 1 := by split <;> omega
  have i2 : (if C.ic < sz then 1 else 0) ≤ 1 := by split <;> omega
  have e0 : room C.nn (upd σ.tag (C.E.j0 + k) (.got v l) 0) = room C.nn (σ.tag 0) := by rw [upd_ne _ _ (by  omega)]
  refine ⟨h.go hz rfl ?_ ?_ ?_ ?_ ?_ ?_ ?_ ?_, ?_⟩
  · unfold Role
    rw [if_neg (by omega), if_neg (by omega), if_neg (by omega), if_pos (by unfold Cx.iw; omega)]
    rfl
  · unfold Nums
    clear eA
    try simp only [Bool.toNat_true, Bool.toNat_false] at *
    refine ⟨?_, ?_, ?_, ?_, ?_, ?_, ?_, ?_, ?_, ?_, ?_, ?_, ?_, ?_, ?_, ?_, ?_, ?_⟩ <;> (try simp only [Gh.set, Bool.toNat_true, Bool.toNat_false] at *) <;> first | omega | exact fun _ => trivial
  · exact fun _ vs _ _ x => x
  · intro vs e; cases e
  · intro j hj
    exact ⟨rfl, upd_ne _ _ (by intro e; subst e; exact hj rfl)⟩
  · exact id
  · intro k' hk' e
    obtain rfl : k' = k := by omega
    have r := h.live k' hk' hz
    rw [ht] at r
    exact ⟨r.1, upd_same _ _ _⟩
  · intro j; rw [upd_ne _ _ (by  omega)]; exact h.had j
  · rw [eA]; unfold Gh.A; simp only [Gh.set] at *; omega
theorem Abs.shut1 (h : Abs C σ sz) (hk : k < C.E.n) (hz : C.E.j0 + k < sz)  (ht : σ.tag (C.E.j0 + k) = .loop []) : Abs C (σ.set (C.E.j0 + k) .quit) sz ∧ (σ.set (C.E.j0 + k) .quit : Gh).A C sz < σ.A C sz := by
  have q := sums_set σ ht .quit hz C.E C.nn
  have p := sums_le σ ht hz C.E
  have n := h.nums
  have hj := h.j0
  have eA : (σ.set (C.E.j0 + k) .quit : Gh).A C sz = (σ.set (C.E.j0 + k) .quit).sum sz (Tag.rank C.E C.nn) + (σ.set (C.E.j0 + k) .quit : Gh).cr := rfl
  simp only [Tag.cnt, Tag.sem, Tag.l1, Tag.l2, Tag.l3, Tag.past, Tag.pre, Tag.tt, Tag.cc, Tag.co, Tag.cd, Tag.cq, Tag.cs, Tag.op, Tag.rest, Tag.room, Tag.rank, List.length_cons, List.length_nil, Bool.toNat_true, Bool.toNat_false] at q p
  unfold Nums at n
  have i1 : (if C.iw < sz then 1 else 0) ≤ 1 := by split <;> omega
  have i2 : (if C.ic < sz then 1 else 0) ≤ 1 := by split <;> omega
  have e0 : room C.nn (upd σ.tag (C.E.j0 + k) .quit 0) = room C.nn (σ.tag 0) := by rw [upd_ne _ _ (by  omega)]
  refine ⟨h.go hz rfl ?_ ?_ ?_ ?_ ?_ ?_ ?_ ?_, ?_⟩
  · unfold Role
    rw [if_neg (by omega), if_neg (by omega), if_neg (by omega), if_pos (by unfold Cx.iw; omega)]
    rfl
  · unfold Nums
    clear eA
    try simp only [Bool.toNat_true, Bool.toNat_false] at *
    refine ⟨?_, ?_, ?_, ?_, ?_, ?_, ?_, ?_, ?_, ?_, ?_, ?_, ?_, ?_, ?_, ?_, ?_, ?_⟩ <;> (try simp only [Gh.set, Bool.toNat_true, Bool.toNat_false] at *) <;> first | omega | exact fun _ => trivial
  · exact fun _ vs _ _ x => x
  · intro vs e; cases e
  · exact fun j _ => ⟨rfl, rfl⟩
  · exact id
  · intro k' hk' e
    obtain rfl : k' = k := by omega
    have r := h.live k' hk' hz
    rw [ht] at r
    exact ⟨[], r.1, .inl rfl⟩
  · intro j; rw [upd_ne _ _ (by  omega)]; exact h.had j
  · rw [eA]; unfold Gh.A; simp only [Gh.set] at *; omega
theorem Abs.quit1 (h : Abs C σ sz) (hk : k < C.E.n) (hz : C.E.j0 + k < sz) {l : List Value} (hq : σ.qc = true) (ht : σ.tag (C.E.j0 + k) = .loop l) : Abs C (σ.set (C.E.j0 + k) .quit) sz ∧ (σ.set (C.E.j0 + k) .quit : Gh).A C sz < σ.A C sz := by
  have q := sums_set σ ht .quit hz C.E C.nn
  have p := sums_le σ ht hz C.E
  have n := h.nums
  have hj := h.j0
  have eA : (σ.set (C.E.j0 + k) .quit : Gh).A C sz = (σ.set (C.E.j0 + k) .quit).sum sz (Tag.rank C.E C.nn) + (σ.set (C.E.j0 + k) .quit : Gh).cr := rfl
  simp only [Tag.cnt, Tag.sem, Tag.l1, Tag.l2, Tag.l3, Tag.past, Tag.pre, Tag.tt, Tag.cc, Tag.co, Tag.cd, Tag.cq, Tag.cs, Tag.op, Tag.rest, Tag.room, Tag.rank, List.length_cons, List.length_nil, Bool.toNat_true, Bool.toNat_false] at q p
  unfold Nums at n
  have i1 : (if C.iw < sz then 1 else 0) ≤ 1 := by split <;> omega
  have i2 : (if C.ic < sz then 1 else 0) ≤ 1 := by split <;> omega
  have e0 : room C.nn (upd σ.tag (C.E.j0 + k) .quit 0) = room C.nn (σ.tag 0) := by rw [upd_ne _ _ (by  omega)]
  refine ⟨h.go hz rfl ?_ ?_ ?_ ?_ ?_ ?_ ?_ ?_, ?_⟩
  · unfold Role
    rw [if_neg (by omega), if_neg (by omega), if_neg (by omega), if_pos (by unfold Cx.iw; omega)]
    rfl
  · unfold Nums
    clear eA
    try simp only [Bool.toNat_true, Bool.toNat_false] at *
    refine ⟨?_, ?_, ?_, ?_, ?_, ?_, ?_, ?_, ?_, ?_, ?_, ?_, ?_, ?_, ?_, ?_, ?_, ?_⟩ <;> (try simp only [Gh.set, Bool.toNat_true, Bool.toNat_false] at *) <;> first | omega | exact fun _ => trivial
  · exact fun _ vs _ _ x => x
  · intro vs e; cases e
  · exact fun j _ => ⟨rfl, rfl⟩
  · exact id
  · intro k' hk' e
    obtain rfl : k' = k := by omega
    have r := h.live k' hk' hz
    rw [ht] at r
    exact ⟨l, r.1, .inr hq⟩
  · intro j; rw [upd_ne _ _ (by  omega)]; exact h.had j
  · rw [eA]; unfold Gh.A; simp only [Gh.set] at *; omega
theorem Abs.quit2 (h : Abs C σ sz) (hk : k < C.E.n) (hz : C.E.j0 + k < sz) {v : Value} {l : List Value} (hq : σ.qc = true) (ht : σ.tag (C.E.j0 + k) = .got v l) : Abs C (σ.set (C.E.j0 + k) .quit) sz ∧ (σ.set (C.E.j0 + k) .quit : Gh).A C sz < σ.A C sz := by
  have q := sums_set σ ht .quit hz C.E C.nn
  have p := sums_le σ ht hz C.E
  have n := h.nums
  have hj := h.j0
  have eA : (σ.set (C.E.j0 + k) .quit : Gh).A C sz = (σ.set (C.E.j0 + k) .quit).sum sz (Tag.rank C.E C.nn) + (σ.set (C.E.j0 + k) .quit : Gh).cr := rfl
  simp only [Tag.cnt, Tag.sem, Tag.l1, Tag.l2, Tag.l3, Tag.past, Tag.pre, Tag.tt, Tag.cc, Tag.co, Tag.cd, Tag.cq, Tag.cs, Tag.op, Tag.rest, Tag.room, Tag.rank, List.length_cons, List.length_nil, Bool.toNat_true, Bool.toNat_false] at q p
  unfold Nums at n
  have i1 : (if C.iw < sz then 1 else 0) ≤ 1 := by split <;> omega
  have i2 : (if C.ic < sz then 1 else 0) ≤ 1 := by split <;> omega
  have e0 : room C.nn (upd σ.tag (C.E.j0 + k) .quit 0) = room C.nn (σ.tag 0) := by rw [upd_ne _ _ (by  omega)]
  refine ⟨h.go hz rfl ?_ ?_ ?_ ?_ ?_ ?_ ?_ ?_, ?_⟩
  · unfold Role
    rw [if_neg (by omega), if_neg (by omega), if_neg (by omega), if_pos (by unfold Cx.iw; omega)]
    rfl
  · unfold Nums
    clear eA
    try simp only [Bool.toNat_true, Bool.toNat_false] at *
    refine ⟨?_, ?_, ?_, ?_, ?_, ?_, ?_, ?_, ?_, ?_, ?_, ?_, ?_, ?_, ?_, ?_, ?_, ?_⟩ <;> (try simp only [Gh.set, Bool.toNat_true, Bool.toNat_false] at *) <;> first | omega | exact fun _ => trivial
  · exact fun _ vs _ _ x => x
  · intro vs e; cases e
  · exact fun j _ => ⟨rfl, rfl⟩
  · exact id
  · intro k' hk' e
    obtain rfl : k' = k := by omega
    have r := h.live k' hk' hz
    rw [ht] at r
    exact ⟨v :: l, r.1, .inr hq⟩
  · intro j; rw [upd_ne _ _ (by  omega)]; exact h.had j
  · rw [eA]; unfold Gh.A; simp only [Gh.set] at *; omega
theorem Abs.wrel (h : Abs C σ sz) (hk : k < C.E.n) (hz : C.E.j0 + k < sz)  (ht : σ.tag (C.E.j0 + k) = .quit) : Abs C (σ.set (C.E.j0 + k) .wdis) sz ∧ (σ.set (C.E.j0 + k) .wdis : Gh).A C sz < σ.A C sz := by
  have q := sums_set σ ht .wdis hz C.E C.nn
  have p := sums_le σ ht hz C.E
  have n := h.nums
  have hj := h.j0
  have eA : (σ.set (C.E.j0 + k) .wdis : Gh).A C sz = (σ.set (C.E.j0 + k) .wdis).sum sz (Tag.rank C.E C.nn) + (σ.set (C.E.j0 + k) .wdis : Gh).cr := rfl
  simp only [Tag.cnt, Tag.sem, Tag.l1, Tag.l2, Tag.l3, Tag.past, Tag.pre, Tag.tt, Tag.cc, Tag.co, Tag.cd, Tag.cq, Tag.cs, Tag.op, Tag.rest, Tag.room, Tag.rank, List.length_cons, List.length_nil, Bool.toNat_true, Bool.toNat_false] at q p
  unfold Nums at n
  have i1 : (if C.iw < sz then 1 else 0) ≤ 1 := by split <;> omega
  have i2 : (if C.ic < sz then 1 else 0) ≤ 1 := by split <;> omega
  have e0 : room C.nn (upd σ.tag (C.E.j0 + k) .wdis 0) = room C.nn (σ.tag 0) := by rw [upd_ne _ _ (by  omega)]
  refine ⟨h.go hz rfl ?_ ?_ ?_ ?_ ?_ ?_ ?_ ?_, ?_⟩
  · unfold Role
    rw [if_neg (by omega), if_neg (by omega), if_neg (by omega), if_pos (by unfold Cx.iw; omega)]
    rfl
  · unfold Nums
    clear eA
    try simp only [Bool.toNat_true, Bool.toNat_false] at *
    refine ⟨?_, ?_, ?_, ?_, ?_, ?_, ?_, ?_, ?_, ?_, ?_, ?_, ?_, ?_, ?_, ?_, ?_, ?_⟩ <;> (try simp only [Gh.set, Bool.toNat_true, Bool.toNat_false] at *) <;> first | omega | exact fun _ => trivial
  · exact fun _ vs _ _ x => x
  · intro vs e; cases e
  · exact fun j _ => ⟨rfl, rfl⟩
  · exact id
  · intro k' hk' e
    obtain rfl : k' = k := by omega
    have r := h.live k' hk' hz
    rw [ht] at r
    exact r
  · intro j; rw [upd_ne _ _ (by  omega)]; exact h.had j
  · rw [eA]; unfold Gh.A; simp only [Gh.set] at *; omega
theorem Abs.wdis (h : Abs C σ sz) (hk : k < C.E.n) (hz : C.E.j0 + k < sz)  (ht : σ.tag (C.E.j0 + k) = .wdis) : Abs C (σ.set (C.E.j0 + k) .wadd) sz ∧ (σ.set (C.E.j0 + k) .wadd : Gh).A C sz < σ.A C sz := by
  have q := sums_set σ ht .wadd hz C.E C.nn
  have p := sums_le σ ht hz C.E
  have n := h.nums
  have hj := h.j0
  have eA : (σ.set (C.E.j0 + k) .wadd : Gh).A C sz = (σ.set (C.E.j0 + k) .wadd).sum sz (Tag.rank C.E C.nn) + (σ.set (C.E.j0 + k) .wadd : Gh).cr := rfl
  simp only [Tag.cnt, Tag.sem, Tag.l1, Tag.l2, Tag.l3, Tag.past, Tag.pre, Tag.tt, Tag.cc, Tag.co, Tag.cd, Tag.cq, Tag.cs, Tag.op, Tag.rest, Tag.room, Tag.rank, List.length_cons, List.length_nil, Bool.toNat_true, Bool.toNat_false] at q p
  unfold Nums at n
  have i1 : (if C.iw < sz then 1 else 0) ≤ 1 := by split <;> omega
  have i2 : (if C.ic < sz then 1 else 0) ≤ 1 := by split <;> omega
  have e0 : room C.nn (upd σ.tag (C.E.j0 + k) .wadd 0) = room C.nn (σ.tag 0) := by rw [upd_ne _ _ (by  omega)]
  refine ⟨h.go hz rfl ?_ ?_ ?_ ?_ ?_ ?_ ?_ ?_, ?_⟩
  · unfold Role
    rw [if_neg (by omega), if_neg (by omega), if_neg (by omega), if_pos (by unfold Cx.iw; omega)]
    rfl
  · unfold Nums
    clear eA
    try simp only [Bool.toNat_true, Bool.toNat_false] at *
    refine ⟨?_, ?_, ?_, ?_, ?_, ?_, ?_, ?_, ?_, ?_, ?_, ?_, ?_, ?_, ?_, ?_, ?_, ?_⟩ <;> (try simp only [Gh.set, Bool.toNat_true, Bool.toNat_false] at *) <;> first | omega | exact fun _ => trivial
  · exact fun _ vs _ _ x => x
  · intro vs e; cases e
  · exact fun j _ => ⟨rfl, rfl⟩
  · exact id
  · intro k' hk' e
    obtain rfl : k' = k := by omega
    have r := h.live k' hk' hz
    rw [ht] at r
    exact r
  · intro j; rw [upd_ne _ _ (by  omega)]; exact h.had j
  · rw [eA]; unfold Gh.A; simp only [Gh.set] at *; omega
theorem Abs.wlast (h : Abs C σ sz) (hk : k < C.E.n) (hz : C.E.j0 + k < sz) (hv : σ.v = 1) (hw : σ.wt = 1) (ht : σ.tag (C.E.j0 + k) = .wadd) : Abs C ({ σ.set (C.E.j0 + k) .last1 with v := 0, cr := 2 }) sz ∧ ({ σ.set (C.E.j0 + k) .last1 with v := 0, cr := 2 } : Gh).A C sz < σ.A C sz := by
  have q := sums_set σ ht .last1 hz C.E C.nn
  have p := sums_le σ ht hz C.E
  have n := h.nums
  have hj := h.j0
  have eA : ({ σ.set (C.E.j0 + k) .last1 with v := 0, cr := 2 } : Gh).A C sz = (σ.set (C.E.j0 + k) .last1).sum sz (Tag.rank C.E C.nn) + ({ σ.set (C.E.j0 + k) .last1 with v := 0, cr := 2 } : Gh).cr := rfl
  simp only [Tag.cnt, Tag.sem, Tag.l1, Tag.l2, Tag.l3, Tag.past, Tag.pre, Tag.tt, Tag.cc, Tag.co, Tag.cd, Tag.cq, Tag.cs, Tag.op, Tag.rest, Tag.room, Tag.rank, List.length_cons, List.length_nil, Bool.toNat_true, Bool.toNat_false] at q p
  unfold Nums at n
  have i1 : (if C.iw < sz then 1 else 0) ≤ 1 := by split <;> omega
  have i2 : (if C.ic < sz then 1 else 0) ≤ 1 := by split <;> omega
  have e0 : room C.nn (upd σ.tag (C.E.j0 + k) .last1 0) = room C.nn (σ.tag 0) := by rw [upd_ne _ _ (by  omega)]
  refine ⟨h.go hz rfl ?_ ?_ ?_ ?_ ?_ ?_ ?_ ?_, ?_⟩
  · unfold Role
    rw [if_neg (by omega), if_neg (by omega), if_neg (by omega), if_pos (by unfold Cx.iw; omega)]
    rfl
  · unfold Nums
    clear eA
    try simp only [Bool.toNat_true, Bool.toNat_false] at *
    refine ⟨?_, ?_, ?_, ?_, ?_, ?_, ?_, ?_, ?_, ?_, ?_, ?_, ?_, ?_, ?_, ?_, ?_, ?_⟩ <;> (try simp only [Gh.set, Bool.toNat_true, Bool.toNat_false] at *) <;> first | omega | exact fun _ => trivial
  · exact fun _ vs _ _ _ => .inr (Nat.le_refl 2)
  · intro vs e; cases e
  · exact fun j _ => ⟨rfl, rfl⟩
  · exact id
  · intro k' hk' e
    obtain rfl : k' = k := by omega
    have r := h.live k' hk' hz
    rw [ht] at r
    exact r
  · intro j; rw [upd_ne _ _ (by  omega)]; exact h.had j
  · rw [eA]; unfold Gh.A; simp only [Gh.set] at *; omega
theorem Abs.wleave (h : Abs C σ sz) (hk : k < C.E.n) (hz : C.E.j0 + k < sz) {v' : Nat} (hv : σ.v = v' + 1) (hw : ¬ (v' = 0 ∧ σ.wt = 1)) (ht : σ.tag (C.E.j0 + k) = .wadd) : Abs C ({ σ.set (C.E.j0 + k) (.gone 1) with v := v', cr := 2 }) sz ∧ ({ σ.set (C.E.j0 + k) (.gone 1) with v := v', cr := 2 } : Gh).A C sz < σ.A C sz := by
  have q := sums_set σ ht (.gone 1) hz C.E C.nn
  have p := sums_le σ ht hz C.E
  have n := h.nums
  have hj := h.j0
  have eA : ({ σ.set (C.E.j0 + k) (.gone 1) with v := v', cr := 2 } : Gh).A C sz = (σ.set (C.E.j0 + k) (.gone 1)).sum sz (Tag.rank C.E C.nn) + ({ σ.set (C.E.j0 + k) (.gone 1) with v := v', cr := 2 } : Gh).cr := rfl
  simp only [Tag.cnt, Tag.sem, Tag.l1, Tag.l2, Tag.l3, Tag.past, Tag.pre, Tag.tt, Tag.cc, Tag.co, Tag.cd, Tag.cq, Tag.cs, Tag.op, Tag.rest, Tag.room, Tag.rank, List.length_cons, List.length_nil, Bool.toNat_true, Bool.toNat_false] at q p
  unfold Nums at n
  have i1 : (if C.iw < sz then 1 else 0) ≤ 1 := by split <;> omega
  have i2 : (if C.ic < sz then 1 else 0) ≤ 1 := by split <;> omega
  have e0 : room C.nn (upd σ.tag (C.E.j0 + k) (.gone 1) 0) = room C.nn (σ.tag 0) := by rw [upd_ne _ _ (by  omega)]
  refine ⟨h.go hz rfl ?_ ?_ ?_ ?_ ?_ ?_ ?_ ?_, ?_⟩
  · unfold Role
    rw [if_neg (by omega), if_neg (by omega), if_neg (by omega), if_pos (by unfold Cx.iw; omega)]
    rfl
  · unfold Nums
    clear eA
    try simp only [Bool.toNat_true, Bool.toNat_false] at *
    refine ⟨?_, ?_, ?_, ?_, ?_, ?_, ?_, ?_, ?_, ?_, ?_, ?_, ?_, ?_, ?_, ?_, ?_, ?_⟩ <;> (try simp only [Gh.set, Bool.toNat_true, Bool.toNat_false] at *) <;> first | omega | exact fun _ => trivial
  · exact fun _ vs _ _ _ => .inr (Nat.le_refl 2)
  · intro vs e; cases e
  · exact fun j _ => ⟨rfl, rfl⟩
  · exact id
  · intro k' hk' e
    obtain rfl : k' = k := by omega
    have r := h.live k' hk' hz
    rw [ht] at r
    exact r
  · intro j; rw [upd_ne _ _ (by  omega)]; exact h.had j
  · rw [eA]; unfold Gh.A; simp only [Gh.set] at *; omega
theorem Abs.wlast1 (h : Abs C σ sz) (hk : k < C.E.n) (hz : C.E.j0 + k < sz)  (ht : σ.tag (C.E.j0 + k) = .last1) : Abs C (σ.set (C.E.j0 + k) .last2) sz ∧ (σ.set (C.E.j0 + k) .last2 : Gh).A C sz < σ.A C sz := by
  have q := sums_set σ ht .last2 hz C.E C.nn
  have p := sums_le σ ht hz C.E
  have n := h.nums
  have hj := h.j0
  have eA : (σ.set (C.E.j0 + k) .last2 : Gh).A C sz = (σ.set (C.E.j0 + k) .last2).sum sz (Tag.rank C.E C.nn) + (σ.set (C.E.j0 + k) .last2 : Gh).cr := rfl
  simp only [Tag.cnt, Tag.sem, Tag.l1, Tag.l2, Tag.l3, Tag.past, Tag.pre, Tag.tt, Tag.cc, Tag.co, Tag.cd, Tag.cq, Tag.cs, Tag.op, Tag.rest, Tag.room, Tag.rank, List.length_cons, List.length_nil, Bool.toNat_true, Bool.toNat_false] at q p
  unfold Nums at n
  have i1 : (if C.iw < sz then 1 else 0) ≤ 1 := by split <;> omega
  have i2 : (if C.ic < sz then 1 else 0) ≤ 1 := by split <;> omega
  have e0 : room C.nn (upd σ.tag (C.E.j0 + k) .last2 0) = room C.nn (σ.tag 0) := by rw [upd_ne _ _ (by  omega)]
  refine ⟨h.go hz rfl ?_ ?_ ?_ ?_ ?_ ?_ ?_ ?_, ?_⟩
  · unfold Role
    rw [if_neg (by omega), if_neg (by omega), if_neg (by omega), if_pos (by unfold Cx.iw; omega)]
    rfl
  · unfold Nums
    clear eA
    try simp only [Bool.toNat_true, Bool.toNat_false] at *
    refine ⟨?_, ?_, ?_, ?_, ?_, ?_, ?_, ?_, ?_, ?_, ?_, ?_, ?_, ?_, ?_, ?_, ?_, ?_⟩ <;> (try simp only [Gh.set, Bool.toNat_true, Bool.toNat_false] at *) <;> first | omega | exact fun _ => trivial
  · exact fun _ vs _ _ x => x
  · intro vs e; cases e
  · exact fun j _ => ⟨rfl, rfl⟩
  · exact id
  · intro k' hk' e
    obtain rfl : k' = k := by omega
    have r := h.live k' hk' hz
    rw [ht] at r
    exact r
  · intro j; rw [upd_ne _ _ (by  omega)]; exact h.had j
  · rw [eA]; unfold Gh.A; simp only [Gh.set] at *; omega
theorem Abs.wlast2 (h : Abs C σ sz) (hk : k < C.E.n) (hz : C.E.j0 + k < sz)  (ht : σ.tag (C.E.j0 + k) = .last2) : Abs C ({ σ.set (C.E.j0 + k) .last3 with wt := 0 }) sz ∧ ({ σ.set (C.E.j0 + k) .last3 with wt := 0 } : Gh).A C sz < σ.A C sz := by
  have q := sums_set σ ht .last3 hz C.E C.nn
  have p := sums_le σ ht hz C.E
  have n := h.nums
  have hj := h.j0
  have eA : ({ σ.set (C.E.j0 + k) .last3 with wt := 0 } : Gh).A C sz = (σ.set (C.E.j0 + k) .last3).sum sz (Tag.rank C.E C.nn) + ({ σ.set (C.E.j0 + k) .last3 with wt := 0 } : Gh).cr := rfl
  simp only [Tag.cnt, Tag.sem, Tag.l1, Tag.l2, Tag.l3, Tag.past, Tag.pre, Tag.tt, Tag.cc, Tag.co, Tag.cd, Tag.cq, Tag.cs, Tag.op, Tag.rest, Tag.room, Tag.rank, List.length_cons, List.length_nil, Bool.toNat_true, Bool.toNat_false] at q p
  unfold Nums at n
  have i1 : (if C.iw < sz then 1 else 0) ≤ 1 := by split <;> omega
  have i2 : (if C.ic < sz then 1 else 0) ≤ 1 := by split <;> omega
  have e0 : room C.nn (upd σ.tag (C.E.j0 + k) .last3 0) = room C.nn (σ.tag 0) := by rw [upd_ne _ _ (by  omega)]
  refine ⟨h.go hz rfl ?_ ?_ ?_ ?_ ?_ ?_ ?_ ?_, ?_⟩
  · unfold Role
    rw [if_neg (by omega), if_neg (by omega), if_neg (by omega), if_pos (by unfold Cx.iw; omega)]
    rfl
  · unfold Nums
    clear eA
    try simp only [Bool.toNat_true, Bool.toNat_false] at *
    refine ⟨?_, ?_, ?_, ?_, ?_, ?_, ?_, ?_, ?_, ?_, ?_, ?_, ?_, ?_, ?_, ?_, ?_, ?_⟩ <;> (try simp only [Gh.set, Bool.toNat_true, Bool.toNat_false] at *) <;> first | omega | exact fun _ => trivial
  · exact fun _ vs _ _ x => x
  · intro vs e; cases e
  · exact fun j _ => ⟨rfl, rfl⟩
  · exact id
  · intro k' hk' e
    obtain rfl : k' = k := by omega
    have r := h.live k' hk' hz
    rw [ht] at r
    exact r
  · intro j; rw [upd_ne _ _ (by  omega)]; exact h.had j
  · rw [eA]; unfold Gh.A; simp only [Gh.set] at *; omega
theorem Abs.wlast3 (h : Abs C σ sz) (hk : k < C.E.n) (hz : C.E.j0 + k < sz)  (ht : σ.tag (C.E.j0 + k) = .last3) : Abs C ({ σ.set (C.E.j0 + k) (.gone 1) with sm := 1 }) sz ∧ ({ σ.set (C.E.j0 + k) (.gone 1) with sm := 1 } : Gh).A C sz < σ.A C sz := by
  have q := sums_set σ ht (.gone 1) hz C.E C.nn
  have p := sums_le σ ht hz C.E
  have n := h.nums
  have hj := h.j0
  have eA : ({ σ.set (C.E.j0 + k) (.gone 1) with sm := 1 } : Gh).A C sz = (σ.set (C.E.j0 + k) (.gone 1)).sum sz (Tag.rank C.E C.nn) + ({ σ.set (C.E.j0 + k) (.gone 1) with sm := 1 } : Gh).cr := rfl
  simp only [Tag.cnt, Tag.sem, Tag.l1, Tag.l2, Tag.l3, Tag.past, Tag.pre, Tag.tt, Tag.cc, Tag.co, Tag.cd, Tag.cq, Tag.cs, Tag.op, Tag.rest, Tag.room, Tag.rank, List.length_cons, List.length_nil, Bool.toNat_true, Bool.toNat_false] at q p
  unfold Nums at n
  have i1 : (if C.iw < sz then 1 else 0) ≤ 1 := by split <;> omega
  have i2 : (if C.ic < sz then 1 else 0) ≤ 1 := by split <;> omega
  have e0 : room C.nn (upd σ.tag (C.E.j0 + k) (.gone 1) 0) = room C.nn (σ.tag 0) := by rw [upd_ne _ _ (by  omega)]
  refine ⟨h.go hz rfl ?_ ?_ ?_ ?_ ?_ ?_ ?_ ?_, ?_⟩
  · unfold Role
    rw [if_neg (by omega), if_neg (by omega), if_neg (by omega), if_pos (by unfold Cx.iw; omega)]
    rfl
  · unfold Nums
    clear eA
    try simp only [Bool.toNat_true, Bool.toNat_false] at *
    refine ⟨?_, ?_, ?_, ?_, ?_, ?_, ?_, ?_, ?_, ?_, ?_, ?_, ?_, ?_, ?_, ?_, ?_, ?_⟩ <;> (try simp only [Gh.set, Bool.toNat_true, Bool.toNat_false] at *) <;> first | omega | exact fun _ => trivial
  · exact fun _ vs _ _ x => x
  · intro vs e; cases e
  · exact fun j _ => ⟨rfl, rfl⟩
  · exact id
  · intro k' hk' e
    obtain rfl : k' = k := by omega
    have r := h.live k' hk' hz
    rw [ht] at r
    exact r
  · intro j; rw [upd_ne _ _ (by  omega)]; exact h.had j
  · rw [eA]; unfold Gh.A; simp only [Gh.set] at *; omega
theorem Abs.tdis (h : Abs C σ sz) (hz : C.iw < sz)  (ht : σ.tag C.iw = .tdis) : Abs C (σ.set C.iw .tload) sz ∧ (σ.set C.iw .tload : Gh).A C sz < σ.A C sz := by
  have q := sums_set σ ht .tload hz C.E C.nn
  have p := sums_le σ ht hz C.E
  have n := h.nums
  have hj := h.j0
  have eA : (σ.set C.iw .tload : Gh).A C sz = (σ.set C.iw .tload).sum sz (Tag.rank C.E C.nn) + (σ.set C.iw .tload : Gh).cr := rfl
  simp only [Tag.cnt, Tag.sem, Tag.l1, Tag.l2, Tag.l3, Tag.past, Tag.pre, Tag.tt, Tag.cc, Tag.co, Tag.cd, Tag.cq, Tag.cs, Tag.op, Tag.rest, Tag.room, Tag.rank, List.length_cons, List.length_nil, Bool.toNat_true, Bool.toNat_false] at q p
  unfold Nums at n
  have i1 : (if C.iw < sz then 1 else 0) ≤ 1 := by split <;> omega
  have i2 : (if C.ic < sz then 1 else 0) ≤ 1 := by split <;> omega
  have e0 : room C.nn (upd σ.tag C.iw .tload 0) = room C.nn (σ.tag 0) := by rw [upd_ne _ _ (by unfold Cx.iw; omega)]
  refine ⟨h.go hz rfl ?_ ?_ ?_ ?_ ?_ ?_ ?_ ?_, ?_⟩
  · unfold Role
    rw [if_neg (by unfold Cx.iw; omega), if_neg (by unfold Cx.iw; omega), if_neg (by omega), if_neg (by omega), if_pos rfl]
    rfl
  · unfold Nums
    clear eA
    try simp only [Bool.toNat_true, Bool.toNat_false] at *
    refine ⟨?_, ?_, ?_, ?_, ?_, ?_, ?_, ?_, ?_, ?_, ?_, ?_, ?_, ?_, ?_, ?_, ?_, ?_⟩ <;> (try simp only [Gh.set, Bool.toNat_true, Bool.toNat_false] at *) <;> first | omega | exact fun _ => trivial
  · exact fun _ vs _ _ x => x
  · intro vs e; cases e
  · exact fun j _ => ⟨rfl, rfl⟩
  · exact id
  · intro k hk e; exfalso; unfold Cx.iw at *; omega
  · intro j; rw [upd_ne _ _ (by unfold Cx.iw; omega)]; exact h.had j
  · rw [eA]; unfold Gh.A; simp only [Gh.set] at *; omega
theorem Abs.tzero (h : Abs C σ sz) (hz : C.iw < sz) (hv : σ.v = 0) (ht : σ.tag C.iw = .tload) : Abs C (σ.set C.iw .tena) sz ∧ (σ.set C.iw .tena : Gh).A C sz < σ.A C sz := by
  have q := sums_set σ ht .tena hz C.E C.nn
  have p := sums_le σ ht hz C.E
  have n := h.nums
  have hj := h.j0
  have eA : (σ.set C.iw .tena : Gh).A C sz = (σ.set C.iw .tena).sum sz (Tag.rank C.E C.nn) + (σ.set C.iw .tena : Gh).cr := rfl
  simp only [Tag.cnt, Tag.sem, Tag.l1, Tag.l2, Tag.l3, Tag.past, Tag.pre, Tag.tt, Tag.cc, Tag.co, Tag.cd, Tag.cq, Tag.cs, Tag.op, Tag.rest, Tag.room, Tag.rank, List.length_cons, List.length_nil, Bool.toNat_true, Bool.toNat_false] at q p
  unfold Nums at n
  have i1 : (if C.iw < sz then 1 else 0) ≤ 1 := by split <;> omega
  have i2 : (if C.ic < sz then 1 else 0) ≤ 1 := by split <;> omega
  have e0 : room C.nn (upd σ.tag C.iw .tena 0) = room C.nn (σ.tag 0) := by rw [upd_ne _ _ (by unfold Cx.iw; omega)]
  refine ⟨h.go hz rfl ?_ ?_ ?_ ?_ ?_ ?_ ?_ ?_, ?_⟩
  · unfold Role
    rw [if_neg (by unfold Cx.iw; omega), if_neg (by unfold Cx.iw; omega), if_neg (by omega), if_neg (by omega), if_pos rfl]
    rfl
  · unfold Nums
    clear eA
    try simp only [Bool.toNat_true, Bool.toNat_false] at *
    refine ⟨?_, ?_, ?_, ?_, ?_, ?_, ?_, ?_, ?_, ?_, ?_, ?_, ?_, ?_, ?_, ?_, ?_, ?_⟩ <;> (try simp only [Gh.set, Bool.toNat_true, Bool.toNat_false] at *) <;> first | omega | exact fun _ => trivial
  · exact fun _ vs _ _ x => x
  · intro vs e; cases e
  · exact fun j _ => ⟨rfl, rfl⟩
  · exact id
  · intro k hk e; exfalso; unfold Cx.iw at *; omega
  · intro j; rw [upd_ne _ _ (by unfold Cx.iw; omega)]; exact h.had j
  · rw [eA]; unfold Gh.A; simp only [Gh.set] at *; omega
theorem Abs.tnon (h : Abs C σ sz) (hz : C.iw < sz) (hv : σ.v ≠ 0) (ht : σ.tag C.iw = .tload) : Abs C (σ.set C.iw (.tcas σ.v)) sz ∧ (σ.set C.iw (.tcas σ.v) : Gh).A C sz < σ.A C sz := by
  have q := sums_set σ ht (.tcas σ.v) hz C.E C.nn
  have p := sums_le σ ht hz C.E
  have n := h.nums
  have hj := h.j0
  have eA : (σ.set C.iw (.tcas σ.v) : Gh).A C sz = (σ.set C.iw (.tcas σ.v)).sum sz (Tag.rank C.E C.nn) + (σ.set C.iw (.tcas σ.v) : Gh).cr := rfl
  simp only [Tag.cnt, Tag.sem, Tag.l1, Tag.l2, Tag.l3, Tag.past, Tag.pre, Tag.tt, Tag.cc, Tag.co, Tag.cd, Tag.cq, Tag.cs, Tag.op, Tag.rest, Tag.room, Tag.rank, List.length_cons, List.length_nil, Bool.toNat_true, Bool.toNat_false] at q p
  unfold Nums at n
  have i1 : (if C.iw < sz then 1 else 0) ≤ 1 := by split <;> omega
  have i2 : (if C.ic < sz then 1 else 0) ≤ 1 := by split <;> omega
  have e0 : room C.nn (upd σ.tag C.iw (.tcas σ.v) 0) = room C.nn (σ.tag 0) := by rw [upd_ne _ _ (by unfold Cx.iw; omega)]
  refine ⟨h.go hz rfl ?_ ?_ ?_ ?_ ?_ ?_ ?_ ?_, ?_⟩
  · unfold Role
    rw [if_neg (by unfold Cx.iw; omega), if_neg (by unfold Cx.iw; omega), if_neg (by omega), if_neg (by omega), if_pos rfl]
    rfl
  · unfold Nums
    clear eA
    try simp only [Bool.toNat_true, Bool.toNat_false] at *
    refine ⟨?_, ?_, ?_, ?_, ?_, ?_, ?_, ?_, ?_, ?_, ?_, ?_, ?_, ?_, ?_, ?_, ?_, ?_⟩ <;> (try simp only [Gh.set, Bool.toNat_true, Bool.toNat_false] at *) <;> first | omega | exact fun _ => trivial
  · exact fun _ vs _ _ x => x
  · intro vs e; cases e; exact ⟨by omega, .inl rfl⟩
  · exact fun j _ => ⟨rfl, rfl⟩
  · exact id
  · intro k hk e; exfalso; unfold Cx.iw at *; omega
  · intro j; rw [upd_ne _ _ (by unfold Cx.iw; omega)]; exact h.had j
  · rw [eA]; unfold Gh.A; simp only [Gh.set] at *; omega
theorem Abs.thit (h : Abs C σ sz) (hz : C.iw < sz) {vs : Nat} (hv : vs = σ.v) (ht : σ.tag C.iw = .tcas vs) : Abs C ({ σ.set C.iw .tsem with wt := 1 }) sz ∧ ({ σ.set C.iw .tsem with wt := 1 } : Gh).A C sz < σ.A C sz := by
  have q := sums_set σ ht .tsem hz C.E C.nn
  have p := sums_le σ ht hz C.E
  have n := h.nums
  have hj := h.j0
  have eA : ({ σ.set C.iw .tsem with wt := 1 } : Gh).A C sz = (σ.set C.iw .tsem).sum sz (Tag.rank C.E C.nn) + ({ σ.set C.iw .tsem with wt := 1 } : Gh).cr := rfl
  simp only [Tag.cnt, Tag.sem, Tag.l1, Tag.l2, Tag.l3, Tag.past, Tag.pre, Tag.tt, Tag.cc, Tag.co, Tag.cd, Tag.cq, Tag.cs, Tag.op, Tag.rest, Tag.room, Tag.rank, List.length_cons, List.length_nil, Bool.toNat_true, Bool.toNat_false] at q p
  unfold Nums at n
  have i1 : (if C.iw < sz then 1 else 0) ≤ 1 := by split <;> omega
  have i2 : (if C.ic < sz then 1 else 0) ≤ 1 := by split <;> omega
  have e0 : room C.nn (upd σ.tag C.iw .tsem 0) = room C.nn (σ.tag 0) := by rw [upd_ne _ _ (by unfold Cx.iw; omega)]
  have hc := h.cas _ _ ht
  refine ⟨h.go hz rfl ?_ ?_ ?_ ?_ ?_ ?_ ?_ ?_, ?_⟩
  · unfold Role
    rw [if_neg (by unfold Cx.iw; omega), if_neg (by unfold Cx.iw; omega), if_neg (by omega), if_neg (by omega), if_pos rfl]
    rfl
  · unfold Nums
    clear eA
    try simp only [Bool.toNat_true, Bool.toNat_false] at *
    refine ⟨?_, ?_, ?_, ?_, ?_, ?_, ?_, ?_, ?_, ?_, ?_, ?_, ?_, ?_, ?_, ?_, ?_, ?_⟩ <;> (try simp only [Gh.set, Bool.toNat_true, Bool.toNat_false] at *) <;> first | omega | exact fun _ => trivial
  · exact fun _ vs _ _ x => x
  · intro vs e; cases e
  · exact fun j _ => ⟨rfl, rfl⟩
  · exact id
  · intro k hk e; exfalso; unfold Cx.iw at *; omega
  · intro j; rw [upd_ne _ _ (by unfold Cx.iw; omega)]; exact h.had j
  · rw [eA]; unfold Gh.A; simp only [Gh.set] at *; omega
theorem Abs.tmiss (h : Abs C σ sz) (hz : C.iw < sz) {vs : Nat} (hv : vs ≠ σ.v) (ht : σ.tag C.iw = .tcas vs) : Abs C ({ σ.set C.iw .tload with cr := σ.cr - 2 }) sz ∧ ({ σ.set C.iw .tload with cr := σ.cr - 2 } : Gh).A C sz < σ.A C sz := by
  have q := sums_set σ ht .tload hz C.E C.nn
  have p := sums_le σ ht hz C.E
  have n := h.nums
  have hj := h.j0
  have eA : ({ σ.set C.iw .tload with cr := σ.cr - 2 } : Gh).A C sz = (σ.set C.iw .tload).sum sz (Tag.rank C.E C.nn) + ({ σ.set C.iw .tload with cr := σ.cr - 2 } : Gh).cr := rfl
  simp only [Tag.cnt, Tag.sem, Tag.l1, Tag.l2, Tag.l3, Tag.past, Tag.pre, Tag.tt, Tag.cc, Tag.co, Tag.cd, Tag.cq, Tag.cs, Tag.op, Tag.rest, Tag.room, Tag.rank, List.length_cons, List.length_nil, Bool.toNat_true, Bool.toNat_false] at q p
  unfold Nums at n
  have i1 : (if C.iw < sz then 1 else 0) ≤ 1 := by split <;> omega
  have i2 : (if C.ic < sz then 1 else 0) ≤ 1 := by split <;> omega
  have e0 : room C.nn (upd σ.tag C.iw .tload 0) = room C.nn (σ.tag 0) := by rw [upd_ne _ _ (by unfold Cx.iw; omega)]
  have hc := h.cas _ _ ht
  refine ⟨h.go hz rfl ?_ ?_ ?_ ?_ ?_ ?_ ?_ ?_, ?_⟩
  · unfold Role
    rw [if_neg (by unfold Cx.iw; omega), if_neg (by unfold Cx.iw; omega), if_neg (by omega), if_neg (by omega), if_pos rfl]
    rfl
  · unfold Nums
    clear eA
    try simp only [Bool.toNat_true, Bool.toNat_false] at *
    refine ⟨?_, ?_, ?_, ?_, ?_, ?_, ?_, ?_, ?_, ?_, ?_, ?_, ?_, ?_, ?_, ?_, ?_, ?_⟩ <;> (try simp only [Gh.set, Bool.toNat_true, Bool.toNat_false] at *) <;> first | omega | exact fun _ => trivial
  · exact fun j vs hj hq _ => absurd (h.cas_at hq).1 hj
  · intro vs e; cases e
  · exact fun j _ => ⟨rfl, rfl⟩
  · exact id
  · intro k hk e; exfalso; unfold Cx.iw at *; omega
  · intro j; rw [upd_ne _ _ (by unfold Cx.iw; omega)]; exact h.had j
  · rw [eA]; unfold Gh.A; simp only [Gh.set] at *; omega
theorem Abs.tsem (h : Abs C σ sz) (hz : C.iw < sz) (hm : σ.sm = 1) (ht : σ.tag C.iw = .tsem) : Abs C ({ σ.set C.iw .tload2 with sm := 0 }) sz ∧ ({ σ.set C.iw .tload2 with sm := 0 } : Gh).A C sz < σ.A C sz := by
  have q := sums_set σ ht .tload2 hz C.E C.nn
  have p := sums_le σ ht hz C.E
  have n := h.nums
  have hj := h.j0
  have eA : ({ σ.set C.iw .tload2 with sm := 0 } : Gh).A C sz = (σ.set C.iw .tload2).sum sz (Tag.rank C.E C.nn) + ({ σ.set C.iw .tload2 with sm := 0 } : Gh).cr := rfl
  simp only [Tag.cnt, Tag.sem, Tag.l1, Tag.l2, Tag.l3, Tag.past, Tag.pre, Tag.tt, Tag.cc, Tag.co, Tag.cd, Tag.cq, Tag.cs, Tag.op, Tag.rest, Tag.room, Tag.rank, List.length_cons, List.length_nil, Bool.toNat_true, Bool.toNat_false] at q p
  unfold Nums at n
  have i1 : (if C.iw < sz then 1 else 0) ≤ 1 := by split <;> omega
  have i2 : (if C.ic < sz then 1 else 0) ≤ 1 := by split <;> omega
  have e0 : room C.nn (upd σ.tag C.iw .tload2 0) = room C.nn (σ.tag 0) := by rw [upd_ne _ _ (by unfold Cx.iw; omega)]
  refine ⟨h.go hz rfl ?_ ?_ ?_ ?_ ?_ ?_ ?_ ?_, ?_⟩
  · unfold Role
    rw [if_neg (by unfold Cx.iw; omega), if_neg (by unfold Cx.iw; omega), if_neg (by omega), if_neg (by omega), if_pos rfl]
    rfl
  · unfold Nums
    clear eA
    try simp only [Bool.toNat_true, Bool.toNat_false] at *
    refine ⟨?_, ?_, ?_, ?_, ?_, ?_, ?_, ?_, ?_, ?_, ?_, ?_, ?_, ?_, ?_, ?_, ?_, ?_⟩ <;> (try simp only [Gh.set, Bool.toNat_true, Bool.toNat_false] at *) <;> first | omega | exact fun _ => trivial
  · exact fun _ vs _ _ x => x
  · intro vs e; cases e
  · exact fun j _ => ⟨rfl, rfl⟩
  · exact id
  · intro k hk e; exfalso; unfold Cx.iw at *; omega
  · intro j; rw [upd_ne _ _ (by unfold Cx.iw; omega)]; exact h.had j
  · rw [eA]; unfold Gh.A; simp only [Gh.set] at *; omega
theorem Abs.tload2 (h : Abs C σ sz) (hz : C.iw < sz)  (ht : σ.tag C.iw = .tload2) : Abs C (σ.set C.iw .tena) sz ∧ (σ.set C.iw .tena : Gh).A C sz < σ.A C sz := by
  have q := sums_set σ ht .tena hz C.E C.nn
  have p := sums_le σ ht hz C.E
  have n := h.nums
  have hj := h.j0
  have eA : (σ.set C.iw .tena : Gh).A C sz = (σ.set C.iw .tena).sum sz (Tag.rank C.E C.nn) + (σ.set C.iw .tena : Gh).cr := rfl
  simp only [Tag.cnt, Tag.sem, Tag.l1, Tag.l2, Tag.l3, Tag.past, Tag.pre, Tag.tt, Tag.cc, Tag.co, Tag.cd, Tag.cq, Tag.cs, Tag.op, Tag.rest, Tag.room, Tag.rank, List.length_cons, List.length_nil, Bool.toNat_true, Bool.toNat_false] at q p
  unfold Nums at n
  have i1 : (if C.iw < sz then 1 else 0) ≤ 1 := by split <;> omega
  have i2 : (if C.ic < sz then 1 else 0) ≤ 1 := by split <;> omega
  have e0 : room C.nn (upd σ.tag C.iw .tena 0) = room C.nn (σ.tag 0) := by rw [upd_ne _ _ (by unfold Cx.iw; omega)]
  refine ⟨h.go hz rfl ?_ ?_ ?_ ?_ ?_ ?_ ?_ ?_, ?_⟩
  · unfold Role
    rw [if_neg (by unfold Cx.iw; omega), if_neg (by unfold Cx.iw; omega), if_neg (by omega), if_neg (by omega), if_pos rfl]
    rfl
  · unfold Nums
    clear eA
    try simp only [Bool.toNat_true, Bool.toNat_false] at *
    refine ⟨?_, ?_, ?_, ?_, ?_, ?_, ?_, ?_, ?_, ?_, ?_, ?_, ?_, ?_, ?_, ?_, ?_, ?_⟩ <;> (try simp only [Gh.set, Bool.toNat_true, Bool.toNat_false] at *) <;> first | omega | exact fun _ => trivial
  · exact fun _ vs _ _ x => x
  · intro vs e; cases e
  · exact fun j _ => ⟨rfl, rfl⟩
  · exact id
  · intro k hk e; exfalso; unfold Cx.iw at *; omega
  · intro j; rw [upd_ne _ _ (by unfold Cx.iw; omega)]; exact h.had j
  · rw [eA]; unfold Gh.A; simp only [Gh.set] at *; omega
theorem Abs.tena (h : Abs C σ sz) (hz : C.iw < sz)  (ht : σ.tag C.iw = .tena) : Abs C (σ.set C.iw .tacq) sz ∧ (σ.set C.iw .tacq : Gh).A C sz < σ.A C sz := by
  have q := sums_set σ ht .tacq hz C.E C.nn
  have p := sums_le σ ht hz C.E
  have n := h.nums
  have hj := h.j0
  have eA : (σ.set C.iw .tacq : Gh).A C sz = (σ.set C.iw .tacq).sum sz (Tag.rank C.E C.nn) + (σ.set C.iw .tacq : Gh).cr := rfl
  simp only [Tag.cnt, Tag.sem, Tag.l1, Tag.l2, Tag.l3, Tag.past, Tag.pre, Tag.tt, Tag.cc, Tag.co, Tag.cd, Tag.cq, Tag.cs, Tag.op, Tag.rest, Tag.room, Tag.rank, List.length_cons, List.length_nil, Bool.toNat_true, Bool.toNat_false] at q p
  unfold Nums at n
  have i1 : (if C.iw < sz then 1 else 0) ≤ 1 := by split <;> omega
  have i2 : (if C.ic < sz then 1 else 0) ≤ 1 := by split <;> omega
  have e0 : room C.nn (upd σ.tag C.iw .tacq 0) = room C.nn (σ.tag 0) := by rw [upd_ne _ _ (by unfold Cx.iw; omega)]
  refine ⟨h.go hz rfl ?_ ?_ ?_ ?_ ?_ ?_ ?_ ?_, ?_⟩
  · unfold Role
    rw [if_neg (by unfold Cx.iw; omega), if_neg (by unfold Cx.iw; omega), if_neg (by omega), if_neg (by omega), if_pos rfl]
    rfl
  · unfold Nums
    clear eA
    try simp only [Bool.toNat_true, Bool.toNat_false] at *
    refine ⟨?_, ?_, ?_, ?_, ?_, ?_, ?_, ?_, ?_, ?_, ?_, ?_, ?_, ?_, ?_, ?_, ?_, ?_⟩ <;> (try simp only [Gh.set, Bool.toNat_true, Bool.toNat_false] at *) <;> first | omega | exact fun _ => trivial
  · exact fun _ vs _ _ x => x
  · intro vs e; cases e
  · exact fun j _ => ⟨rfl, rfl⟩
  · exact id
  · intro k hk e; exfalso; unfold Cx.iw at *; omega
  · intro j; rw [upd_ne _ _ (by unfold Cx.iw; omega)]; exact h.had j
  · rw [eA]; unfold Gh.A; simp only [Gh.set] at *; omega
theorem Abs.tacq (h : Abs C σ sz) (hz : C.iw < sz)  (ht : σ.tag C.iw = .tacq) : Abs C (σ.set C.iw .tshut) sz ∧ (σ.set C.iw .tshut : Gh).A C sz < σ.A C sz := by
  have q := sums_set σ ht .tshut hz C.E C.nn
  have p := sums_le σ ht hz C.E
  have n := h.nums
  have hj := h.j0
  have eA : (σ.set C.iw .tshut : Gh).A C sz = (σ.set C.iw .tshut).sum sz (Tag.rank C.E C.nn) + (σ.set C.iw .tshut : Gh).cr := rfl
  simp only [Tag.cnt, Tag.sem, Tag.l1, Tag.l2, Tag.l3, Tag.past, Tag.pre, Tag.tt, Tag.cc, Tag.co, Tag.cd, Tag.cq, Tag.cs, Tag.op, Tag.rest, Tag.room, Tag.rank, List.length_cons, List.length_nil, Bool.toNat_true, Bool.toNat_false] at q p
  unfold Nums at n
  have i1 : (if C.iw < sz then 1 else 0) ≤ 1 := by split <;> omega
  have i2 : (if C.ic < sz then 1 else 0) ≤ 1 := by split <;> omega
  have e0 : room C.nn (upd σ.tag C.iw .tshut 0) = room C.nn (σ.tag 0) := by rw [upd_ne _ _ (by unfold Cx.iw; omega)]
  refine ⟨h.go hz rfl ?_ ?_ ?_ ?_ ?_ ?_ ?_ ?_, ?_⟩
  · unfold Role
    rw [if_neg (by unfold Cx.iw; omega), if_neg (by unfold Cx.iw; omega), if_neg (by omega), if_neg (by omega), if_pos rfl]
    rfl
  · unfold Nums
    clear eA
    try simp only [Bool.toNat_true, Bool.toNat_false] at *
    refine ⟨?_, ?_, ?_, ?_, ?_, ?_, ?_, ?_, ?_, ?_, ?_, ?_, ?_, ?_, ?_, ?_, ?_, ?_⟩ <;> (try simp only [Gh.set, Bool.toNat_true, Bool.toNat_false] at *) <;> first | omega | exact fun _ => trivial
  · exact fun _ vs _ _ x => x
  · intro vs e; cases e
  · exact fun j _ => ⟨rfl, rfl⟩
  · exact id
  · intro k hk e; exfalso; unfold Cx.iw at *; omega
  · intro j; rw [upd_ne _ _ (by unfold Cx.iw; omega)]; exact h.had j
  · rw [eA]; unfold Gh.A; simp only [Gh.set] at *; omega
theorem Abs.tshut (h : Abs C σ sz) (hz : C.iw < sz)  (ht : σ.tag C.iw = .tshut) : Abs C ({ σ.set C.iw (.gone 0) with dc := true }) sz ∧ ({ σ.set C.iw (.gone 0) with dc := true } : Gh).A C sz < σ.A C sz := by
  have q := sums_set σ ht (.gone 0) hz C.E C.nn
  have p := sums_le σ ht hz C.E
  have n := h.nums
  have hj := h.j0
  have eA : ({ σ.set C.iw (.gone 0) with dc := true } : Gh).A C sz = (σ.set C.iw (.gone 0)).sum sz (Tag.rank C.E C.nn) + ({ σ.set C.iw (.gone 0) with dc := true } : Gh).cr := rfl
  simp only [Tag.cnt, Tag.sem, Tag.l1, Tag.l2, Tag.l3, Tag.past, Tag.pre, Tag.tt, Tag.cc, Tag.co, Tag.cd, Tag.cq, Tag.cs, Tag.op, Tag.rest, Tag.room, Tag.rank, List.length_cons, List.length_nil, Bool.toNat_true, Bool.toNat_false] at q p
  unfold Nums at n
  have i1 : (if C.iw < sz then 1 else 0) ≤ 1 := by split <;> omega
  have i2 : (if C.ic < sz then 1 else 0) ≤ 1 := by split <;> omega
  have e0 : room C.nn (upd σ.tag C.iw (.gone 0) 0) = room C.nn (σ.tag 0) := by rw [upd_ne _ _ (by unfold Cx.iw; omega)]
  have i0 : (if C.iw < sz then 1 else 0) = 1 := if_pos hz
  refine ⟨h.go hz rfl ?_ ?_ ?_ ?_ ?_ ?_ ?_ ?_, ?_⟩
  · unfold Role
    rw [if_neg (by unfold Cx.iw; omega), if_neg (by unfold Cx.iw; omega), if_neg (by omega), if_neg (by omega), if_pos rfl]
    rfl
  · unfold Nums
    clear eA
    try simp only [Bool.toNat_true, Bool.toNat_false] at *
    refine ⟨?_, ?_, ?_, ?_, ?_, ?_, ?_, ?_, ?_, ?_, ?_, ?_, ?_, ?_, ?_, ?_, ?_, ?_⟩ <;> (try simp only [Gh.set, Bool.toNat_true, Bool.toNat_false] at *) <;> first | omega | exact fun _ => trivial
  · exact fun _ vs _ _ x => x
  · intro vs e; cases e
  · exact fun j _ => ⟨rfl, rfl⟩
  · exact id
  · intro k hk e; exfalso; unfold Cx.iw at *; omega
  · intro j; rw [upd_ne _ _ (by unfold Cx.iw; omega)]; exact h.had j
  · rw [eA]; unfold Gh.A; simp only [Gh.set] at *; omega
theorem Abs.cstop (h : Abs C σ sz) (hz : C.ic < sz) (hs : σ.sc = true) (ht : σ.tag C.ic = .csel) : Abs C (σ.set C.ic .cquit) sz ∧ (σ.set C.ic .cquit : Gh).A C sz < σ.A C sz := by
  have q := sums_set σ ht .cquit hz C.E C.nn
  have p := sums_le σ ht hz C.E
  have n := h.nums
  have hj := h.j0
  have eA : (σ.set C.ic .cquit : Gh).A C sz = (σ.set C.ic .cquit).sum sz (Tag.rank C.E C.nn) + (σ.set C.ic .cquit : Gh).cr := rfl
  simp only [Tag.cnt, Tag.sem, Tag.l1, Tag.l2, Tag.l3, Tag.past, Tag.pre, Tag.tt, Tag.cc, Tag.co, Tag.cd, Tag.cq, Tag.cs, Tag.op, Tag.rest, Tag.room, Tag.rank, List.length_cons, List.length_nil, Bool.toNat_true, Bool.toNat_false] at q p
  unfold Nums at n
  have i1 : (if C.iw < sz then 1 else 0) ≤ 1 := by split <;> omega
  have i2 : (if C.ic < sz then 1 else 0) ≤ 1 := by split <;> omega
  have e0 : room C.nn (upd σ.tag C.ic .cquit 0) = room C.nn (σ.tag 0) := by rw [upd_ne _ _ (by unfold Cx.ic; omega)]
  have i0 : σ.sc.toNat = 1 := by rw [hs]; rfl
  refine ⟨h.go hz rfl ?_ ?_ ?_ ?_ ?_ ?_ ?_ ?_, ?_⟩
  · unfold Role
    rw [if_neg (by unfold Cx.ic; omega), if_neg (by unfold Cx.ic; omega), if_neg (by omega), if_neg (by unfold Cx.ic Cx.iw; omega), if_neg (by unfold Cx.ic Cx.iw; omega)]
    rfl
  · unfold Nums
    clear eA
    try simp only [Bool.toNat_true, Bool.toNat_false] at *
    refine ⟨?_, ?_, ?_, ?_, ?_, ?_, ?_, ?_, ?_, ?_, ?_, ?_, ?_, ?_, ?_, ?_, ?_, ?_⟩ <;> (try simp only [Gh.set, Bool.toNat_true, Bool.toNat_false] at *) <;> first | omega | exact fun _ => trivial
  · exact fun _ vs _ _ x => x
  · intro vs e; cases e
  · exact fun j _ => ⟨rfl, rfl⟩
  · exact id
  · intro k hk e; exfalso; unfold Cx.ic at *; omega
  · intro j; rw [upd_ne _ _ (by unfold Cx.ic; omega)]; exact h.had j
  · rw [eA]; unfold Gh.A; simp only [Gh.set] at *; omega
theorem Abs.cdone1 (h : Abs C σ sz) (hz : C.ic < sz) (hs : σ.dc = true) (ht : σ.tag C.ic = .csel) : Abs C (σ.set C.ic .cout) sz ∧ (σ.set C.ic .cout : Gh).A C sz < σ.A C sz := by
  have q := sums_set σ ht .cout hz C.E C.nn
  have p := sums_le σ ht hz C.E
  have n := h.nums
  have hj := h.j0
  have eA : (σ.set C.ic .cout : Gh).A C sz = (σ.set C.ic .cout).sum sz (Tag.rank C.E C.nn) + (σ.set C.ic .cout : Gh).cr := rfl
  simp only [Tag.cnt, Tag.sem, Tag.l1, Tag.l2, Tag.l3, Tag.past, Tag.pre, Tag.tt, Tag.cc, Tag.co, Tag.cd, Tag.cq, Tag.cs, Tag.op, Tag.rest, Tag.room, Tag.rank, List.length_cons, List.length_nil, Bool.toNat_true, Bool.toNat_false] at q p
  unfold Nums at n
  have i1 : (if C.iw < sz then 1 else 0) ≤ 1 := by split <;> omega
  have i2 : (if C.ic < sz then 1 else 0) ≤ 1 := by split <;> omega
  have e0 : room C.nn (upd σ.tag C.ic .cout 0) = room C.nn (σ.tag 0) := by rw [upd_ne _ _ (by unfold Cx.ic; omega)]
  have i0 : σ.dc.toNat = 1 := by rw [hs]; rfl
  refine ⟨h.go hz rfl ?_ ?_ ?_ ?_ ?_ ?_ ?_ ?_, ?_⟩
  · unfold Role
    rw [if_neg (by unfold Cx.ic; omega), if_neg (by unfold Cx.ic; omega), if_neg (by omega), if_neg (by unfold Cx.ic Cx.iw; omega), if_neg (by unfold Cx.ic Cx.iw; omega)]
    rfl
  · unfold Nums
    clear eA
    try simp only [Bool.toNat_true, Bool.toNat_false] at *
    refine ⟨?_, ?_, ?_, ?_, ?_, ?_, ?_, ?_, ?_, ?_, ?_, ?_, ?_, ?_, ?_, ?_, ?_, ?_⟩ <;> (try simp only [Gh.set, Bool.toNat_true, Bool.toNat_false] at *) <;> first | omega | exact fun _ => trivial
  · exact fun _ vs _ _ x => x
  · intro vs e; cases e
  · exact fun j _ => ⟨rfl, rfl⟩
  · exact id
  · intro k hk e; exfalso; unfold Cx.ic at *; omega
  · intro j; rw [upd_ne _ _ (by unfold Cx.ic; omega)]; exact h.had j
  · rw [eA]; unfold Gh.A; simp only [Gh.set] at *; omega
theorem Abs.cquit (h : Abs C σ sz) (hz : C.ic < sz)  (ht : σ.tag C.ic = .cquit) : Abs C ({ σ.set C.ic .cdone with qc := true }) sz ∧ ({ σ.set C.ic .cdone with qc := true } : Gh).A C sz < σ.A C sz := by
  have q := sums_set σ ht .cdone hz C.E C.nn
  have p := sums_le σ ht hz C.E
  have n := h.nums
  have hj := h.j0
  have eA : ({ σ.set C.ic .cdone with qc := true } : Gh).A C sz = (σ.set C.ic .cdone).sum sz (Tag.rank C.E C.nn) + ({ σ.set C.ic .cdone with qc := true } : Gh).cr := rfl
  simp only [Tag.cnt, Tag.sem, Tag.l1, Tag.l2, Tag.l3, Tag.past, Tag.pre, Tag.tt, Tag.cc, Tag.co, Tag.cd, Tag.cq, Tag.cs, Tag.op, Tag.rest, Tag.room, Tag.rank, List.length_cons, List.length_nil, Bool.toNat_true, Bool.toNat_false] at q p
  unfold Nums at n
  have i1 : (if C.iw < sz then 1 else 0) ≤ 1 := by split <;> omega
  have i2 : (if C.ic < sz then 1 else 0) ≤ 1 := by split <;> omega
  have e0 : room C.nn (upd σ.tag C.ic .cdone 0) = room C.nn (σ.tag 0) := by rw [upd_ne _ _ (by unfold Cx.ic; omega)]
  refine ⟨h.go hz rfl ?_ ?_ ?_ ?_ ?_ ?_ ?_ ?_, ?_⟩
  · unfold Role
    rw [if_neg (by unfold Cx.ic; omega), if_neg (by unfold Cx.ic; omega), if_neg (by omega), if_neg (by unfold Cx.ic Cx.iw; omega), if_neg (by unfold Cx.ic Cx.iw; omega)]
    rfl
  · unfold Nums
    clear eA
    try simp only [Bool.toNat_true, Bool.toNat_false] at *
    refine ⟨?_, ?_, ?_, ?_, ?_, ?_, ?_, ?_, ?_, ?_, ?_, ?_, ?_, ?_, ?_, ?_, ?_, ?_⟩ <;> (try simp only [Gh.set, Bool.toNat_true, Bool.toNat_false] at *) <;> first | omega | exact fun _ => trivial
  · exact fun _ vs _ _ x => x
  · intro vs e; cases e
  · exact fun j _ => ⟨rfl, rfl⟩
  · exact fun _ => rfl
  · intro k hk e; exfalso; unfold Cx.ic at *; omega
  · intro j; rw [upd_ne _ _ (by unfold Cx.ic; omega)]; exact h.had j
  · rw [eA]; unfold Gh.A; simp only [Gh.set] at *; omega
theorem Abs.cdone2 (h : Abs C σ sz) (hz : C.ic < sz) (hs : σ.dc = true) (ht : σ.tag C.ic = .cdone) : Abs C (σ.set C.ic .cout) sz ∧ (σ.set C.ic .cout : Gh).A C sz < σ.A C sz := by
  have q := sums_set σ ht .cout hz C.E C.nn
  have p := sums_le σ ht hz C.E
  have n := h.nums
  have hj := h.j0
  have eA : (σ.set C.ic .cout : Gh).A C sz = (σ.set C.ic .cout).sum sz (Tag.rank C.E C.nn) + (σ.set C.ic .cout : Gh).cr := rfl
  simp only [Tag.cnt, Tag.sem, Tag.l1, Tag.l2, Tag.l3, Tag.past, Tag.pre, Tag.tt, Tag.cc, Tag.co, Tag.cd, Tag.cq, Tag.cs, Tag.op, Tag.rest, Tag.room, Tag.rank, List.length_cons, List.length_nil, Bool.toNat_true, Bool.toNat_false] at q p
  unfold Nums at n
  have i1 : (if C.iw < sz then 1 else 0) ≤ 1 := by split <;> omega
  have i2 : (if C.ic < sz then 1 else 0) ≤ 1 := by split <;> omega
  have e0 : room C.nn (upd σ.tag C.ic .cout 0) = room C.nn (σ.tag 0) := by rw [upd_ne _ _ (by unfold Cx.ic; omega)]
  have i0 : σ.dc.toNat = 1 := by rw [hs]; rfl
  refine ⟨h.go hz rfl ?_ ?_ ?_ ?_ ?_ ?_ ?_ ?_, ?_⟩
  · unfold Role
    rw [if_neg (by unfold Cx.ic; omega), if_neg (by unfold Cx.ic; omega), if_neg (by omega), if_neg (by unfold Cx.ic Cx.iw; omega), if_neg (by unfold Cx.ic Cx.iw; omega)]
    rfl
  · unfold Nums
    clear eA
    try simp only [Bool.toNat_true, Bool.toNat_false] at *
    refine ⟨?_, ?_, ?_, ?_, ?_, ?_, ?_, ?_, ?_, ?_, ?_, ?_, ?_, ?_, ?_, ?_, ?_, ?_⟩ <;> (try simp only [Gh.set, Bool.toNat_true, Bool.toNat_false] at *) <;> first | omega | exact fun _ => trivial
  · exact fun _ vs _ _ x => x
  · intro vs e; cases e
  · exact fun j _ => ⟨rfl, rfl⟩
  · exact id
  · intro k hk e; exfalso; unfold Cx.ic at *; omega
  · intro j; rw [upd_ne _ _ (by unfold Cx.ic; omega)]; exact h.had j
  · rw [eA]; unfold Gh.A; simp only [Gh.set] at *; omega
theorem Abs.cout (h : Abs C σ sz) (hz : C.ic < sz)  (ht : σ.tag C.ic = .cout) : Abs C ({ σ.set C.ic (.gone 0) with oc := true }) sz ∧ ({ σ.set C.ic (.gone 0) with oc := true } : Gh).A C sz < σ.A C sz := by
  have q := sums_set σ ht (.gone 0) hz C.E C.nn
  have p := sums_le σ ht hz C.E
  have n := h.nums
  have hj := h.j0
  have eA : ({ σ.set C.ic (.gone 0) with oc := true } : Gh).A C sz = (σ.set C.ic (.gone 0)).sum sz (Tag.rank C.E C.nn) + ({ σ.set C.ic (.gone 0) with oc := true } : Gh).cr := rfl
  simp only [Tag.cnt, Tag.sem, Tag.l1, Tag.l2, Tag.l3, Tag.past, Tag.pre, Tag.tt, Tag.cc, Tag.co, Tag.cd, Tag.cq, Tag.cs, Tag.op, Tag.rest, Tag.room, Tag.rank, List.length_cons, List.length_nil, Bool.toNat_true, Bool.toNat_false] at q p
  unfold Nums at n
  have i1 : (if C.iw < sz then 1 else 0) ≤ 1 := by split <;> omega
  have i2 : (if C.ic < sz then 1 else 0) ≤ 1 := by split <;> omega
  have e0 : room C.nn (upd σ.tag C.ic (.gone 0) 0) = room C.nn (σ.tag 0) := by rw [upd_ne _ _ (by unfold Cx.ic; omega)]
  have i0 : (if C.ic < sz then 1 else 0) = 1 := if_pos hz
  refine ⟨h.go hz rfl ?_ ?_ ?_ ?_ ?_ ?_ ?_ ?_, ?_⟩
  · unfold Role
    rw [if_neg (by unfold Cx.ic; omega), if_neg (by unfold Cx.ic; omega), if_neg (by omega), if_neg (by unfold Cx.ic Cx.iw; omega), if_neg (by unfold Cx.ic Cx.iw; omega)]
    rfl
  · unfold Nums
    clear eA
    try simp only [Bool.toNat_true, Bool.toNat_false] at *
    refine ⟨?_, ?_, ?_, ?_, ?_, ?_, ?_, ?_, ?_, ?_, ?_, ?_, ?_, ?_, ?_, ?_, ?_, ?_⟩ <;> (try simp only [Gh.set, Bool.toNat_true, Bool.toNat_false] at *) <;> first | omega | exact fun _ => trivial
  · exact fun _ vs _ _ x => x
  · intro vs e; cases e
  · exact fun j _ => ⟨rfl, rfl⟩
  · exact id
  · intro k hk e; exfalso; unfold Cx.ic at *; omega
  · intro j; rw [upd_ne _ _ (by unfold Cx.ic; omega)]; exact h.had j
  · rw [eA]; unfold Gh.A; simp only [Gh.set] at *; omega
theorem Abs.mdis (h : Abs C σ sz) (hz : 0 < sz) {r : Nat} (ht : σ.tag 0 = .fdis r) : Abs C (σ.set 0 (.fadd r)) sz ∧ (σ.set 0 (.fadd r) : Gh).A C sz < σ.A C sz := by
  have q := sums_set σ ht (.fadd r) hz C.E C.nn
  have p := sums_le σ ht hz C.E
  have n := h.nums
  have hj := h.j0
  have eA : (σ.set 0 (.fadd r) : Gh).A C sz = (σ.set 0 (.fadd r)).sum sz (Tag.rank C.E C.nn) + (σ.set 0 (.fadd r) : Gh).cr := rfl
  simp only [Tag.cnt, Tag.sem, Tag.l1, Tag.l2, Tag.l3, Tag.past, Tag.pre, Tag.tt, Tag.cc, Tag.co, Tag.cd, Tag.cq, Tag.cs, Tag.op, Tag.rest, Tag.room, Tag.rank, List.length_cons, List.length_nil, Bool.toNat_true, Bool.toNat_false] at q p
  unfold Nums at n
  have i1 : (if C.iw < sz then 1 else 0) ≤ 1 := by split <;> omega
  have i2 : (if C.ic < sz then 1 else 0) ≤ 1 := by split <;> omega
  have e0 : room C.nn (upd σ.tag 0 (.fadd r) 0) = C.nn := by rw [upd_same]; rfl
  have e1 : room C.nn (σ.tag 0) = C.nn := by rw [ht]; rfl
  refine ⟨h.go hz rfl ?_ ?_ ?_ ?_ ?_ ?_ ?_ ?_, ?_⟩
  · have := h.role 0
    unfold Role at this ⊢
    rw [if_pos rfl] at this ⊢
    rw [ht] at this
    exact this
  · unfold Nums
    clear eA
    try simp only [Bool.toNat_true, Bool.toNat_false] at *
    refine ⟨?_, ?_, ?_, ?_, ?_, ?_, ?_, ?_, ?_, ?_, ?_, ?_, ?_, ?_, ?_, ?_, ?_, ?_⟩ <;> (try simp only [Gh.set, Bool.toNat_true, Bool.toNat_false] at *) <;> first | omega | exact fun _ => trivial
  · exact fun _ vs _ _ x => x
  · intro vs e; cases e
  · exact fun j _ => ⟨rfl, rfl⟩
  · exact id
  · intro k hk e; omega
  · intro j; have := h.had j; rw [ht] at this; rw [upd_same]; exact this
  · rw [eA]; unfold Gh.A; simp only [Gh.set] at *; omega
theorem Abs.madd (h : Abs C σ sz) (hz : 0 < sz) {r : Nat} (ht : σ.tag 0 = .fadd r) : Abs C ({ σ.set 0 (.fena r) with v := σ.v + 1 }) sz ∧ ({ σ.set 0 (.fena r) with v := σ.v + 1 } : Gh).A C sz < σ.A C sz := by
  have q := sums_set σ ht (.fena r) hz C.E C.nn
  have p := sums_le σ ht hz C.E
  have n := h.nums
  have hj := h.j0
  have eA : ({ σ.set 0 (.fena r) with v := σ.v + 1 } : Gh).A C sz = (σ.set 0 (.fena r)).sum sz (Tag.rank C.E C.nn) + ({ σ.set 0 (.fena r) with v := σ.v + 1 } : Gh).cr := rfl
  simp only [Tag.cnt, Tag.sem, Tag.l1, Tag.l2, Tag.l3, Tag.past, Tag.pre, Tag.tt, Tag.cc, Tag.co, Tag.cd, Tag.cq, Tag.cs, Tag.op, Tag.rest, Tag.room, Tag.rank, List.length_cons, List.length_nil, Bool.toNat_true, Bool.toNat_false] at q p
  unfold Nums at n
  have i1 : (if C.iw < sz then 1 else 0) ≤ 1 := by split <;> omega
  have i2 : (if C.ic < sz then 1 else 0) ≤ 1 := by split <;> omega
  have e0 : room C.nn (upd σ.tag 0 (.fena r) 0) = C.nn := by rw [upd_same]; rfl
  have e1 : room C.nn (σ.tag 0) = C.nn := by rw [ht]; rfl
  have hr := h.role 0
  unfold Role at hr
  rw [if_pos rfl, ht] at hr
  simp only [Cx.iw] at hr
  have i0 : (if C.iw < sz then 1 else 0) = 0 := if_neg (by unfold Cx.iw; omega)
  refine ⟨h.go hz rfl ?_ ?_ ?_ ?_ ?_ ?_ ?_ ?_, ?_⟩
  · have := h.role 0
    unfold Role at this ⊢
    rw [if_pos rfl] at this ⊢
    rw [ht] at this
    exact this
  · unfold Nums
    clear eA
    try simp only [Bool.toNat_true, Bool.toNat_false] at *
    refine ⟨?_, ?_, ?_, ?_, ?_, ?_, ?_, ?_, ?_, ?_, ?_, ?_, ?_, ?_, ?_, ?_, ?_, ?_⟩ <;> (try simp only [Gh.set, Bool.toNat_true, Bool.toNat_false] at *) <;> first | omega | exact fun _ => trivial
  · exact fun j vs hj hq _ => absurd (h.cas_at hq).2 (by unfold Cx.iw; omega)
  · intro vs e; cases e
  · exact fun j _ => ⟨rfl, rfl⟩
  · exact id
  · intro k hk e; omega
  · intro j; have := h.had j; rw [ht] at this; rw [upd_same]; exact this
  · rw [eA]; unfold Gh.A; simp only [Gh.set] at *; omega
theorem Abs.mena (h : Abs C σ sz) (hz : 0 < sz) {r : Nat} (ht : σ.tag 0 = .fena r) : Abs C (σ.set 0 (.fgo r)) sz ∧ (σ.set 0 (.fgo r) : Gh).A C sz < σ.A C sz := by
  have q := sums_set σ ht (.fgo r) hz C.E C.nn
  have p := sums_le σ ht hz C.E
  have n := h.nums
  have hj := h.j0
  have eA : (σ.set 0 (.fgo r) : Gh).A C sz = (σ.set 0 (.fgo r)).sum sz (Tag.rank C.E C.nn) + (σ.set 0 (.fgo r) : Gh).cr := rfl
  simp only [Tag.cnt, Tag.sem, Tag.l1, Tag.l2, Tag.l3, Tag.past, Tag.pre, Tag.tt, Tag.cc, Tag.co, Tag.cd, Tag.cq, Tag.cs, Tag.op, Tag.rest, Tag.room, Tag.rank, List.length_cons, List.length_nil, Bool.toNat_true, Bool.toNat_false] at q p
  unfold Nums at n
  have i1 : (if C.iw < sz then 1 else 0) ≤ 1 := by split <;> omega
  have i2 : (if C.ic < sz then 1 else 0) ≤ 1 := by split <;> omega
  have e0 : room C.nn (upd σ.tag 0 (.fgo r) 0) = C.nn := by rw [upd_same]; rfl
  have e1 : room C.nn (σ.tag 0) = C.nn := by rw [ht]; rfl
  refine ⟨h.go hz rfl ?_ ?_ ?_ ?_ ?_ ?_ ?_ ?_, ?_⟩
  · have := h.role 0
    unfold Role at this ⊢
    rw [if_pos rfl] at this ⊢
    rw [ht] at this
    exact this
  · unfold Nums
    clear eA
    try simp only [Bool.toNat_true, Bool.toNat_false] at *
    refine ⟨?_, ?_, ?_, ?_, ?_, ?_, ?_, ?_, ?_, ?_, ?_, ?_, ?_, ?_, ?_, ?_, ?_, ?_⟩ <;> (try simp only [Gh.set, Bool.toNat_true, Bool.toNat_false] at *) <;> first | omega | exact fun _ => trivial
  · exact fun _ vs _ _ x => x
  · intro vs e; cases e
  · exact fun j _ => ⟨rfl, rfl⟩
  · exact id
  · intro k hk e; omega
  · intro j; have := h.had j; rw [ht] at this; rw [upd_same]; exact this
  · rw [eA]; unfold Gh.A; simp only [Gh.set] at *; omega
theorem Abs.mshut (h : Abs C σ sz) (hz : 0 < sz) {m : Nat} {ys : List (Nat × Value × Value)} (ht : σ.tag 0 = .cons (m + 1) true ys) : Abs C ({ σ.set 0 (.cons m false ys) with sc := true }) sz ∧ ({ σ.set 0 (.cons m false ys) with sc := true } : Gh).A C sz < σ.A C sz := by
  have q := sums_set σ ht (.cons m false ys) hz C.E C.nn
  have p := sums_le σ ht hz C.E
  have n := h.nums
  have hj := h.j0
  have eA : ({ σ.set 0 (.cons m false ys) with sc := true } : Gh).A C sz = (σ.set 0 (.cons m false ys)).sum sz (Tag.rank C.E C.nn) + ({ σ.set 0 (.cons m false ys) with sc := true } : Gh).cr := rfl
  simp only [Tag.cnt, Tag.sem, Tag.l1, Tag.l2, Tag.l3, Tag.past, Tag.pre, Tag.tt, Tag.cc, Tag.co, Tag.cd, Tag.cq, Tag.cs, Tag.op, Tag.rest, Tag.room, Tag.rank, List.length_cons, List.length_nil, Bool.toNat_true, Bool.toNat_false] at q p
  unfold Nums at n
  have i1 : (if C.iw < sz then 1 else 0) ≤ 1 := by split <;> omega
  have i2 : (if C.ic < sz then 1 else 0) ≤ 1 := by split <;> omega
  have e0 : room C.nn (upd σ.tag 0 (.cons m false ys) 0) = m := by rw [upd_same]; rfl
  have e1 : room C.nn (σ.tag 0) = m + 1 := by rw [ht]; rfl
  refine ⟨h.go hz rfl ?_ ?_ ?_ ?_ ?_ ?_ ?_ ?_, ?_⟩
  · have := h.role 0
    unfold Role at this ⊢
    rw [if_pos rfl] at this ⊢
    rw [ht] at this
    exact this
  · unfold Nums
    clear eA
    try simp only [Bool.toNat_true, Bool.toNat_false] at *
    refine ⟨?_, ?_, ?_, ?_, ?_, ?_, ?_, ?_, ?_, ?_, ?_, ?_, ?_, ?_, ?_, ?_, ?_, ?_⟩ <;> (try simp only [Gh.set, Bool.toNat_true, Bool.toNat_false] at *) <;> first | omega | exact fun _ => trivial
  · exact fun _ vs _ _ x => x
  · intro vs e; cases e
  · exact fun j _ => ⟨rfl, rfl⟩
  · exact id
  · intro k hk e; omega
  · intro j; have := h.had j; rw [ht] at this; rw [upd_same]; exact this
  · rw [eA]; unfold Gh.A; simp only [Gh.set] at *; omega
end Go.Proofs.Ytiobhgemjbjipaa

/- The turns that touch two goroutines: a message that is met, the starts; and who can go on. No machine in sight. -/
namespace Go.Proofs.Ytiobhgemjbjipaa
open Go.Conc
open Go.ConcN (sumTo upd sumTo_upd upd_ne upd_same sumTo_congr le_sumTo sumTo_le sumTo_upd_out)
open Tag
set_option linter.unusedVariables false
set_option linter.unusedSimpArgs false
variable {C : Cx} {σ σ' : Gh} {sz i k : Nat}
/-- A message of way k is taken. -/
def Gh.meet (σ : Gh) (C : Cx) (k : Nat) (v x : Value) (l : List Value) (m : Nat) (b : Bool) (ys : List (Nat × Value × Value)) : Gh :=
  { (σ.set (C.E.j0 + k) (.loop l)).set 0 (.cons m b (ys ++ [(k, v, x)])) with dl := upd σ.dl k (σ.dl k ++ [v]) }
theorem Abs.meet (h : Abs C σ sz) (hk : k < C.E.n) (hz : C.E.j0 + k < sz) {v x : Value} {l : List Value} {m : Nat} {b : Bool} {ys : List (Nat × Value × Value)} (ht : σ.tag (C.E.j0 + k) = .got v l) (hm : σ.tag 0 = .cons m b ys) :
    ∃ m', m = m' + 1 ∧ Abs C (σ.meet C k v x l m' b ys) sz ∧ (σ.meet C k v x l m' b ys).A C sz < σ.A C sz := by
  have hj := h.j0
  have h00 : 0 < sz := by omega
  have n := h.nums
  have p := sums_le σ ht hz C.E
  have hne : (0 : Nat) ≠ C.E.j0 + k := by omega
  have q := sums_set σ ht (.loop l) hz C.E C.nn
  have e1 : room C.nn (σ.tag 0) = m := by rw [hm]; rfl
  have hm2 : (σ.set (C.E.j0 + k) (.loop l)).tag 0 = .cons m b ys := by show upd σ.tag _ _ 0 = _; rw [upd_ne _ _ hne]; exact hm
  obtain ⟨m', rfl⟩ : ∃ m', m = m' + 1 := by
    refine ⟨m - 1, ?_⟩
    simp only [Tag.rest] at p
    unfold Nums at n
    rw [e1] at n
    omega
  refine ⟨m', rfl, ?_⟩
  have q2 := sums_set (σ.set (C.E.j0 + k) (.loop l)) hm2 (.cons m' b (ys ++ [(k, v, x)])) h00 C.E C.nn
  have eA : (σ.meet C k v x l m' b ys).A C sz = ((σ.set (C.E.j0 + k) (.loop l)).set 0 (.cons m' b (ys ++ [(k, v, x)]))).sum sz (Tag.rank C.E C.nn) + σ.cr := rfl
  have e0 : room C.nn (((σ.set (C.E.j0 + k) (.loop l)).set 0 (.cons m' b (ys ++ [(k, v, x)]))).tag 0) = m' := by show room C.nn (upd (upd σ.tag (C.E.j0 + k) (.loop l)) 0 (.cons m' b (ys ++ [(k, v, x)])) 0) = m'; rw [upd_same]; rfl
  have es : ∀ φ, (σ.meet C k v x l m' b ys).sum sz φ = ((σ.set (C.E.j0 + k) (.loop l)).set 0 (.cons m' b (ys ++ [(k, v, x)]))).sum sz φ := fun _ => rfl
  have et : ∀ j, (σ.meet C k v x l m' b ys).tag j = upd (upd σ.tag (C.E.j0 + k) (.loop l)) 0 (.cons m' b (ys ++ [(k, v, x)])) j := fun _ => rfl
  have hop : Tag.op (.cons m' b (ys ++ [(k, v, x)])) = Tag.op (.cons (m' + 1) b ys) := by cases b <;> rfl
  rw [hop] at q2
  simp only [Tag.op] at q
  simp only [Tag.cnt, Tag.sem, Tag.l1, Tag.l2, Tag.l3, Tag.past, Tag.pre, Tag.tt, Tag.cc, Tag.co, Tag.cd, Tag.cq, Tag.cs, Tag.rest, Tag.rank] at q q2
  unfold Nums at n
  refine ⟨⟨h.j0, fun j => ?_, ?_, fun j vs hj' => ?_, fun k' hk' hz' => ?_, fun k' hk' hz' => ?_, fun k' => ?_⟩, ?_⟩
  · rw [et]
    by_cases e : j = 0
    · subst e
      rw [upd_same]
      have := h.role 0
      unfold Role at this ⊢
      rw [if_pos rfl] at this ⊢
      rw [hm] at this
      exact this
    · rw [upd_ne _ _ e]
      by_cases e' : j = C.E.j0 + k
      · subst e'
        rw [upd_same]
        unfold Role
        rw [if_neg (by omega), if_neg (by omega), if_neg (by omega), if_pos (by unfold Cx.iw; omega)]
        rfl
      · rw [upd_ne _ _ e']; exact h.role j
  · simp only [es]
    show Nums _ _ _ _ _ _ _ _ _ _ _ _ _ _ _ (room C.nn (((σ.set (C.E.j0 + k) (.loop l)).set 0 (.cons m' b (ys ++ [(k, v, x)]))).tag 0)) σ.v σ.wt σ.sm σ.oc.toNat σ.dc.toNat σ.qc.toNat σ.sc.toNat _ _
    unfold Nums
    rw [e0]
    rw [e1] at n
    clear es et eA e0 hm2
    generalize (σ.set (C.E.j0 + k) (.loop l)).set 0 (.cons m' b (ys ++ [(k, v, x)])) = τ at *
    generalize σ.set (C.E.j0 + k) (.loop l) = τ' at *
    refine ⟨?_, ?_, ?_, ?_, ?_, ?_, ?_, ?_, ?_, ?_, ?_, ?_, ?_, ?_, ?_, ?_, ?_, ?_⟩ <;> omega
  · rw [et] at hj'
    by_cases e : j = 0
    · subst e; rw [upd_same] at hj'; cases hj'
    · rw [upd_ne _ _ e] at hj'
      by_cases e' : j = C.E.j0 + k
      · subst e'; rw [upd_same] at hj'; cases hj'
      · rw [upd_ne _ _ e'] at hj'; exact h.cas j vs hj'
  · rw [et, upd_ne _ _ (by omega)]
    have r := h.live k' hk' hz'
    by_cases e : k' = k
    · subst e
      rw [ht] at r
      rw [upd_same]
      show C.E.rows k' = upd σ.dl k' (σ.dl k' ++ [v]) k' ++ l ∧ σ.buf k' = l
      rw [upd_same]
      exact ⟨by rw [r.1]; simp, r.2⟩
    · rw [upd_ne _ _ (by omega)]
      exact Row.keep r (upd_ne _ _ e) rfl id
  · have := h.idle k' hk' hz'
    refine ⟨?_, this.2⟩
    show upd σ.dl k _ k' = _
    rw [upd_ne _ _ (by intro e; subst e; omega)]
    exact this.1
  · rw [et, upd_same]
    have := h.had k'
    rw [hm] at this
    show ((ys ++ [(k, v, x)]).filter _).map _ = upd σ.dl k (σ.dl k ++ [v]) k'
    change ((ys.filter _).map _) = _ at this
    rw [List.filter_append, List.map_append, this]
    by_cases e : k' = k
    · subst e; rw [upd_same]; simp
    · rw [upd_ne _ _ e]
      have : (k == k') = false := by simpa using Ne.symm e
      simp [this]
  · rw [eA]
    unfold Gh.A
    have : b.toNat ≤ 1 := by cases b <;> simp
    omega
/-- A child is started. -/
def Gh.spawn (σ : Gh) (sz : Nat) (t0 tn : Tag) : Gh := { σ with tag := upd (upd σ.tag 0 t0) sz tn }
theorem sum_spawn (σ : Gh) {sz : Nat} (t0 tn : Tag) (φ : Tag → Nat) (h : 0 < sz) : (σ.spawn sz t0 tn).sum (sz + 1) φ + φ (σ.tag 0) = σ.sum sz φ + φ t0 + φ tn := by
  have e1 : (σ.spawn sz t0 tn).sum (sz + 1) φ = sumTo sz (fun a => φ (upd (upd σ.tag 0 t0) sz tn a)) + φ (upd (upd σ.tag 0 t0) sz tn sz) := rfl
  rw [e1, upd_same, sumTo_upd_out _ _ _ (Nat.le_refl sz)]
  have := sumTo_upd σ.tag t0 φ h
  unfold Gh.sum
  omega
theorem sums_spawn (σ : Gh) {sz : Nat} {a : Tag} (ha : σ.tag 0 = a) (t0 tn : Tag) (h : 0 < sz) (E : PE) (nn : Nat) :
    (σ.spawn sz t0 tn).sum (sz + 1) cnt + a.cnt = σ.sum sz cnt + t0.cnt + tn.cnt ∧ (σ.spawn sz t0 tn).sum (sz + 1) sem + a.sem = σ.sum sz sem + t0.sem + tn.sem ∧ (σ.spawn sz t0 tn).sum (sz + 1) l1 + a.l1 = σ.sum sz l1 + t0.l1 + tn.l1 ∧ (σ.spawn sz t0 tn).sum (sz + 1) l2 + a.l2 = σ.sum sz l2 + t0.l2 + tn.l2 ∧
    (σ.spawn sz t0 tn).sum (sz + 1) l3 + a.l3 = σ.sum sz l3 + t0.l3 + tn.l3 ∧ (σ.spawn sz t0 tn).sum (sz + 1) past + a.past = σ.sum sz past + t0.past + tn.past ∧ (σ.spawn sz t0 tn).sum (sz + 1) pre + a.pre = σ.sum sz pre + t0.pre + tn.pre ∧ (σ.spawn sz t0 tn).sum (sz + 1) tt + a.tt = σ.sum sz tt + t0.tt + tn.tt ∧ (σ.spawn sz t0 tn).sum (sz + 1) Tag.cc + a.cc = σ.sum sz Tag.cc + t0.cc + tn.cc ∧
    (σ.spawn sz t0 tn).sum (sz + 1) co + a.co = σ.sum sz co + t0.co + tn.co ∧ (σ.spawn sz t0 tn).sum (sz + 1) cd + a.cd = σ.sum sz cd + t0.cd + tn.cd ∧ (σ.spawn sz t0 tn).sum (sz + 1) cq + a.cq = σ.sum sz cq + t0.cq + tn.cq ∧ (σ.spawn sz t0 tn).sum (sz + 1) cs + a.cs = σ.sum sz cs + t0.cs + tn.cs ∧
    (σ.spawn sz t0 tn).sum (sz + 1) op + a.op = σ.sum sz op + t0.op + tn.op ∧ (σ.spawn sz t0 tn).sum (sz + 1) (rest E) + a.rest E = σ.sum sz (rest E) + t0.rest E + tn.rest E ∧ (σ.spawn sz t0 tn).sum (sz + 1) (rank E nn) + a.rank E nn = σ.sum sz (rank E nn) + t0.rank E nn + tn.rank E nn := by
  subst ha
  exact ⟨sum_spawn σ _ _ _ h, sum_spawn σ _ _ _ h, sum_spawn σ _ _ _ h, sum_spawn σ _ _ _ h, sum_spawn σ _ _ _ h, sum_spawn σ _ _ _ h, sum_spawn σ _ _ _ h, sum_spawn σ _ _ _ h, sum_spawn σ _ _ _ h, sum_spawn σ _ _ _ h, sum_spawn σ _ _ _ h, sum_spawn σ _ _ _ h, sum_spawn σ _ _ _ h, sum_spawn σ _ _ _ h, sum_spawn σ _ _ _ h, sum_spawn σ _ _ _ h⟩
theorem Abs.born (h : Abs C σ sz) {t0 tn : Tag} (hs : sz + 1 ≤ C.ic + 1) (h0 : Role C 0 t0 (sz + 1)) (hn : Role C sz tn (sz + 1)) (hy : t0.ysOf = (σ.tag 0).ysOf) (hc : ∀ vs, tn ≠ .tcas vs) (hc0 : ∀ vs, t0 ≠ .tcas vs)
    (hl : ∀ k, k < C.E.n → C.E.j0 + k = sz → Row C σ.dl σ.buf σ.qc k tn)
    (hN : Nums ((σ.spawn sz t0 tn).sum (sz + 1) cnt) ((σ.spawn sz t0 tn).sum (sz + 1) sem) ((σ.spawn sz t0 tn).sum (sz + 1) l1) ((σ.spawn sz t0 tn).sum (sz + 1) l2) ((σ.spawn sz t0 tn).sum (sz + 1) l3) ((σ.spawn sz t0 tn).sum (sz + 1) past) ((σ.spawn sz t0 tn).sum (sz + 1) pre) ((σ.spawn sz t0 tn).sum (sz + 1) tt) ((σ.spawn sz t0 tn).sum (sz + 1) Tag.cc) ((σ.spawn sz t0 tn).sum (sz + 1) co) ((σ.spawn sz t0 tn).sum (sz + 1) cd) ((σ.spawn sz t0 tn).sum (sz + 1) cq) ((σ.spawn sz t0 tn).sum (sz + 1) cs) ((σ.spawn sz t0 tn).sum (sz + 1) op) ((σ.spawn sz t0 tn).sum (sz + 1) (rest C.E)) (room C.nn t0)
      σ.v σ.wt σ.sm σ.oc.toNat σ.dc.toNat σ.qc.toNat σ.sc.toNat (if C.iw < sz + 1 then 1 else 0) (if C.ic < sz + 1 then 1 else 0)) : Abs C (σ.spawn sz t0 tn) (sz + 1) := by
  have hj := h.j0
  have et : ∀ j, (σ.spawn sz t0 tn).tag j = upd (upd σ.tag 0 t0) sz tn j := fun _ => rfl
  have e0 : (σ.spawn sz t0 tn).tag 0 = t0 := by rw [et, upd_ne _ _ (by omega), upd_same]
  refine ⟨⟨hj.1, by omega, hs⟩, fun j => ?_, by rw [e0]; exact hN, fun j vs hv => ?_, fun k hk hz => ?_, fun k hk hz => ?_, fun k => ?_⟩
  · rw [et]
    by_cases e : j = sz
    · subst e; rw [upd_same]; exact hn
    · rw [upd_ne _ _ e]
      by_cases e' : j = 0
      · subst e'; rw [upd_same]; exact h0
      · rw [upd_ne _ _ e']
        have r := h.role j
        unfold Role at r ⊢
        rw [if_neg e'] at r ⊢
        split
        · rename_i x; rw [if_pos x] at r; exact r
        · rename_i x
          rw [if_neg x] at r
          split
          · rename_i y; rw [if_pos (by omega)] at r; exact r
          · rename_i y; rw [if_neg (by omega)] at r; exact r
  · rw [et] at hv
    by_cases e : j = sz
    · subst e; rw [upd_same] at hv; exact absurd hv (hc vs)
    · rw [upd_ne _ _ e] at hv
      by_cases e' : j = 0
      · subst e'; rw [upd_same] at hv; exact absurd hv (hc0 vs)
      · rw [upd_ne _ _ e'] at hv; exact h.cas j vs hv
  · rw [et]
    by_cases e : C.E.j0 + k = sz
    · rw [e, upd_same]; exact hl k hk e
    · rw [upd_ne _ _ e, upd_ne _ _ (by omega)]; exact h.live k hk (by omega)
  · exact h.idle k hk (by omega)
  · rw [e0, hy]; exact h.had k
/-- What the first is at behind a way's start, r ways being still to come. -/
def nextF : Nat → Tag
  | 0 => .fgoT
  | r + 1 => .fdis (r + 1)
theorem Abs.born1 (h : Abs C σ sz)  (ht : σ.tag 0 = .fgo 1) : (sz = C.E.j0 + (C.E.n - 1) ∧ C.E.n - 1 < C.E.n) ∧ Abs C (σ.spawn sz .fgoT (.loop (C.E.rows (C.E.n - 1)))) (sz + 1) ∧ (σ.spawn sz .fgoT (.loop (C.E.rows (C.E.n - 1)))).A C (sz + 1) < σ.A C sz := by
  have hj := h.j0
  have q := sums_spawn (sz := sz) σ ht .fgoT (.loop (C.E.rows (C.E.n - 1))) (by omega) C.E C.nn
  have n := h.nums
  have hr := h.role 0
  unfold Role at hr
  rw [if_pos rfl, ht] at hr
  have hz : 1 ≤ 1 ∧ 1 ≤ C.E.n ∧ sz + (1) = C.iw := hr
  clear hr
  have e1 : room C.nn (σ.tag 0) = C.nn := by rw [ht]; rfl
  unfold Nums at n
  rw [e1] at n
  have i1 : (if C.iw < sz then 1 else 0) = 0 := if_neg (by simp only [Cx.iw, Cx.ic] at *; omega)
  have i2 : (if C.iw < sz + 1 then 1 else 0) = 0 := if_neg (by simp only [Cx.iw, Cx.ic] at *; omega)
  have i3 : (if C.ic < sz then 1 else 0) = 0 := if_neg (by simp only [Cx.iw, Cx.ic] at *; omega)
  have i4 : (if C.ic < sz + 1 then 1 else 0) = 0 := if_neg (by simp only [Cx.iw, Cx.ic] at *; omega)
  have tz : toFork C.E 0 = 0 := rfl
  have tf : toFork C.E (1) = toFork C.E 0 + (C.E.rows (C.E.n - (1))).length := rfl
  simp only [Tag.cnt, Tag.sem, Tag.l1, Tag.l2, Tag.l3, Tag.past, Tag.pre, Tag.tt, Tag.cc, Tag.co, Tag.cd, Tag.cq, Tag.cs, Tag.rest, Tag.room, Tag.rank, Tag.op] at q
  refine ⟨by simp only [Cx.iw] at hz; omega, h.born (by simp only [Cx.iw, Cx.ic] at *; omega) ?_ ?_ (by rw [ht]; rfl) (by intro vs e; cases e) (by intro vs e; cases e) ?_ ?_, ?_⟩
  · unfold Role
    rw [if_pos rfl]
    show sz + 1 = C.iw
    omega
  · unfold Role
    rw [if_neg (by omega), if_neg (by simp only [Cx.iw] at hz; omega), if_neg (by omega), if_pos (by omega)]
    rfl
  · intro k hk e
    have ri := h.idle k hk (by omega)
    have : k = C.E.n - 1 := by simp only [Cx.iw] at hz; omega
    subst this
    exact ⟨by rw [ri.1]; rfl, ri.2⟩
  · have e3 : room C.nn .fgoT = C.nn := rfl
    rw [e3]
    unfold Nums
    generalize σ.spawn sz .fgoT (.loop (C.E.rows (C.E.n - 1))) = τ at *
    simp only [Cx.ic, Cx.iw] at *
    refine ⟨?_, ?_, ?_, ?_, ?_, ?_, ?_, ?_, ?_, ?_, ?_, ?_, ?_, ?_, ?_, ?_, ?_, ?_⟩ <;> omega
  · have : (σ.spawn sz .fgoT (.loop (C.E.rows (C.E.n - 1)))).A C (sz + 1) = (σ.spawn sz .fgoT (.loop (C.E.rows (C.E.n - 1)))).sum (sz + 1) (Tag.rank C.E C.nn) + σ.cr := rfl
    rw [this]
    unfold Gh.A
    omega
theorem Abs.bornW (h : Abs C σ sz) {r : Nat} (ht : σ.tag 0 = .fgo (r + 2)) : (sz = C.E.j0 + (C.E.n - (r + 2)) ∧ C.E.n - (r + 2) < C.E.n) ∧ Abs C (σ.spawn sz (.fdis (r + 1)) (.loop (C.E.rows (C.E.n - (r + 2))))) (sz + 1) ∧ (σ.spawn sz (.fdis (r + 1)) (.loop (C.E.rows (C.E.n - (r + 2))))).A C (sz + 1) < σ.A C sz := by
  have hj := h.j0
  have q := sums_spawn (sz := sz) σ ht (.fdis (r + 1)) (.loop (C.E.rows (C.E.n - (r + 2)))) (by omega) C.E C.nn
  have n := h.nums
  have hr := h.role 0
  unfold Role at hr
  rw [if_pos rfl, ht] at hr
  have hz : 1 ≤ r + 2 ∧ r + 2 ≤ C.E.n ∧ sz + (r + 2) = C.iw := hr
  clear hr
  have e1 : room C.nn (σ.tag 0) = C.nn := by rw [ht]; rfl
  unfold Nums at n
  rw [e1] at n
  have i1 : (if C.iw < sz then 1 else 0) = 0 := if_neg (by simp only [Cx.iw, Cx.ic] at *; omega)
  have i2 : (if C.iw < sz + 1 then 1 else 0) = 0 := if_neg (by simp only [Cx.iw, Cx.ic] at *; omega)
  have i3 : (if C.ic < sz then 1 else 0) = 0 := if_neg (by simp only [Cx.iw, Cx.ic] at *; omega)
  have i4 : (if C.ic < sz + 1 then 1 else 0) = 0 := if_neg (by simp only [Cx.iw, Cx.ic] at *; omega)
  have tz : toFork C.E 0 = 0 := rfl
  have tf : toFork C.E (r + 2) = toFork C.E (r + 1) + (C.E.rows (C.E.n - (r + 2))).length := rfl
  simp only [Tag.cnt, Tag.sem, Tag.l1, Tag.l2, Tag.l3, Tag.past, Tag.pre, Tag.tt, Tag.cc, Tag.co, Tag.cd, Tag.cq, Tag.cs, Tag.rest, Tag.room, Tag.rank, Tag.op] at q
  refine ⟨by simp only [Cx.iw] at hz; omega, h.born (by simp only [Cx.iw, Cx.ic] at *; omega) ?_ ?_ (by rw [ht]; rfl) (by intro vs e; cases e) (by intro vs e; cases e) ?_ ?_, ?_⟩
  · unfold Role
    rw [if_pos rfl]
    show 1 ≤ r + 1 ∧ r + 1 ≤ C.E.n ∧ sz + 1 + (r + 1) = C.iw
    omega
  · unfold Role
    rw [if_neg (by omega), if_neg (by simp only [Cx.iw] at hz; omega), if_neg (by omega), if_pos (by omega)]
    rfl
  · intro k hk e
    have ri := h.idle k hk (by omega)
    have : k = C.E.n - (r + 2) := by simp only [Cx.iw] at hz; omega
    subst this
    exact ⟨by rw [ri.1]; rfl, ri.2⟩
  · have e3 : room C.nn (.fdis (r + 1)) = C.nn := rfl
    rw [e3]
    unfold Nums
    generalize σ.spawn sz (.fdis (r + 1)) (.loop (C.E.rows (C.E.n - (r + 2)))) = τ at *
    simp only [Cx.ic, Cx.iw] at *
    refine ⟨?_, ?_, ?_, ?_, ?_, ?_, ?_, ?_, ?_, ?_, ?_, ?_, ?_, ?_, ?_, ?_, ?_, ?_⟩ <;> omega
  · have : (σ.spawn sz (.fdis (r + 1)) (.loop (C.E.rows (C.E.n - (r + 2))))).A C (sz + 1) = (σ.spawn sz (.fdis (r + 1)) (.loop (C.E.rows (C.E.n - (r + 2))))).sum (sz + 1) (Tag.rank C.E C.nn) + σ.cr := rfl
    rw [this]
    unfold Gh.A
    omega
theorem Abs.bornT (h : Abs C σ sz)  (ht : σ.tag 0 = .fgoT) : sz = C.iw ∧ Abs C (σ.spawn sz .fgoC .tdis) (sz + 1) ∧ (σ.spawn sz .fgoC .tdis).A C (sz + 1) < σ.A C sz := by
  have hj := h.j0
  have q := sums_spawn (sz := sz) σ ht .fgoC .tdis (by omega) C.E C.nn
  have n := h.nums
  have hr := h.role 0
  unfold Role at hr
  rw [if_pos rfl, ht] at hr
  have hz : sz = C.iw := hr
  clear hr
  have e1 : room C.nn (σ.tag 0) = C.nn := by rw [ht]; rfl
  unfold Nums at n
  rw [e1] at n
  have i1 : (if C.iw < sz then 1 else 0) = 0 := if_neg (by simp only [Cx.iw, Cx.ic] at *; omega)
  have i2 : (if C.iw < sz + 1 then 1 else 0) = 1 := if_pos (by simp only [Cx.iw, Cx.ic] at *; omega)
  have i3 : (if C.ic < sz then 1 else 0) = 0 := if_neg (by simp only [Cx.iw, Cx.ic] at *; omega)
  have i4 : (if C.ic < sz + 1 then 1 else 0) = 0 := if_neg (by simp only [Cx.iw, Cx.ic] at *; omega)
  simp only [Tag.cnt, Tag.sem, Tag.l1, Tag.l2, Tag.l3, Tag.past, Tag.pre, Tag.tt, Tag.cc, Tag.co, Tag.cd, Tag.cq, Tag.cs, Tag.rest, Tag.room, Tag.rank, Tag.op] at q
  refine ⟨by exact hz, h.born (by simp only [Cx.iw, Cx.ic] at *; omega) ?_ ?_ (by rw [ht]; rfl) (by intro vs e; cases e) (by intro vs e; cases e) ?_ ?_, ?_⟩
  · unfold Role
    rw [if_pos rfl]
    show sz + 1 = C.ic
    simp only [Cx.iw, Cx.ic] at *; omega
  · unfold Role
    rw [if_neg (by omega), if_neg (by simp only [Cx.iw] at hz; omega), if_neg (by omega), if_neg (by omega), if_pos hz]
    rfl
  · intro k hk e; simp only [Cx.iw] at hz; omega
  · have e3 : room C.nn .fgoC = C.nn := rfl
    rw [e3]
    unfold Nums
    generalize σ.spawn sz .fgoC .tdis = τ at *
    simp only [Cx.ic, Cx.iw] at *
    refine ⟨?_, ?_, ?_, ?_, ?_, ?_, ?_, ?_, ?_, ?_, ?_, ?_, ?_, ?_, ?_, ?_, ?_, ?_⟩ <;> omega
  · have : (σ.spawn sz .fgoC .tdis).A C (sz + 1) = (σ.spawn sz .fgoC .tdis).sum (sz + 1) (Tag.rank C.E C.nn) + σ.cr := rfl
    rw [this]
    unfold Gh.A
    omega
theorem Abs.bornC (h : Abs C σ sz)  (ht : σ.tag 0 = .fgoC) : sz = C.ic ∧ Abs C (σ.spawn sz (.cons C.nn C.b0 []) .csel) (sz + 1) ∧ (σ.spawn sz (.cons C.nn C.b0 []) .csel).A C (sz + 1) < σ.A C sz := by
  have hj := h.j0
  have q := sums_spawn (sz := sz) σ ht (.cons C.nn C.b0 []) .csel (by omega) C.E C.nn
  have n := h.nums
  have hr := h.role 0
  unfold Role at hr
  rw [if_pos rfl, ht] at hr
  have hz : sz = C.ic := hr
  clear hr
  have e1 : room C.nn (σ.tag 0) = C.nn := by rw [ht]; rfl
  unfold Nums at n
  rw [e1] at n
  have i1 : (if C.iw < sz then 1 else 0) = 1 := if_pos (by simp only [Cx.iw, Cx.ic] at *; omega)
  have i2 : (if C.iw < sz + 1 then 1 else 0) = 1 := if_pos (by simp only [Cx.iw, Cx.ic] at *; omega)
  have i3 : (if C.ic < sz then 1 else 0) = 0 := if_neg (by simp only [Cx.iw, Cx.ic] at *; omega)
  have i4 : (if C.ic < sz + 1 then 1 else 0) = 1 := if_pos (by simp only [Cx.iw, Cx.ic] at *; omega)
  have ib : C.b0.toNat ≤ 1 := by cases C.b0 <;> simp
  have iop : Tag.op (.cons C.nn C.b0 []) = C.b0.toNat := by cases C.b0 <;> rfl
  rw [iop] at q
  have p := sums_le (sz := sz) σ ht (by omega) C.E
  simp only [Tag.op] at p
  simp only [Tag.cnt, Tag.sem, Tag.l1, Tag.l2, Tag.l3, Tag.past, Tag.pre, Tag.tt, Tag.cc, Tag.co, Tag.cd, Tag.cq, Tag.cs, Tag.rest, Tag.room, Tag.rank, Tag.op] at q
  refine ⟨by exact hz, h.born (by simp only [Cx.iw, Cx.ic] at *; omega) ?_ ?_ (by rw [ht]; rfl) (by intro vs e; cases e) (by intro vs e; cases e) ?_ ?_, ?_⟩
  · unfold Role
    rw [if_pos rfl]
    show sz + 1 = C.ic + 1
    omega
  · unfold Role
    rw [if_neg (by omega), if_neg (by simp only [Cx.iw, Cx.ic] at *; omega), if_neg (by omega), if_neg (by simp only [Cx.iw, Cx.ic] at *; omega), if_neg (by simp only [Cx.iw, Cx.ic] at *; omega)]
    rfl
  · intro k hk e; simp only [Cx.iw, Cx.ic] at *; omega
  · have e3 : room C.nn (.cons C.nn C.b0 []) = C.nn := rfl
    rw [e3]
    unfold Nums
    generalize σ.spawn sz (.cons C.nn C.b0 []) .csel = τ at *
    simp only [Cx.ic, Cx.iw] at *
    refine ⟨?_, ?_, ?_, ?_, ?_, ?_, ?_, ?_, ?_, ?_, ?_, ?_, ?_, ?_, ?_, ?_, ?_, ?_⟩ <;> omega
  · have : (σ.spawn sz (.cons C.nn C.b0 []) .csel).A C (sz + 1) = (σ.spawn sz (.cons C.nn C.b0 []) .csel).sum (sz + 1) (Tag.rank C.E C.nn) + σ.cr := rfl
    rw [this]
    unfold Gh.A
    omega
end Go.Proofs.Ytiobhgemjbjipaa

/- Where a goroutine stands, by its tag; and that it stands there still whatever the others do. -/
namespace Go.Proofs.Ytiobhgemjbjipaa
open Go.Conc
open Go.ConcR (KK wgBlock WgAt stA smA rd wr mk DC0)
set_option linter.unusedVariables false
set_option linter.unusedSimpArgs false
abbrev Offers := Option (Array CommCase × CommShape)
def stopOf (C : Cx) (mine : Nat → Prop) (N i : Nat) : Tag → Offers → Goroutine → World → Prop
  | .loop l => fun _ => WSel1 C.P C.E mine (i - C.E.j0) l
  | .got v l => WGot C.P C.E mine (i - C.E.j0) l v
  | .quit => fun _ => WRel C.P C.E mine
  | .wdis => fun _ => WDis C.P C.E mine
  | .wadd => fun _ => WAdd C.P C.E mine
  | .last1 => fun _ => WLast1 C.P C.E mine
  | .last2 => fun _ => WLast2 C.P C.E mine
  | .last3 => fun _ => WLast3 C.P C.E
  | .tdis => fun _ g w => ∃ A, Loops C.P C.E mine A ∧ TDis C.P C.E mine A g w
  | .tload => fun _ g w => ∃ A, Loops C.P C.E mine A ∧ TLoad C.P C.E mine A g w
  | .tcas vs => fun _ g w => ∃ A, Loops C.P C.E mine A ∧ TCas C.P C.E mine A vs g w
  | .tsem => TSem C.P C.E mine
  | .tload2 => fun _ => TLoad2 C.P C.E mine
  | .tena => fun _ => TEna C.P C.E mine
  | .tacq => fun _ => TAcq C.P C.E mine
  | .tshut => fun _ => TShut C.P C.E
  | .csel => CSel C.P C.E mine
  | .cquit => fun _ => CQuit C.P C.E mine
  | .cdone => CDone C.P C.E mine
  | .cout => fun _ => COut C.P C.E
  | .fdis r => fun _ => MDis C.P C.E N (C.E.n - r) (fun N' => MFork C.P C.E C.Exit C.nn C.b0 (r - 1) N')
  | .fadd r => fun _ => MAdd C.P C.E N (C.E.n - r) (fun N' => MFork C.P C.E C.Exit C.nn C.b0 (r - 1) N')
  | .fena r => fun _ => MEna C.P C.E N (C.E.n - r) (fun N' => MFork C.P C.E C.Exit C.nn C.b0 (r - 1) N')
  | .fgo r => fun _ => MGo C.P C.E (C.E.n - r) (fun N' => MFork C.P C.E C.Exit C.nn C.b0 (r - 1) N')
  | .fgoT => fun _ => MGoT C.P C.E C.Exit C.nn C.b0
  | .fgoC => fun _ => MGoC C.P C.E C.Exit C.nn C.b0
  | .cons m b ys => MRecv C.P C.E C.Exit m b ys N
  | .none_ | .gone _ => fun _ _ _ => False
/-- It walks to its stop (f counts), or stands at it, waiting or let try again. -/
def Stage (P : Program) (main : Bool) (R : World → World → Prop) (D : World → World → Array Event → Prop) (w8 : Bool) (sm : Prop) (Stop : Offers → Goroutine → World → Prop) (f : Nat) (g : Goroutine) (w : World) : Prop :=
  (∃ n, f = n + 1 ∧ Goes P main R D (fun g w => ∃ o, Stop o g w) n g w) ∨
    (f = 0 ∧ w8 = true ∧ (g.status = .running ∨ g.status = .blocked) ∧ ∃ o, Stop o (core g) w ∧ (g.status = .blocked → g.offers = o ∧ (o = none → sm)))
/-- Its guarantee: behind its release it steps in silence. -/
def Cx.D (C : Cx) (mine : Nat → Prop) (N i : Nat) (t : Tag) : World → World → Array Event → Prop := if t.rel = true then DC0 else match t.sayM with | some m => DS C.E m | none => if i = 0 then D0 C.E N else DM C.E mine
def Sit (C : Cx) (mine : Nat → Prop) (N i f : Nat) (g : Goroutine) (w : World) : Tag → Prop
  | .none_ => False
  | .gone d => QuitsD C.P f d g
  | t => Stage C.P (i == 0) (RM C.E mine) (C.D mine N i t) t.waits (t = .tsem) (stopOf C mine N i t) f g w
variable {C : Cx} {mine : Nat → Prop} {N i f : Nat} {g : Goroutine} {w w₁ : World} {t : Tag}
theorem stop_run {o : Offers} (h : stopOf C mine N i t o g w) : g.status = .running := by
  cases t <;> simp only [stopOf] at h <;> first
    | exact h.elim
    | exact h.1
    | (obtain ⟨A, _, h⟩ := h; exact h.1)
    | exact h.2.1
    | exact h.2.1.run
    | skip
  · rename_i l; cases l <;> (unfold WSel1 at h; exact h.1.run)
  · obtain ⟨x, _, h, _⟩ := h; exact h.run
  · rename_i m b ys
    cases m with
    | zero => unfold MRecv at h; exact h.2.1.run
    | succ m => unfold MRecv at h; exact h.elim (fun x => x.2.1.run) (fun x => x.2.2.1)
theorem core_of_run {g : Goroutine} : (core g).status = .running := rfl
theorem stop_core (hw : t.waits = true) {o : Offers} (h : stopOf C mine N i t o g w) : stopOf C mine N i t o (core g) w := by
  cases t <;> simp only [Tag.waits] at hw <;> first | cases hw | skip
  all_goals simp only [stopOf] at h ⊢
  · obtain ⟨x, h1, h2, h3, h4, h5⟩ := h
    exact ⟨x, h1, h2.core, h3, h4, h5⟩
  · obtain ⟨h1, h2, h3⟩ := h
    refine ⟨h1, rfl, fun w₁ h₁ => ?_⟩
    rw [show stepG C.P false (core g) w₁ = stepG C.P false g w₁ from stepG_same rfl rfl rfl w₁]
    exact h3 w₁ h₁
  · obtain ⟨h1, h2, h3⟩ := h
    exact ⟨h1, h2.core, h3⟩
  · obtain ⟨h1, h2, h3⟩ := h
    exact ⟨h1, h2.core, h3⟩
  · rename_i m b ys
    cases m with
    | zero =>
      unfold MRecv at h ⊢
      exact ⟨h.1, h.2.1.core, h.2.2⟩
    | succ m =>
      unfold MRecv at h ⊢
      exact h.imp (fun x => ⟨x.1, x.2.1.core, x.2.2⟩) (fun x => ⟨x.1, x.2.1, rfl, x.2.2.2⟩)
theorem stop_back (hw : t.waits = true) {o : Offers} (h : stopOf C mine N i t o (core g) w) (hr : g.status = .running) : stopOf C mine N i t o g w := by
  cases t <;> simp only [Tag.waits] at hw <;> first | cases hw | skip
  all_goals simp only [stopOf] at h ⊢
  · obtain ⟨x, h1, h2, h3, h4, h5⟩ := h
    exact ⟨x, h1, h2.back hr, h3, h4, h5⟩
  · obtain ⟨h1, h2, h3⟩ := h
    refine ⟨h1, hr, fun w₁ h₁ => ?_⟩
    rw [show stepG C.P false g w₁ = stepG C.P false (core g) w₁ from stepG_same rfl rfl rfl w₁]
    exact h3 w₁ h₁
  · obtain ⟨h1, h2, h3⟩ := h
    exact ⟨h1, h2.back hr, h3⟩
  · obtain ⟨h1, h2, h3⟩ := h
    exact ⟨h1, h2.back hr, h3⟩
  · rename_i m b ys
    cases m with
    | zero =>
      unfold MRecv at h ⊢
      exact ⟨h.1, h.2.1.back hr, h.2.2⟩
    | succ m =>
      unfold MRecv at h ⊢
      exact h.imp (fun x => ⟨x.1, x.2.1.back hr, x.2.2⟩) (fun x => ⟨x.1, x.2.1, hr, x.2.2.2⟩)
theorem stop_rely (hw : t.waits = true) (hm : ∀ m b ys, t = .cons m b ys → mine = fun b => ¬ C.E.Sh b) {o : Offers} (h : stopOf C mine N i t o g w) (hr : RM C.E mine w w₁) : stopOf C mine N i t o g w₁ := by
  cases t <;> simp only [Tag.waits] at hw <;> first | cases hw | skip
  all_goals simp only [stopOf] at h ⊢
  · obtain ⟨x, h1, h2, h3, h4, h5⟩ := h
    exact ⟨x, h1, h2.rely (RM.tr _ _) hr, fun w₂ h₂ => h3 w₂ (hr.trans h₂), fun w₂ h₂ => h4 w₂ (hr.trans h₂), fun w₂ h₂ => h5 w₂ (hr.trans h₂)⟩
  · obtain ⟨h1, h2, h3⟩ := h
    exact ⟨h1, h2, fun w₂ h₂ => h3 w₂ (hr.trans h₂)⟩
  · obtain ⟨h1, h2, h3, h4⟩ := h
    exact ⟨h1, h2.rely (RM.tr _ _) hr, fun x w₂ h₂ => h3 x w₂ (hr.trans h₂), fun w₂ h₂ => h4 w₂ (hr.trans h₂)⟩
  · obtain ⟨h1, h2, h3⟩ := h
    exact ⟨h1, h2.rely (RM.tr _ _) hr, fun w₂ h₂ => h3 w₂ (hr.trans h₂)⟩
  · rename_i m b ys
    obtain rfl := hm m b ys rfl
    have hr' : R0 C.E w w₁ := hr
    cases m with
    | zero =>
      unfold MRecv at h ⊢
      exact ⟨h.1, h.2.1.rely (RM.tr _ _) hr', fun w₂ h₂ => h.2.2 w₂ (hr'.trans h₂)⟩
    | succ m =>
      unfold MRecv at h ⊢
      exact h.imp (fun x => ⟨x.1, x.2.1.rely (RM.tr _ _) hr', fun w₂ h₂ => x.2.2.1 w₂ (hr'.trans h₂), fun k v y w₂ h₂ => x.2.2.2 k v y w₂ (hr'.trans h₂)⟩) (fun x => ⟨x.1, x.2.1, x.2.2.1, fun w₂ h₂ => x.2.2.2 w₂ (hr'.trans h₂)⟩)
/-- Whoever is neither absent nor leaving is at a stage. -/
theorem Sit.stage (h : Sit C mine N i f g w t) (hn : t ≠ .none_) (hg : ∀ d, t ≠ .gone d) : Stage C.P (i == 0) (RM C.E mine) (C.D mine N i t) t.waits (t = .tsem) (stopOf C mine N i t) f g w := by
  cases t <;> first | exact absurd rfl hn | exact absurd rfl (hg _) | exact h
theorem Sit.of (h : Stage C.P (i == 0) (RM C.E mine) (C.D mine N i t) t.waits (t = .tsem) (stopOf C mine N i t) f g w) (hn : t ≠ .none_) (hg : ∀ d, t ≠ .gone d) : Sit C mine N i f g w t := by
  cases t <;> first | exact absurd rfl hn | exact absurd rfl (hg _) | exact h
/-- The others' doing does not unseat it. -/
theorem Sit.rely (hm : ∀ m b ys, t = .cons m b ys → mine = fun b => ¬ C.E.Sh b) (h : Sit C mine N i f g w t) (hr : RM C.E mine w w₁) : Sit C mine N i f g w₁ t := by
  by_cases hn : t = .none_
  · subst hn; exact h.elim
  by_cases hg : ∃ d, t = .gone d
  · obtain ⟨d, rfl⟩ := hg; exact h
  have hg' : ∀ d, t ≠ .gone d := fun d e => hg ⟨d, e⟩
  refine Sit.of ((h.stage hn hg').imp (fun ⟨n, e, hG⟩ => ⟨n, e, hG.rely (RM.tr _ _) hr⟩) fun ⟨e, hw, hs, o, ho, hb⟩ => ⟨e, hw, hs, o, stop_rely hw hm ho hr, hb⟩) hn hg'
theorem again_core (g : Goroutine) (w : World) (hs : g.status = .running ∨ g.status = .blocked) : core (g.again w) = core g ∧ ((g.again w).status = .running ∨ g.again w = g) := by
  unfold Goroutine.again
  rcases hs with hs | hs <;> rw [hs]
  · exact ⟨rfl, .inr rfl⟩
  · cases ho : g.offers with
    | none => exact ⟨by simp [core], .inl rfl⟩
    | some p =>
      obtain ⟨cs, sh⟩ := p
      dsimp only
      split
      · exact ⟨by simp [core], .inl rfl⟩
      · exact ⟨rfl, .inr rfl⟩
theorem woken_core (P : Program) (a a' g : Goroutine) (w : World) (hs : g.status = .running ∨ g.status = .blocked) : core (woken P a a' w g) = core g ∧ ((woken P a a' w g).status = .running ∨ woken P a a' w g = g) := by
  unfold woken
  split
  · exact again_core g w hs
  · exact ⟨rfl, .inr rfl⟩
/-- Whoever walks is running. -/
theorem Sit.running (h : Sit C mine N i f g w t) (hn : t ≠ .none_) (hg : ∀ d, t ≠ .gone d) : g.status = .running ∨ (g.status = .blocked ∧ t.waits = true ∧ f = 0 ∧ ∃ o, stopOf C mine N i t o (core g) w ∧ g.offers = o ∧ (o = none → t = .tsem)) := by
  rcases h.stage hn hg with ⟨n, rfl, hG⟩ | ⟨rfl, hw, hs, o, ho, hb⟩
  · exact .inl (hG.running (fun _ _ ⟨_, x⟩ => stop_run x) w (RM.refl _ _ w))
  · exact hs.imp id fun x => ⟨x, hw, rfl, o, ho, hb x⟩
theorem Sit.alive (h : Sit C mine N i f g w t) : g.status = .running ∨ g.status = .blocked ∨ g.status = .finished := by
  by_cases hn : t = .none_
  · subst hn; exact h.elim
  by_cases hg : ∃ d, t = .gone d
  · obtain ⟨d, rfl⟩ := hg; exact (QuitsD.status h).imp id .inr
  · exact (h.running hn fun d e => hg ⟨d, e⟩).imp id fun x => .inl x.1
/-- Whoever has been let try again stands where it stood. -/
theorem Sit.woken (h : Sit C mine N i f g w t) (a a' : Goroutine) (w' : World) : Sit C mine N i f (woken C.P a a' w' g) w t := by
  by_cases hn : t = .none_
  · subst hn; exact h.elim
  by_cases hg : ∃ d, t = .gone d
  · obtain ⟨d, rfl⟩ := hg
    have h' : QuitsD C.P f d g := h
    show QuitsD C.P f d _
    rw [woken_quitsD h']; exact h'
  have hg' : ∀ d, t ≠ .gone d := fun d e => hg ⟨d, e⟩
  rcases h.running hn hg' with hr | ⟨hb, hw, rfl, o, ho, hoff, hsm⟩
  · have e : Go.Conc.woken C.P a a' w' g = g := woken_run hr
    rw [e]; exact h
  · obtain ⟨e1, e2⟩ := woken_core C.P a a' g w' (.inr hb)
    refine Sit.of (.inr ⟨rfl, hw, e2.imp id (fun e => by rw [e]; exact hb), o, by rw [e1]; exact ho, fun hb' => ?_⟩) hn hg'
    rcases e2 with e2 | e2
    · rw [e2] at hb'; cases hb'
    · rw [e2]; exact ⟨hoff, hsm⟩
/-- Whoever is picked: at its stop, or a step on the way. -/
theorem Sit.pick (h : Sit C mine N i f g w t) (hn : t ≠ .none_) (hg : ∀ d, t ≠ .gone d) (hr : g.status = .running) :
    (∃ o, stopOf C mine N i t o g w) ∨ ∃ n g' w' es, f = n + 2 ∧ stepG C.P (i == 0) g w = .go g' w' es ∧ C.D mine N i t w w' es ∧ Sit C mine N i (n + 1) g' w' t := by
  rcases h.stage hn hg with ⟨n, rfl, hG⟩ | ⟨rfl, hw, hs, o, ho, hb⟩
  · cases n with
    | zero => exact .inl (hG w (RM.refl _ _ w))
    | succ n =>
      rcases hG with hG | ⟨_, hG⟩
      · exact .inl (hG w (RM.refl _ _ w))
      · have hs := hG w (RM.refl _ _ w)
        cases hgo : stepG C.P (i == 0) g w with
        | go g' w' es =>
          rw [hgo, goes_go] at hs
          exact .inr ⟨n, g', w', es, rfl, rfl, hs.1, Sit.of (.inl ⟨n, rfl, hs.2⟩) hn hg⟩
        | _ => rw [hgo] at hs; exact hs.elim
  · exact .inl ⟨o, stop_back hw ho hr⟩
theorem D_out {w' : World} {es : Array Event} (hsy : t.sayM = none) (h : C.D mine N i t w w' es) : ∃ M F, DG C.E M F w w' es ∧ (∀ b, F w b → i = 0 ∧ N ≤ b ∧ ¬ Byt C.E w b) ∧ (∀ b, M w b → (i = 0 ∧ Rd0 C.E N w b) ∨ (i ≠ 0 ∧ mine b)) ∧
    (i ≠ 0 → ∀ b, w.heap.size ≤ b → b < w'.heap.size → Byt C.E w' b) ∧ (t.rel = true → es = #[] ∧ w' = w) := by
  unfold Cx.D at h
  rw [hsy] at h
  split at h
  · obtain ⟨rfl, rfl⟩ := h
    exact ⟨noF, noF, dg_none _, fun _ x => x.elim, fun _ x => x.elim, fun _ => nw_none _, fun _ => ⟨rfl, rfl⟩⟩
  · rename_i hr
    dsimp only at h
    split at h
    · rename_i h0
      exact ⟨_, _, h, fun b x => ⟨h0, x⟩, fun b x => .inl ⟨h0, x⟩, fun x => absurd h0 x, fun x => absurd x hr⟩
    · rename_i h0
      exact ⟨_, _, h.1, fun b x => x.elim, fun b x => .inr ⟨h0, x⟩, fun _ => h.2, fun x => absurd x hr⟩
end Go.Proofs.Ytiobhgemjbjipaa

/- The trace of one call: permissions with new places, what is deaf, and the chain by which the first comes to know all. Conditions stand as premises. -/
namespace Go.Proofs.Ytiobhgemjbjipaa
open Go.Conc
open Go.ConcR (KK wgBlock WgAt stA smA rd wr mk DC0 deafBehind_cons deafBehind_one)
open Go.ConcN (PermW fork_knows)
set_option linter.unusedVariables false
set_option linter.unusedSimpArgs false
section
variable {Sh : Loc → Prop} {may own may' own' : Nat → Loc → Prop} {t u : Trace} {g : Nat} {New : Loc → Prop}
/-- One goroutine's operations, some on places that nobody has touched yet. -/
theorem PT.step (S : Sole Sh may own) (h : PT Sh may own t) (hn : ∀ i a, touchAt t i = some a → ¬ New a.loc) (hd : ∀ g' l, New l → ¬ may g' l) (hS : ∀ l, New l → ¬ Sh l)
    (hu : ∀ op ∈ u, op.g = g ∧ ∀ x, op.act.touch? = some x → (Sh x.loc ∧ x.kind ≠ .plain ∧ x.kind ≠ .said) ∨ own g x.loc ∨ New x.loc ∨ (may g x.loc ∧ x.write = false)) :
    PT Sh (fun g' l => may g' l ∨ (g' = g ∧ New l)) (fun g' l => own g' l ∨ (g' = g ∧ New l)) (t ++ u) := by
  have S' : Sole Sh (fun g' l => may g' l ∨ (g' = g ∧ New l)) (fun g' l => own g' l ∨ (g' = g ∧ New l)) := by
    refine ⟨fun a b l ha hb => ?_, fun a l ha => ha.imp (S.sub a l) id, fun a l ha => ha.elim (S.sh a l) fun x => hS l x.2⟩
    rcases ha with ha | ⟨rfl, ha⟩ <;> rcases hb with hb | ⟨rfl, hb⟩
    · exact S.one a b l ha hb
    · exact absurd (S.sub a l ha) (hd a l hb)
    · exact absurd hb (hd b l ha)
    · rfl
  have p : ∀ g' l, New l → Perm t g' l := fun g' l hl i a ha e => absurd (e ▸ hl) (hn i a ha)
  refine PT.app S' (h.to (fun g' l hl => hl.elim (h.red g' l) fun x => PermW.of (p g' l x.2)) (fun g' l hl => hl.elim (h.wr g' l) fun x => p g' l x.2)) (g := g) fun op hop => ⟨(hu op hop).1, fun x hx => ?_⟩
  rcases (hu op hop).2 x hx with h1 | h1 | h1 | h1
  · exact .inl ⟨h1.1, h1.2.1, fun e => absurd e h1.2.2⟩
  · exact .inr (.inl (.inl h1))
  · exact .inr (.inl (.inr ⟨rfl, h1⟩))
  · exact .inr (.inr ⟨.inl h1.1, h1.2⟩)
end
/-- The places that sync operations alone touch. -/
def ShL (E : PE) (l : Loc) : Prop := (∃ a, l = .cell a ∧ a.block = E.Wg) ∨ ∃ c, l = .obj c
def mayB (E : PE) (mine : Nat → Nat → Prop) (w : World) (g b : Nat) : Prop := if g = 0 then ¬ E.Sh b ∧ ¬ E.Old b ∧ (b < E.N0 ∨ ¬ Byt E w b) else mine g b
def mayL (E : PE) (mine : Nat → Nat → Prop) (w : World) (g : Nat) (l : Loc) : Prop := ∃ a, l = .cell a ∧ a.block < w.heap.size ∧ mayB E mine w g a.block
def ownL (E : PE) (N : Nat) (w : World) (g : Nat) (l : Loc) : Prop := g = 0 ∧ ∃ a, l = .cell a ∧ N ≤ a.block ∧ a.block < w.heap.size ∧ ¬ Byt E w a.block
/-- What does not count: an atomic touch of the group's, unheard. -/
def Unc (E : PE) (t : Trace) (i : Nat) (a : Touch) : Prop := a.kind = .atomic ∧ (∃ ad, a.loc = .cell ad ∧ ad.block = E.Wg) ∧ ¬ t.heard i
/-- Every touch of a goroutine of X that counts is one of Z. -/
def KB (E : PE) (t : Trace) (X Z : Nat → Prop) : Prop := ∀ i a h, touchAt t i = some a → t.g? i = some h → X h → Unc E t i a ∨ Z i
/-- Goroutine g's operations u touch nothing that counts. -/
def Hush (E : PE) (t u : Trace) : Prop := ∀ j op, u[j]? = some op → op.act.touch? = none ∨ ∃ a, op.act.touch? = some a ∧ a.kind = .atomic ∧ (∃ ad, a.loc = .cell ad ∧ ad.block = E.Wg) ∧ ¬ (t ++ u).heard (t.size + j)
section
variable {E : PE} {t u : Trace} {X Y Z Z' : Nat → Prop} {g : Nat}
theorem g?_old {i : Nat} (h : i < t.size) : (t ++ u).g? i = t.g? i := by simp [Trace.g?, getElem?_append_old h]
theorem heard_iff_old {i : Nat} (h : i < t.size) : (t ++ u).heard i ↔ t.heard i := by
  unfold Trace.heard
  constructor
  · rintro ⟨g, h1, h2⟩; exact ⟨g, by rwa [g?_old h] at h1, by rwa [deaf_old (Nat.le_of_lt h)] at h2⟩
  · rintro ⟨g, h1, h2⟩; exact ⟨g, by rwa [g?_old h], by rwa [deaf_old (Nat.le_of_lt h)]⟩
theorem KB.app (h : KB E t X Z) (hu : ∀ op ∈ u, op.g = g) (hq : X g → Hush E t u) (hZ : ∀ i, Z i → Z' i) : KB E (t ++ u) X Z' := by
  intro i a h' ha hg hX
  obtain ⟨op, hop, hox⟩ := touch_of ha
  rcases getElem?_append_cases hop with ⟨hi, hop'⟩ | ⟨hi, hou⟩
  · rw [g?_old hi] at hg
    rcases h i a h' (by rw [touchAt_of hop']; exact hox) hg hX with ⟨h1, h2, h3⟩ | hz
    · exact .inl ⟨h1, h2, fun x => h3 ((heard_iff_old hi).1 x)⟩
    · exact .inr (hZ i hz)
  · have e : op.g = h' := by simpa [Trace.g?, hop] using hg
    rw [hu op hou] at e
    subst e
    have hj : u[i - t.size]? = some op := by rw [Array.getElem?_append_right hi] at hop; exact hop
    rcases hq hX (i - t.size) op hj with hn | ⟨a', ha', hk, hc, hh⟩
    · rw [hn] at hox; cases hox
    · rw [hox] at ha'
      cases ha'
      exact .inl ⟨hk, hc, by rw [show t.size + (i - t.size) = i by omega] at hh; exact hh⟩
/-- .. where a goroutine's own touches are in Z' by themselves. -/
theorem KB.own (h : KB E t X Z) (hu : ∀ op ∈ u, op.g = g) (hZ : ∀ i, Z i → Z' i) (ho : ∀ i op, t.size ≤ i → (t ++ u)[i]? = some op → Z' i) : KB E (t ++ u) X Z' := by
  intro i a h' ha hg hX
  obtain ⟨op, hop, hox⟩ := touch_of ha
  rcases getElem?_append_cases hop with ⟨hi, hop'⟩ | ⟨hi, hou⟩
  · rw [g?_old hi] at hg
    rcases h i a h' (by rw [touchAt_of hop']; exact hox) hg hX with ⟨h1, h2, h3⟩ | hz
    · exact .inl ⟨h1, h2, fun x => h3 ((heard_iff_old hi).1 x)⟩
    · exact .inr (hZ i hz)
  · exact .inr (ho i op hi hop)
theorem KB.mono (h : KB E t X Z) (hX : ∀ g, Y g → X g) (hZ : ∀ i, Z i → Z' i) : KB E t Y Z' := fun i a h' ha hg hy => (h i a h' ha hg (hX _ hy)).imp id (hZ i)
theorem KB.union (h : KB E t X Z) (h' : KB E t Y Z) : KB E t (fun g => X g ∨ Y g) Z := fun i a g ha hg hx => hx.elim (h i a g ha hg) (h' i a g ha hg)
/-- A mark of the trace behind which X's touches lie. -/
def Seal (E : PE) (t : Trace) (x : MemAct) (X : Nat → Prop) : Prop := ∃ m, t.act? m = some x ∧ t.heard m ∧ KB E t X (fun i => Before t i m)
theorem Seal.app {x : MemAct} (h : Seal E t x X) (hu : ∀ op ∈ u, op.g = g) (hq : X g → Hush E t u) : Seal E (t ++ u) x X := by
  obtain ⟨m, h1, h2, h3⟩ := h
  have hm := act_lt h1
  exact ⟨m, by rw [act_old hm]; exact h1, heard_old hm h2, h3.app hu hq fun i hi => hi.app u⟩
/-- The chain by which the first comes to know all. -/
structure Chain (E : PE) (t : Trace) (rl : Nat → Prop) (ts dn co oc : Prop) : Prop where
  T1 : ∀ h, rl h → Seal E t (.mark (.releaseMerge (stA E.Wg))) (fun g => g = h)
  T2 : ts → KB E t (fun g => E.j0 ≤ g ∧ g < E.j0 + E.n) (Knows t (E.j0 + E.n))
  T3 : dn → Seal E t (.close E.Dn) (fun g => E.j0 ≤ g ∧ g ≤ E.j0 + E.n)
  T4 : co → KB E t (fun g => E.j0 ≤ g ∧ g ≤ E.j0 + E.n) (Knows t (E.j0 + E.n + 1))
  T5 : oc → Seal E t (.close E.O) (fun g => E.j0 ≤ g ∧ g ≤ E.j0 + E.n + 1)
variable {rl : Nat → Prop} {ts dn co oc : Prop}
theorem Chain.app (h : Chain E t rl ts dn co oc) (hu : ∀ op ∈ u, op.g = g)
    (hq : Hush E t u ∨ (¬ rl g ∧ (ts → ¬ (E.j0 ≤ g ∧ g < E.j0 + E.n)) ∧ (dn → ¬ (E.j0 ≤ g ∧ g ≤ E.j0 + E.n)) ∧ (co → ¬ (E.j0 ≤ g ∧ g ≤ E.j0 + E.n)) ∧ (oc → ¬ (E.j0 ≤ g ∧ g ≤ E.j0 + E.n + 1)))) : Chain E (t ++ u) rl ts dn co oc := by
  refine ⟨fun h' hr => (h.T1 h' hr).app hu fun e => ?_, fun x => (h.T2 x).app hu (fun e => ?_) fun i hi => hi.app u, fun x => (h.T3 x).app hu fun e => ?_, fun x => (h.T4 x).app hu (fun e => ?_) fun i hi => hi.app u, fun x => (h.T5 x).app hu fun e => ?_⟩ <;> rcases hq with hq | ⟨q1, q2, q3, q4, q5⟩ <;> first
    | exact hq
    | (subst e; exact absurd hr q1)
    | exact absurd e (q2 x)
    | exact absurd e (q3 x)
    | exact absurd e (q4 x)
    | exact absurd e (q5 x)
theorem Chain.to {rl' : Nat → Prop} {ts' dn' co' oc' : Prop} (h : Chain E t rl ts dn co oc) (h1 : ∀ g, rl' g → rl g ∨ Seal E t (.mark (.releaseMerge (stA E.Wg))) (fun g' => g' = g)) (h2 : ts' → ts ∨ KB E t (fun g => E.j0 ≤ g ∧ g < E.j0 + E.n) (Knows t (E.j0 + E.n)))
    (h3 : dn' → dn ∨ Seal E t (.close E.Dn) (fun g => E.j0 ≤ g ∧ g ≤ E.j0 + E.n)) (h4 : co' → co ∨ KB E t (fun g => E.j0 ≤ g ∧ g ≤ E.j0 + E.n) (Knows t (E.j0 + E.n + 1))) (h5 : oc' → oc ∨ Seal E t (.close E.O) (fun g => E.j0 ≤ g ∧ g ≤ E.j0 + E.n + 1)) : Chain E t rl' ts' dn' co' oc' :=
  ⟨fun g x => (h1 g x).elim (h.T1 g) id, fun x => (h2 x).elim h.T2 id, fun x => (h3 x).elim h.T3 id, fun x => (h4 x).elim h.T4 id, fun x => (h5 x).elim h.T5 id⟩
/-- Who says a release behind all that it has touched. -/
theorem seal_last {y : MemOp} {x : MemAct} (hy : y.act = x) (hd : Deaf t y.g = 0) (hn : y.act.touch? = none) (hk : KB E t X (Knows t y.g)) : Seal E (t ++ #[y]) x X := by
  refine ⟨t.size, by rw [act?_of (last_op t y), hy], heard_last hd, ?_⟩
  refine hk.app (g := y.g) (fun op hop => by have : op = y := by simpa using hop
                                             rw [this]) (fun _ j op hj => .inl ?_) fun i hi => before_last hi
  have : op = y := by
    have := Array.mem_of_getElem? hj
    simpa using this
  rw [this]; exact hn
theorem kb_self (E : PE) (t : Trace) (g : Nat) : KB E t (fun g' => g' = g) (Knows t g) := by
  intro i a h ha hg e
  subst e
  obtain ⟨op, hop, _⟩ := touch_of ha
  have : op.g = h := by simpa [Trace.g?, hop] using hg
  exact .inr (this ▸ knows_own hop)
/-- A seal that is seen. -/
theorem seal_seen {x : MemAct} {y : MemOp} (h : Seal E t x X) (hn : ∀ m, t.act? m = some x → Notices (t ++ #[y]) m t.size) (hd : Deaf t y.g = 0) (hm : y.act.touch? = none) : KB E (t ++ #[y]) X (Knows (t ++ #[y]) y.g) := by
  obtain ⟨m, h1, h2, h3⟩ := h
  refine h3.app (g := y.g) (fun op hop => by have : op = y := by simpa using hop
                                             rw [this]) (fun _ j op hj => .inl ?_) fun i hi => knows_edge (act_lt h1) h2 hd (hn m h1) hi
  have : op = y := by
    have := Array.mem_of_getElem? hj
    simpa using this
  rw [this]; exact hm
theorem notices_closed {m c : Nat} {y : MemOp} (h : t.act? m = some (.close c)) (hy : y.act = .recvClosed c) : Notices (t ++ #[y]) m t.size :=
  .closed (c := c) (by rw [act_old (act_lt h)]; exact h) (by rw [act?_of (last_op t y), hy])
theorem notices_merged {m : Nat} {a : Addr} {y : MemOp} (h : t.act? m = some (.mark (.releaseMerge a))) (hnr : ∀ k, t.act? k ≠ some (.mark (.release a))) (hy : y.act = .mark (.acquire a)) : Notices (t ++ #[y]) m t.size :=
  .marked (a := a) (act_lt h) (.inr (by rw [act_old (act_lt h)]; exact h)) (by rw [act?_of (last_op t y), hy]) fun k _ hk => by rw [act_old hk]; exact hnr k
/-- Deaf atomic touches of the group's, and marks. -/
theorem hush_of {fn : FuncId} {pos : String} {es : Array Event} (hes : ∀ j e, es[j]? = some e → (MemAct.ofEvent e).touch? = none ∨ ((∃ ad wr, e = ⟨.cell ad, wr, true⟩ ∧ ad.block = E.Wg) ∧ 0 < deafBehind (Deaf t g) (es.extract 0 j))) : Hush E t (MemOp.ofEvents g fn pos es) := by
  intro j op hj
  rw [ofEvents_eq] at hj
  rw [Array.getElem?_map] at hj
  obtain ⟨e, he, rfl⟩ := Option.map_eq_some_iff.1 hj
  rcases hes j e he with h | ⟨⟨ad, wr, rfl, hb⟩, hd⟩
  · exact .inl h
  · refine .inr ⟨⟨.cell ad, wr, .atomic⟩, by rw [Go.ConcR.ofEvent_cell]; rfl, rfl, ⟨ad, rfl, hb⟩, ?_⟩
    rintro ⟨g', hg', hd'⟩
    have hjl : j < (MemOp.ofEvents g fn pos es).size := by
      rw [ofEvents_eq, Array.size_map]; exact (Array.getElem?_eq_some_iff.1 he).1
    have e1 : (t ++ MemOp.ofEvents g fn pos es).g? (t.size + j) = some g := by
      simp only [Trace.g?]
      rw [Array.getElem?_append_right (by omega), show t.size + j - t.size = j by omega, ofEvents_eq, Array.getElem?_map, he]
      rfl
    rw [e1] at hg'
    cases hg'
    have e2 : (t ++ MemOp.ofEvents g fn pos es).deaf g (t.size + j) = deafBehind (Deaf t g) (es.extract 0 j) := by
      rw [← Deaf_own t g fn pos (es.extract 0 j)]
      have e3 : t ++ MemOp.ofEvents g fn pos es = (t ++ MemOp.ofEvents g fn pos (es.extract 0 j)) ++ MemOp.ofEvents g fn pos (es.extract j es.size) := by
        rw [Array.append_assoc]
        congr 1
        simp only [ofEvents_eq]
        rw [← Array.map_append]
        congr 1
        have hjs : j ≤ es.size := Nat.le_of_lt (Array.getElem?_eq_some_iff.1 he).1
        simp [hjs]
      have hjs : j ≤ es.size := Nat.le_of_lt (Array.getElem?_eq_some_iff.1 he).1
      have e4 : (t ++ MemOp.ofEvents g fn pos (es.extract 0 j)).size = t.size + j := by
        rw [Array.size_append, ofEvents_eq, Array.size_map, Array.size_extract]
        omega
      rw [e3, deaf_old (by omega)]
      unfold Deaf
      rw [e4]
    rw [e2] at hd'
    omega
end
end Go.Proofs.Ytiobhgemjbjipaa
