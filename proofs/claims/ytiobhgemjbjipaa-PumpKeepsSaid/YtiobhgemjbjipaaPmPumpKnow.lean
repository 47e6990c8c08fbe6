/- Who knows what over a synchronising edge: a send that is met, a close that is seen, a release that is acquired, a start. Conditions stand as premises. -/
import Derived.Test.YtiobhgemjbjipaaPmPumpTrace
import Derived.Conc.CrowdCom2
namespace Go.Proofs.Ytiobhgemjbjipaa
open Go.Conc
open Go.ConcN (PermW fork_knows)
set_option linter.unusedVariables false
set_option linter.unusedSimpArgs false
section
variable {t u : Trace} {m i c : Nat} {y : MemOp}
theorem act_old (h : m < t.size) : (t ++ u).act? m = t.act? m := by simp [Trace.act?, getElem?_append_old h]
theorem act_lt {a : MemAct} (h : t.act? m = some a) : m < t.size := by
  unfold Trace.act? at h
  cases ho : t[m]? with
  | none => rw [ho] at h; cases h
  | some op => exact lt_size_of_getElem? ho
theorem heard_old (h : m < t.size) (hh : t.heard m) : (t ++ u).heard m := by
  obtain ⟨g, h1, h2⟩ := hh
  exact ⟨g, by simpa [Trace.g?, getElem?_append_old h] using h1, by rw [deaf_old (Nat.le_of_lt h)]; exact h2⟩
theorem last_op (t : Trace) (y : MemOp) : (t ++ #[y])[t.size]? = some y := by simp
theorem heard_last (hd : Deaf t y.g = 0) : (t ++ #[y]).heard t.size :=
  ⟨y.g, by simp [Trace.g?], by rw [deaf_old (Nat.le_refl _)]; exact hd⟩
/-- An edge from m to the operation that comes last: its goroutine knows all that stands before m. -/
theorem knows_edge (hm : m < t.size) (hh : t.heard m) (hd : Deaf t y.g = 0) (hn : Notices (t ++ #[y]) m t.size) (hb : Before t i m) : Knows (t ++ #[y]) y.g i :=
  ⟨t.size, y, last_op t y, rfl, .inr ((hb.app #[y]).hb (.single (.inr ⟨hn, heard_old hm hh, heard_last hd⟩)))⟩
/-- A close that is seen. -/
theorem knows_closed (h : t.act? m = some (.close c)) (hh : t.heard m) (hy : y.act = .recvClosed c) (hd : Deaf t y.g = 0) (hb : Before t i m) : Knows (t ++ #[y]) y.g i :=
  knows_edge (act_lt h) hh hd (.closed (c := c) (by rw [act_old (act_lt h)]; exact h) (by rw [act?_of (last_op t y), hy])) hb
/-- A release and merge that is acquired. -/
theorem knows_merged {a : Addr} (h : t.act? m = some (.mark (.releaseMerge a))) (hh : t.heard m) (hnr : ∀ k, t.act? k ≠ some (.mark (.release a))) (hy : y.act = .mark (.acquire a)) (hd : Deaf t y.g = 0) (hb : Before t i m) : Knows (t ++ #[y]) y.g i :=
  knows_edge (act_lt h) hh hd (.marked (a := a) (act_lt h) (.inr (by rw [act_old (act_lt h)]; exact h)) (by rw [act?_of (last_op t y), hy]) fun k _ hk => by rw [act_old hk]; exact hnr k) hb
/-- What a goroutine knows stands before whatever it does next. -/
theorem before_last (h : Knows t y.g i) : Before (t ++ #[y]) i t.size := .inr (h.hb_new (Nat.le_refl _) (last_op t y) rfl)
/-- A send that is met: the receiver knows what the sender knew. -/
theorem knows_met {x1 x2 x3 x4 : MemOp} {a b k : Nat} (h1 : x1.g = a ∧ x1.act = .send c k) (h2 : x2.act ≠ .mark .disable ∧ x2.act ≠ .mark .enable) (h3 : x3.act ≠ .mark .disable ∧ x3.act ≠ .mark .enable) (h4 : x4.g = b ∧ x4.act = .recvDone c k) (ha : Deaf t a = 0) (hb : Deaf t b = 0)
    (h : Knows t a i) : Knows (t ++ #[x1, x2, x3, x4]) b i := by
  have e : t ++ #[x1, x2, x3, x4] = (t ++ #[x1, x2, x3]) ++ #[x4] := by simp
  have hx1 : (t ++ #[x1, x2, x3])[t.size]? = some x1 := by rw [Array.getElem?_append_right (Nat.le_refl _)]; simp
  have hst : ∀ g, Deaf (t ++ #[x1, x2, x3]) g = Deaf t g := fun g => Go.ConcN.Deaf_still t g _ fun op hop => by
    simp only [List.mem_toArray, List.mem_cons, List.not_mem_nil, or_false] at hop
    rcases hop with rfl | rfl | rfl
    · rw [h1.2]; exact ⟨by simp, by simp⟩
    · exact h2
    · exact h3
  rw [e, ← h4.1]
  refine knows_edge (m := t.size) (by simp) ⟨a, by simp [Trace.g?, hx1, h1.1], by rw [deaf_old (Nat.le_refl _)]; exact ha⟩ (by rw [hst, h4.1]; exact hb) (.handOver (c := c) (k := k) ?_ ?_) (.inr (h.hb_new (Nat.le_refl _) hx1 h1.1))
  · rw [act_old (by simp), act?_of hx1, h1.2]
  · rw [act?_of (last_op _ x4), h4.2]
end
end Go.Proofs.Ytiobhgemjbjipaa
