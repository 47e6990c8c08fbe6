/- What Read, All, Safe, Sync of sect.File, sector, sectors, bytes.Equal compute. Conditions stand as premises. -/
import Derived.Test.YtenikpbnggkmgaaSectW
import Derived.Outline
namespace Go.Proofs.Ytenikpbnggkmgaa
open Go.ChangeShapes Go.WideShapes Go.ChangeAt Go.RowKit
set_option linter.unusedVariables false

theorem sectall (base p : Nat) (b s : List Int) (F : Nat → Prop) (w : World) (h : FileS w base p b s F) :
    Calls Try.prog 12 #[.pointer (some ⟨p, 0, none⟩)] w (NewB w.heap.size w b) := by
  obtain ⟨a, n, c, a', n', c', h1, h2⟩ := h
  have hc := h1.c0
  have hlb := h1.lb
  have H := Lib.hid (clone_any a n c b w h1.x.rd (by have := h1.x.len; omega))
  clear h1 h2
  go_enter Try.func12, Try.ntmps12
  go_wp2_with fail
  refine H.out.mono ?_
  rintro e w' ⟨a1, c1, rfl, ho, hb⟩
  go_wp2_with fail
  go_ret
  exact ⟨a1, c1, rfl, ho, hb⟩

theorem sectsafe (base p : Nat) (b s : List Int) (F : Nat → Prop) (w : World) (h : FileS w base p b s F) :
    Calls Try.prog 15 #[.pointer (some ⟨p, 0, none⟩)] w (NewB w.heap.size w s) := by
  obtain ⟨a, n, c, a', n', c', h1, h2⟩ := h
  have hc := h1.c1
  have hlb := h1.ls
  have H := Lib.hid (clone_any a' n' c' s w h1.y.rd (by have := h1.y.len; omega))
  clear h1 h2
  go_enter Try.func15, Try.ntmps15
  go_wp2_with fail
  refine H.out.mono ?_
  rintro e w' ⟨a1, c1, rfl, ho, hb⟩
  go_wp2_with fail
  go_ret
  exact ⟨a1, c1, rfl, ho, hb⟩

theorem sectsync (base p : Nat) (b s : List Int) (F : Nat → Prop) (w : World) (h : FileS w base p b s F) :
    Calls Try.prog 14 #[.pointer (some ⟨p, 0, none⟩)] w fun e w' => e = .returned (.tuple #[]) ∧ FileStep w base p F b b w' := by
  obtain ⟨a, n, c, a', n', c', h1, h2⟩ := h
  have hc := h1.c0
  have hlb := h1.lb
  have hlt := h1.lt
  have hc1 := h1.c1
  have hf1 := h1.f1
  have H := Lib.hid (clone_any a n c b w h1.x.rd (by have := h1.x.len; omega))
  have H1 := Lib.hid h1
  clear h1
  go_enter Try.func14, Try.ntmps14
  go_wp2_with fail
  refine H.out.mono ?_
  rintro e w' ⟨a1, c1, rfl, ho, hb⟩
  have q0 := bcell hb hlt hc1
  have q1 := bfree hb hlt hf1
  obtain ⟨g1, g2, g3⟩ := H1.out.turn1 hb ho hlb
  have G1 := Lib.hid g1
  have G2 := Lib.hid g2
  have G3 := Lib.hid g3
  clear g1 g2 g3 hb ho
  go_wp2_with fail
  go_end0
  exact ⟨rfl, _, ⟨_, _, _, _, _, _, G1.out, fun j => Iff.rfl⟩, G2.out.mono (fun k _ hk => (h2 _).2 hk), fun j hj => (G3.out j hj).imp (h2 j).2 id⟩

/-- Where a cut begins. -/
def cutA (a : Option Addr) (c lo : Nat) : Option Addr := if c = lo then a else a.map (·.add lo)
theorem cutA_rd {w : World} {a : Option Addr} {n c : Nat} {l : List Int} (h : RdB w a n c l) (lo hi : Nat) (h1 : lo ≤ hi) (h2 : hi ≤ n) : RdB w (cutA a c lo) (hi - lo) (c - lo) ((l.drop lo).take (hi - lo)) := h.sliced lo hi h1 h2

section
variable {P : Program} {w : World} {ops : Array Oper} {rest : List Oper} {o : Oper} {a : Act} {Q : Exit → Act → World → Prop}
/-- A cut by both ends: its address spelt out. -/
theorem wpList_cutX (hgd : o.guard = none) {t : TypeId} {x lo hi : Operand} (ho : o.op = .slice t x (some lo) (some hi) none)
    {e : TypeId} {bytes : Nat} (hI : OneInfo P t e bytes) {xa : Option Addr} {xn xc : Nat} (hx : a.eval x = .slice xa xn xc) {kl kh : IntKind} {il ih : Int} (hlo : a.eval lo = .int kl il) (hhi : a.eval hi = .int kh ih)
    (h0 : 0 ≤ il) (h1 : il ≤ ih) (h2 : ih ≤ xc)
    (h : wpList P ops Q rest (a.put o.dst (.slice (cutA xa xc il.toNat) (ih.toNat - il.toNat) (xc - il.toNat))) w) : wpList P ops Q (o :: rest) a w := by
  have ht : P.underlying t = some (.slice (P.elem t)) := by rw [elem_of hI.1]; exact hI.1
  have hrun := run_slice_lh (P := P) (w := w) t xa xn xc ht kl kh il ih h0 h1 (by omega)
  rw [sizeOf_one hI] at hrun
  have hat := run_sliceAt_slice (P := P) (w := w) t (.slice xa xn xc) (some (.int kl il)) (some (.int kh ih)) none ht
  refine wpList_plain hgd fun K hK => ?_
  unfold Oper.wp
  simp only [execOp, ho, hx, hlo, hhi, Option.map_some, Option.map_none, Sem.run_bind, hat, hrun, Result.andThen, Sem.run_pure, sliced, Nat.mul_one]
  exact hK _ _ h
end

/-- Where a sector lies. -/
def secAt (a : Option Addr) (n c i : Nat) : Value := .slice (cutA a c (min (512 * i) n)) (min (min (512 * i) n + 512) n - min (512 * i) n) (c - min (512 * i) n)
theorem secAt_rd {w : World} {a : Option Addr} {n c : Nat} {l : List Int} (h : RdB w a n c l) (i : Nat) : RdB w (cutA a c (min (512 * i) n)) (min (min (512 * i) n + 512) n - min (512 * i) n) (c - min (512 * i) n) (sec l i) := by
  have h1 := cutA_rd h (min (512 * i) n) (min (min (512 * i) n + 512) n) (by omega) (by omega)
  have hl := h.len
  have e : (l.drop (min (512 * i) n)).take (min (min (512 * i) n + 512) n - min (512 * i) n) = sec l i := by
    unfold sec
    by_cases h5 : n ≤ 512 * i
    · rw [Nat.min_eq_right h5, List.drop_of_length_le (by omega), List.drop_of_length_le (by omega)]; simp
    · rw [Nat.min_eq_left (show 512 * i ≤ n by omega)]
      by_cases h6 : n ≤ 512 * i + 512
      · rw [Nat.min_eq_right h6, List.take_of_length_le (by simp; omega), List.take_of_length_le (by simp; omega)]
      · rw [Nat.min_eq_left (by omega), Nat.add_sub_cancel_left]
  rwa [e] at h1

theorem sector_any (a : Option Addr) (n c i : Nat) (l : List Int) (w : World) (hr : RdB w a n c l) (hi : i ≤ 10000) (hn : n ≤ 140737488351232) :
    Calls Try.prog 31 #[.slice a n c, .int .i64 i] w fun e w' => e = .returned (secAt a n c i) ∧ w = w' := by
  have hcap := hr.2.2.1
  clear hr
  by_cases hA : (n : Int) < (i : Int) * 512
  · have hA2 : (n : Int) < (n : Int) + 512 := by omega
    have HV := Lib.hid (show secAt a n c i = .slice (cutA a c n) 0 (c - n) by unfold secAt; rw [Nat.min_eq_right (show n ≤ 512 * i by omega), Nat.min_eq_right (show n ≤ n + 512 by omega), Nat.sub_self])
    go_enter Try.func31, Try.ntmps31
    go_wp2_with (with_reducible refine wpList_cutX rfl rfl Try.oneB rfl rfl rfl (by omega) (by omega) (by omega) ?_)
    go_ret
    exact ⟨by rw [HV.out]; rfl, rfl⟩
  · have hB : (i : Int) * 512 ≤ n := by omega
    clear hA
    by_cases hC : (n : Int) < (i : Int) * 512 + 512
    · have HV := Lib.hid (show secAt a n c i = .slice (cutA a c (i * 512)) (n - i * 512) (c - i * 512) by unfold secAt; rw [Nat.mul_comm i 512, Nat.min_eq_left (show 512 * i ≤ n by omega), Nat.min_eq_right (show n ≤ 512 * i + 512 by omega)])
      go_enter Try.func31, Try.ntmps31
      go_wp2_with (with_reducible refine wpList_cutX rfl rfl Try.oneB rfl rfl rfl (by omega) (by omega) (by omega) ?_)
      go_ret
      exact ⟨by rw [HV.out]; rfl, rfl⟩
    · have hD : (i : Int) * 512 + 512 ≤ n := by omega
      have HV := Lib.hid (show secAt a n c i = .slice (cutA a c (i * 512)) (i * 512 + 512 - i * 512) (c - i * 512) by unfold secAt; rw [Nat.mul_comm i 512, Nat.min_eq_left (show 512 * i ≤ n by omega), Nat.min_eq_left (show 512 * i + 512 ≤ n by omega)])
      clear hC
      go_enter Try.func31, Try.ntmps31
      go_wp2_with (with_reducible refine wpList_cutX rfl rfl Try.oneB rfl rfl rfl (by omega) (by omega) (by omega) ?_)
      go_ret
      exact ⟨by rw [HV.out]; rfl, rfl⟩

theorem equal_any (a1 a2 : Option Addr) (n1 c1 n2 c2 : Nat) (l1 l2 : List Int) (w : World) (h1 : RdB w a1 n1 c1 l1) (h2 : RdB w a2 n2 c2 l2) :
    Calls Try.prog 30 #[.slice a1 n1 c1, .slice a2 n2 c2] w fun e w' => e = .returned (.bool (decide (l1 = l2))) ∧ w = w' := by
  have H := Lib.hid (bstr_same h1.1 h2.1)
  go_enter Try.func30, Try.ntmps30
  go_wp2_with (first | (with_reducible refine wpList_bytesString rfl rfl Try.underlying22 Try.underlying5 Try.underlying9 rfl h1 ?_) | (with_reducible refine wpList_bytesString rfl rfl Try.underlying22 Try.underlying5 Try.underlying9 rfl h2 ?_))
  go_ret
  exact ⟨ret_bool H.out, rfl⟩

theorem sectors_any (base p : Nat) (b s : List Int) (F : Nat → Prop) (w : World) (h : FileS w base p b s F) :
    Calls Try.prog 29 #[.pointer (some ⟨p, 0, none⟩)] w fun e w' => e = .returned (.int .i64 (nsec b s)) ∧ Below w.heap.size w w' := by
  obtain ⟨a, n, c, a', n', c', h1, h2⟩ := h
  have hc0 := h1.c0
  have hc1 := h1.c1
  have hlb := h1.lb
  have hls := h1.ls
  obtain rfl : b.length = n := h1.x.len
  obtain rfl : s.length = n' := h1.y.len
  clear h1 h2
  by_cases hA : (b.length : Int) < (s.length : Int)
  · have HN := Lib.hid (show ((s.length : Int) + 512 - 1) / 512 = ((nsec b s : Nat) : Int) by unfold nsec; omega)
    have HN2 := Lib.hid (show ((s.length : Int) + 511) / 512 = ((nsec b s : Nat) : Int) by unfold nsec; omega)
    go_enter Try.func29, Try.ntmps29
    go_wp2_with fail
    go_quiet (fail)
    go_wp2_with fail
    go_ret
    exact ⟨ret_int HN.out, Below.drewN' _ _⟩
  · have hB : (s.length : Int) ≤ b.length := by omega
    have HN := Lib.hid (show ((b.length : Int) + 512 - 1) / 512 = ((nsec b s : Nat) : Int) by unfold nsec; omega)
    clear hA
    go_enter Try.func29, Try.ntmps29
    go_wp2_with fail
    go_quiet (fail)
    go_wp2_with fail
    go_ret
    exact ⟨ret_int HN.out, Below.drewN' _ _⟩
end Go.Proofs.Ytenikpbnggkmgaa
