/- Contracts and plain laws that this claim uses, each with its conditions as premises. -/
import Derived.Test.YtpkmdnfkeebgbaaJm11
import Derived.Deep.CutBlock
/- Plain law: the code of a head that was written wrongly. No program in sight; conditions stand as premises. -/
namespace Go.Proofs.Ytpkmdnfkeebgbaa
set_option linter.unusedVariables false
set_option linter.unusedSimpArgs false
theorem xor255 : ∀ n : Fin 256, bits .xor .u8 ((n.val : Nat) : Int) 255 = 255 - ((n.val : Nat) : Int) := by decide +kernel
theorem xor_255 {v : Int} (h : 0 ≤ v ∧ v ≤ 255) : bits .xor .u8 v 255 = 255 - v := by
  obtain ⟨n, rfl⟩ := Int.eq_ofNat_of_zero_le h.1
  exact xor255 ⟨n, by omega⟩
theorem IsB.set {l : List Int} (h : IsB l) (k : Nat) {v : Int} (hv : 0 ≤ v ∧ v ≤ 255) : IsB (l.set k v) := fun x hx => by
  rcases List.mem_or_eq_of_mem_set hx with hx | rfl
  · exact h x hx
  · exact hv
theorem sign_at {l : List Int} (h : l.take 8 = signL) (k : Nat) (hk : k < 8) : l[k]? = signL[k]? := by rw [← h, List.getElem?_take, if_pos hk]
theorem sign_wrong : ∀ k : Fin 8, signL.set k.val (255 - signL[k.val]?.getD 0) ≠ signL := by decide +kernel
section
variable {l : List Int} {co inc : Int} {I Ns : List Int} {ta ti te : Int} {D F : Nat} {body : List Int}
theorem JB.w0 (h : JB l co inc I Ns ta ti te D F body) {B : Nat} (hB : B ≤ 7) : headC (l.set B (255 - l[B]?.getD 0)) = 6 := by
  have hl := h.hb.len
  refine headC_magic (by rw [List.length_set]; omega) ?_
  rw [List.take_set, h.hb.take8, sign_at h.hb.take8 B (by omega)]
  exact sign_wrong ⟨B, by omega⟩
theorem or_ok : ∀ n : Fin 5, (n.val = 0 ∨ n.val = 4) → ∀ m : Fin 4, (0 ≤ bits .or .u8 ((n.val : Nat) : Int) (8 * 2 ^ m.val) ∧ bits .or .u8 ((n.val : Nat) : Int) (8 * 2 ^ m.val) ≤ 255) ∧ flI (bits .or .u8 ((n.val : Nat) : Int) (8 * 2 ^ m.val)) ≠ 0 := by decide +kernel
theorem or_flag {inc : Int} (h : inc = 0 ∨ inc = 4) (m : Nat) (hm : m < 4) : (0 ≤ bits .or .u8 inc (8 * 2 ^ m) ∧ bits .or .u8 inc (8 * 2 ^ m) ≤ 255) ∧ flI (bits .or .u8 inc (8 * 2 ^ m)) ≠ 0 := by
  rcases h with rfl | rfl
  · exact or_ok ⟨0, by omega⟩ (.inl rfl) ⟨m, hm⟩
  · exact or_ok ⟨4, by omega⟩ (.inr rfl) ⟨m, hm⟩
theorem JB.dropB (h : JB l co inc I Ns ta ti te D F body) : l.drop 272 = body := by
  rw [h.eq]
  exact List.drop_left' (by rw [headB_length h.il, h.nl])
theorem JB.i4 (h : JB l co inc I Ns ta ti te D F body) : (l.drop 12).take 4 = digs 4 inc := by
  rw [h.eq]; unfold headB headA
  simp only [List.append_assoc]
  rw [← List.append_assoc signL]
  exact mid (by rw [List.length_append, digs_length]; rfl) (digs_length _ _)
theorem JB.at12 (h : JB l co inc I Ns ta ti te D F body) : l[12]? = some inc := by
  have e : ((l.drop 12).take 4)[0]? = l[12]? := by rw [List.getElem?_take, if_pos (by omega), List.getElem?_drop]
  rw [← e, h.i4]
  rcases h.inc with e | e <;> rw [e] <;> decide +kernel
theorem JB.w1 (h : JB l co inc I Ns ta ti te D F body) {x : Int} (hx : flI x ≠ 0) : headC (l.set 12 x) = 7 := by
  have hl := h.hb.len
  have hg : gN (l.set 12 x) 12 4 = x := by
    unfold gN
    rw [List.drop_set, if_neg (by omega), List.take_set, h.i4]
    rcases h.inc with e | e <;> rw [e] <;> simp [digs, leN]
  unfold headC
  rw [if_neg (by rw [List.length_set]; omega), if_neg (by rw [List.take_set_of_le (by omega)]; simpa using h.hb.take8), hg, if_pos hx]
theorem JB.w2 (h : JB l co inc I Ns ta ti te D F body) {x : Int} (hx : 2 < x) : headC (l.set 16 x) = 8 := by
  have hl := h.hb.len
  have hg : gN (l.set 16 x) 12 4 = inc := by
    unfold gN
    rw [List.drop_set, if_neg (by omega), List.take_set_of_le (by omega), h.i4]
    rcases h.inc with e | e <;> rw [e] <;> simp [digs, leN]
  unfold headC
  rw [if_neg (by rw [List.length_set]; omega), if_neg (by rw [List.take_set_of_le (by omega)]; simpa using h.hb.take8), hg, flI_0 h.inc, if_neg (by decide), List.getElem?_set_self (by omega), if_pos (by simpa using hx)]
theorem JB.w3 (h : JB l co inc I Ns ta ti te D F body) (k : Nat) {v : Int} (hv : U64 v) : HBo (headB co inc 1 I (Ns.set k v) ta ti te ++ body) co inc 1 I (Ns.set k v) ta ti te body :=
  { h.hb with
    eq := rfl
    nl := by rw [List.length_set, h.nl]
    nu := fun x hx => by
      rcases List.mem_or_eq_of_mem_set hx with hx | rfl
      · exact h.nu x hx
      · exact hv }
theorem JB.c0 (h : JB l co inc I Ns ta ti te D F body) {B : Nat} (h1 : 1 ≤ B) (h2 : B ≤ 7) : headC (headB co inc 1 I (Ns.set 0 (272 + (B : Int))) ta ti te ++ body) = 5 := by
  have hn := h.nl
  rw [(h.w3 0 (v := 272 + (B : Int)) ⟨by omega, by omega⟩).code (List.getElem?_set_self (by omega)) (by rw [List.getElem?_set_ne (by omega)]; exact h.n1) (by rw [List.getElem?_set_ne (by omega)]; exact h.n2) (by rw [List.getElem?_set_ne (by omega)]; exact h.n3) (by rw [List.getElem?_set_ne (by omega)]; exact h.n4) (by rw [List.getElem?_set_ne (by omega)]; exact h.n5)]
  unfold headF
  rw [flI_0 h.inc, if_neg (by decide), if_neg (by decide), if_neg (by omega), if_pos (by omega)]
theorem JB.c1 (h : JB l co inc I Ns ta ti te D F body) {B : Nat} (h1 : 1 ≤ B) (h2 : B ≤ 7) : headC (headB co inc 1 I (Ns.set 1 ((body.length : Int) + 8 * (B : Int))) ta ti te ++ body) = 2 := by
  have hn := h.nl
  have hhi := h.hi
  have hmd := h.md
  rw [(h.w3 1 (v := (body.length : Int) + 8 * (B : Int)) ⟨by omega, by omega⟩).code (by rw [List.getElem?_set_ne (by omega)]; exact h.n0) (List.getElem?_set_self (by omega)) (by rw [List.getElem?_set_ne (by omega)]; exact h.n2) (by rw [List.getElem?_set_ne (by omega)]; exact h.n3) (by rw [List.getElem?_set_ne (by omega)]; exact h.n4) (by rw [List.getElem?_set_ne (by omega)]; exact h.n5)]
  exact headF_short (D := 0) (F := 0) h.inc (by omega) (by omega) (by omega) (by omega) _ _ _ _
theorem JB.c2 (h : JB l co inc I Ns ta ti te D F body) {B : Nat} (h1 : 1 ≤ B) (h2 : B ≤ 7) : headC (headB co inc 1 I (Ns.set 2 (288 + (B : Int))) ta ti te ++ body) = 3 := by
  have hn := h.nl
  have hhi := h.hi
  have hmd := h.md
  rw [(h.w3 2 (v := 288 + (B : Int)) ⟨by omega, by omega⟩).code (by rw [List.getElem?_set_ne (by omega)]; exact h.n0) (by rw [List.getElem?_set_ne (by omega)]; exact h.n1) (List.getElem?_set_self (by omega)) (by rw [List.getElem?_set_ne (by omega)]; exact h.n3) (by rw [List.getElem?_set_ne (by omega)]; exact h.n4) (by rw [List.getElem?_set_ne (by omega)]; exact h.n5)]
  have e1 : endB 272 (body.length : Int) = true := by unfold endB; simp; omega
  have e2 : endV 272 (body.length : Int) = 272 + (body.length : Int) := by unfold endV; rw [if_neg (by omega)]
  have t1 : tabV (288 + (B : Int)) (16 * (D : Int)) 272 (272 + (body.length : Int)) = 3 := by unfold tabV; rw [if_pos (by omega)]
  unfold headF
  rw [e1, e2, t1, flI_0 h.inc]
  simp <;> omega
theorem JB.c5 (h : JB l co inc I Ns ta ti te D F body) {B : Nat} (h1 : 1 ≤ B) (h2 : B ≤ 7) : headC (headB co inc 1 I (Ns.set 5 (16 * (F : Int) + (B : Int))) ta ti te ++ body) = 5 := by
  have hn := h.nl
  have hhi := h.hi
  have hmd := h.md
  have hlo := h.lo
  have hdr := h.dr
  have hfr := h.fr
  rw [(h.w3 5 (v := 16 * (F : Int) + (B : Int)) ⟨by omega, by omega⟩).code (by rw [List.getElem?_set_ne (by omega)]; exact h.n0) (by rw [List.getElem?_set_ne (by omega)]; exact h.n1) (by rw [List.getElem?_set_ne (by omega)]; exact h.n2) (by rw [List.getElem?_set_ne (by omega)]; exact h.n3) (by rw [List.getElem?_set_ne (by omega)]; exact h.n4) (List.getElem?_set_self (by omega))]
  have e1 : endB 272 (body.length : Int) = true := by unfold endB; simp; omega
  have e2 : endV 272 (body.length : Int) = 272 + (body.length : Int) := by unfold endV; rw [if_neg (by omega)]
  have t1 : tabV 288 (16 * (D : Int)) 272 (272 + (body.length : Int)) = 0 := by unfold tabV; rw [if_neg (by omega), if_neg (by omega), if_neg (by omega)]
  have t2 : tabV (304 + 16 * (D : Int)) (16 * (F : Int) + (B : Int)) 272 (272 + (body.length : Int)) = 5 := by unfold tabV; rw [if_neg (by omega), if_pos (by omega)]
  unfold headF
  rw [e1, e2, t1, t2, flI_0 h.inc]
  simp <;> omega
theorem JB.c4 (h : JB l co inc I Ns ta ti te D F body) {B : Nat} (h1 : 1 ≤ B) (h2 : B ≤ 7) : headC (headB co inc 1 I (Ns.set 4 (8 * (B : Int))) ta ti te ++ body) = 2 := by
  have hn := h.nl
  have hhi := h.hi
  have hmd := h.md
  have hlo := h.lo
  have hdr := h.dr
  have hfr := h.fr
  rw [(h.w3 4 (v := 8 * (B : Int)) ⟨by omega, by omega⟩).code (by rw [List.getElem?_set_ne (by omega)]; exact h.n0) (by rw [List.getElem?_set_ne (by omega)]; exact h.n1) (by rw [List.getElem?_set_ne (by omega)]; exact h.n2) (by rw [List.getElem?_set_ne (by omega)]; exact h.n3) (List.getElem?_set_self (by omega)) (by rw [List.getElem?_set_ne (by omega)]; exact h.n5)]
  have e1 : endB 272 (body.length : Int) = true := by unfold endB; simp; omega
  have e2 : endV 272 (body.length : Int) = 272 + (body.length : Int) := by unfold endV; rw [if_neg (by omega)]
  have t1 : tabV 288 (16 * (D : Int)) 272 (272 + (body.length : Int)) = 0 := by unfold tabV; rw [if_neg (by omega), if_neg (by omega), if_neg (by omega)]
  have t2 : tabV (8 * (B : Int)) (16 * (F : Int)) 272 (272 + (body.length : Int)) = 2 := by unfold tabV; rw [if_neg (by omega), if_neg (by omega), if_pos (by omega)]
  unfold headF
  rw [e1, e2, t1, t2, flI_0 h.inc]
  simp <;> omega
end
end Go.Proofs.Ytpkmdnfkeebgbaa

/- The law HeadWrong answers yes. Conditions stand as premises. -/
namespace Go.Proofs.Ytpkmdnfkeebgbaa
open Go.ChangeShapes Go.WideShapes Go.ChangeAt Go.RowKit
set_option linter.unusedVariables false
set_option linter.unusedSimpArgs false
theorem Try.builtZH : Try.prog.built 29 [] = some zeroH.toArray := by kernel_rfl
section
variable {w : World} {ops : Array Oper} {rest : List Oper} {o : Oper} {a : Act} {Q : Exit → Act → World → Prop}
theorem wpList_headEqlG (hw : Region.wanted o (yielded ops a.tmps) = true) {t2 : TypeId} {x y : Operand} (ho : o.op = .binOp .eql 29 x y t2) {cs : List Value} (h : HeadOK cs) (hx : a.eval x = .agg cs.toArray) (hy : a.eval y = .agg cs.toArray)
    (hk : wpList Try.prog ops Q rest (a.put o.dst (.bool true)) w) : wpList Try.prog ops Q (o :: rest) a w :=
  BigFrame.wpList_want hw fun _ hK => by
    unfold Oper.wp execOp
    simp only [ho, hx, hy, Sem.run_bind, run_eqGuard_agg _ _ _ _ _ _ _ Try.headG, Result.andThen_ok, run_eql_struct, head_eql h w, Sem.run_pure]
    exact hK _ _ hk
theorem wpList_buildSG (hw : Region.wanted o (yielded ops a.tmps) = true) {t : TypeId} {parts : Array (Nat × Operand)} (ho : o.op = .build t parts) {cells : Array Value} (hf : Try.prog.built t (parts.map fun (i, x) => (i, a.eval x)).toList = some cells)
    (h : wpList Try.prog ops Q rest (a.put o.dst (.agg cells)) w) : wpList Try.prog ops Q (o :: rest) a w :=
  BigFrame.wpList_want hw fun _ hK => wp_build t parts ho (by rw [hf]; rfl) (by rw [hf]; exact hK _ _ h)
end
/-- What is read wrongly, and by which code. -/
def WrongE (w0 wx : World) (s1 s2 : Value) : Prop := ∃ (want : Int) (a : Option Addr) (n c : Nat) (lc : List Int), s1 = .int .i64 want ∧ s2 = .slice a n c ∧ RdB wx a n c lc ∧ headC lc = want ∧ want ≠ 0 ∧ n ≤ 50000 ∧ Below w0.heap.size w0 wx
theorem WrongE.flag {w w6 : World} {g6 c6 : Nat} {l : List Int} {co inc : Int} {I Ns : List Int} {ta ti te : Int} {D F : Nat} {body : List Int} {x y : Int} (hj : JB l co inc I Ns ta ti te D F body) (ho : OwnB 5 w6 w.heap.size (some ⟨g6, 0, none⟩) l.length c6 l) (hb : Below w.heap.size w w6) (hg : w.heap.size ≤ g6) (hln : l.length ≤ 41000) (hx : (0 ≤ x ∧ x ≤ 255) ∧ flI x ≠ 0) (hy : y = x) :
    WrongE w (w6.setCell ⟨g6, 12, none⟩ (.int .u8 y)) (.int .i64 7) (.slice (some ⟨g6, 0, none⟩) l.length c6) := by
  subst hy
  exact ⟨7, some ⟨g6, 0, none⟩, l.length, c6, l.set 12 y, rfl, rfl, ⟨ho.1.set 12 hx.1, (ho.2.set 12 _).rd⟩, hj.w1 hx.2, by decide, by omega, hb.trans ((Upd.setCell (F := (· = g6)) w6 ⟨g6, 12, none⟩ _ rfl).below (B := w.heap.size) hb.size (fun k hk => by rw [hk]; exact hg))⟩
set_option maxRecDepth 100000 in
set_option maxHeartbeats 8000000 in
theorem headwrong_yes (a0 : Option Addr) (n0 c0 : Nat) (L : List Int) (which by_ : Int) (w : World) (hr0 : Rd (Value.int .i64) w a0 n0 c0 L) (hL : ∀ x ∈ L, I64 x) :
    Calls Try.prog 6 #[.slice a0 n0 c0, .int .i64 which, .int .i64 by_] w fun e w' => e = .returned (.bool true) ∧ Below w.heap.size w w' := by
  have H0 := Lib.hid hr0
  have HL := Lib.hid hL
  clear hr0 hL
  go_enter Try.func6, Try.ntmps6
  by_cases hn0 : 60 < n0
  · have hd0 : decide ((60 : Int) < (n0 : Int)) = true := decide_eq_true (by omega)
    have hd0' : decide (60 < n0) = true := decide_eq_true hn0
    go_wp2_with (go_at_call 7; refine (first_any _).mono ?_; rintro e w2 ⟨rfl, hb2⟩)
    go_ret
    exact ⟨rfl, hb2⟩
  have hd0 : decide ((60 : Int) < (n0 : Int)) = false := decide_eq_false (by omega)
  have hd0' : decide (60 < n0) = false := decide_eq_false hn0
  go_wp2_with (go_at_call 7; refine (first_any _).mono ?_; rintro e w2 ⟨rfl, hb2⟩)
  refine (journal_lo a0 n0 c0 6 L _ (H0.out.mono hb2) HL.out (by omega) (by omega)).mono ?_
  rintro e w3 ⟨ai, ci, l, rfl, ho3, hb3, co, inc, I, Ns, ta, ti, te, D, F, body, hjb⟩
  have HJ := Lib.hid hjb
  have hlen := hjb.hb.len
  have hhi := hjb.hi
  have hlo := hjb.lo
  have HO3 := Lib.hid ho3
  have HB3 := Lib.hid (hb2.trans (hb3.mono hb2.size))
  have HLen := Lib.hid hlen
  have hln : l.length ≤ 41000 := by omega
  have hl272 : 272 < l.length := by omega
  have HHd := Lib.hid (show (headL co inc 1 I Ns ta ti te).toArray.size = 91 from headL_length (n := 21) hjb.il hjb.nl)
  have HOne := Lib.hid (headL_one (co := co) (inc := inc) (st := 1) (I := I) (Ns := Ns) (ta := ta) (ti := ti) (te := te))
  clear hb2 ho3 hb3 hjb hlen hhi hlo H0 HL
  have HRd := Lib.hid (fun (aq : Option Addr) (cq : Nat) (w' : World) (h : RdB w' aq l.length cq l) => headread_any aq l.length cq l w' h (by omega))
  rw [HJ.out.code, HJ.out.head] at HRd
  go_wp2_with fail
  refine (HRd.out _ _ _ HO3.out.rd).mono ?_
  rintro e w4 ⟨rfl, hb4⟩
  have HB4 := Lib.hid (HB3.out.trans (hb4.mono HB3.out.size))
  have HL4 := Lib.hid (HO3.out.rd.mono hb4)
  have hZ := heap_alloc_new w4 (.cells Try.zeroCells29 29)
  have hBz := below_alloc w4 (.cells Try.zeroCells29 29)
  have hA4 : ∀ z, ai = some z → z.block < w4.heap.size := fun z hz => Nat.lt_of_lt_of_le (HO3.out.2.lt z hz).2 hb4.size
  clear hb4 HB3 HRd
  go_upto_region 8 with (with_reducible refine wpList_storeS rfl rfl Try.headI rfl rfl hZ (by with_unfolding_all rfl) HHd.out HOne.out ?_; intro w5 hX5 hu5)
  have hb5 := hBz.trans (hu5.below (B := w4.heap.size) hBz.size (fun k hk => by rw [hk]; exact Nat.le_refl _))
  obtain ⟨R1, hR1⟩ : ∃ R1, w4.heap.size = R1 := ⟨_, rfl⟩
  have HB5 := Lib.hid (HB4.out.trans (hb5.mono HB4.out.size))
  have HL5 := Lib.hid (HL4.out.mono hb5)
  have hwR : w.heap.size ≤ R1 := by have := HB4.out.size; omega
  rw [hR1] at hX5 hA4 ⊢
  have HA := Lib.hid (show ∀ z, ai = some z → ¬ z.block = R1 from fun z hz => Nat.ne_of_lt (hA4 z hz))
  have HX5 := Lib.hid hX5.out
  clear hZ hBz hu5 hb5 hX5 hR1 HB4 HL4 hA4
  obtain ⟨q, hq, hqb⟩ := mod_nat by_ 7 (by omega)
  have HNq := Lib.hid (fun w => number_nat by_ 7 q hq (by omega) (by omega) w)
  obtain ⟨p, hp, hpb⟩ := mod_nat which 8 (by omega)
  have HNp := Lib.hid (fun w => number_nat which 8 p hp (by omega) (by omega) w)
  obtain ⟨B, hB⟩ : ∃ B, B = q + 1 := ⟨_, rfl⟩
  have hwq : IntKind.i64.wrap ((q : Int) + 1) = (B : Int) := by rw [IntKind.wrap_i64]; omega
  have hB1 : 1 ≤ B := by omega
  have hB2 : B ≤ 7 := by omega
  clear hB
  clear hq hp
  go_wp2_with fail
  refine (HNq.out _).mono ?_
  rintro e w5' ⟨rfl, hww⟩
  subst hww
  go_wp2_with fail
  refine (bytes_any _ _ _ l _ HL5.out (by omega)).mono ?_
  rintro e w6 ⟨a6, c6, rfl, ho6, hb6⟩
  have HB6 := Lib.hid (HB5.out.trans (hb6.mono HB5.out.size))
  have HL6 := Lib.hid (HL5.out.mono hb6)
  have HX6 := Lib.hid (row_below hb6 (lt_of_heap HX5.out) HX5.out)
  have HO6 := Lib.hid (show OwnB 5 w6 w.heap.size a6 l.length c6 l from ⟨ho6.1, ho6.2.base HB5.out.size⟩)
  have hR6 : ∀ z, a6 = some z → z.block ≠ R1 := fun z hz => by have := (ho6.2.lt z hz).1; have := lt_of_heap HX5.out; omega
  have HR6 := Lib.hid hR6
  clear hb6 ho6 HB5 HL5 HX5 hR6
  go_wp2_with fail
  refine (HNp.out _).mono ?_
  rintro e w6' ⟨rfl, hww⟩
  subst hww
  clear HNp HNq
  go_upto_block 0 with fail
  obtain ⟨g6, rfl, hg1, hg2⟩ := HO6.out.2.at (by omega)
  go_cut [11, 12] from 38 to 130 (fun s1 s2 wx => WrongE w wx s1 s2)
  case first =>
    obtain rfl | rfl | rfl | rfl | rfl | rfl | rfl | rfl : p = 0 ∨ p = 1 ∨ p = 2 ∨ p = 3 ∨ p = 4 ∨ p = 5 ∨ p = 6 ∨ p = 7 := by omega
    · obtain ⟨y, hy⟩ : ∃ y, l[B]? = some y := ⟨_, List.getElem?_eq_getElem (by omega)⟩
      have cB := HO6.out.2.cell B y hy
      have fB := HO6.out.2.free B
      have hv : 0 ≤ y ∧ y ≤ 255 := HO6.out.1 _ (List.mem_of_getElem? hy)
      have hxv := xor_255 hv
      have HW := Lib.hid (HJ.out.w0 hB2)
      rw [hy, Option.getD_some] at HW
      clear hy
      have hBl : B < l.length := by omega
      go_wp2_with fail
      go_meet
      refine ⟨6, some ⟨g6, 0, none⟩, l.length, c6, l.set B (255 - y), rfl, rfl, ⟨HO6.out.1.set B ⟨by omega, by omega⟩, (HO6.out.2.set B _).rd⟩, HW.out, by decide, by omega, ?_⟩
      exact HB6.out.trans ((Upd.setCell (F := (· = g6)) w6 ⟨g6, B, none⟩ _ rfl).below (B := w.heap.size) HB6.out.size (fun k hk => by rw [hk]; exact hg1))
    · have c12 := HO6.out.2.cell 12 inc HJ.out.at12
      have f12 := HO6.out.2.free 12
      have h12 : 12 < l.length := by omega
      obtain rfl | rfl | rfl | rfl | rfl | rfl | rfl : B = 1 ∨ B = 2 ∨ B = 3 ∨ B = 4 ∨ B = 5 ∨ B = 6 ∨ B = 7 := by omega
      all_goals
        go_wp2_with fail
        go_meet
      · exact WrongE.flag HJ.out HO6.out HB6.out hg1 hln (or_flag HJ.out.inc 1 (by omega)) rfl
      · exact WrongE.flag HJ.out HO6.out HB6.out hg1 hln (or_flag HJ.out.inc 2 (by omega)) rfl
      · exact WrongE.flag HJ.out HO6.out HB6.out hg1 hln (or_flag HJ.out.inc 3 (by omega)) rfl
      · exact WrongE.flag HJ.out HO6.out HB6.out hg1 hln (or_flag HJ.out.inc 0 (by omega)) rfl
      · exact WrongE.flag HJ.out HO6.out HB6.out hg1 hln (or_flag HJ.out.inc 1 (by omega)) rfl
      · exact WrongE.flag HJ.out HO6.out HB6.out hg1 hln (or_flag HJ.out.inc 2 (by omega)) rfl
      · exact WrongE.flag HJ.out HO6.out HB6.out hg1 hln (or_flag HJ.out.inc 3 (by omega)) rfl
    · obtain ⟨y, hy⟩ : ∃ y, l[16]? = some y := ⟨_, List.getElem?_eq_getElem (by omega)⟩
      have c16 := HO6.out.2.cell 16 y hy
      have f16 := HO6.out.2.free 16
      clear hy
      have h16 : 16 < l.length := by omega
      have wa : IntKind.i64.wrap (2 + (B : Int)) = 2 + (B : Int) := by rw [IntKind.wrap_i64]; omega
      have wb : IntKind.u8.wrap (2 + (B : Int)) = 2 + (B : Int) := by rw [IntKind.wrap_u8]; omega
      go_wp2_with fail
      go_meet
      refine ⟨8, some ⟨g6, 0, none⟩, l.length, c6, l.set 16 (2 + (B : Int)), rfl, rfl, ⟨HO6.out.1.set 16 ⟨by omega, by omega⟩, (HO6.out.2.set 16 _).rd⟩, HJ.out.w2 (by omega), by decide, by omega, ?_⟩
      exact HB6.out.trans ((Upd.setCell (F := (· = g6)) w6 ⟨g6, 16, none⟩ _ rfl).below (B := w.heap.size) HB6.out.size (fun k hk => by rw [hk]; exact hg1))
    · have hhi := HJ.out.hi
      have hdr := HJ.out.dr
      have hfr := HJ.out.fr
      have hV : U64 (272 + (B : Int)) := ⟨by omega, by omega⟩
      have HW := Lib.hid (HJ.out.w3 0 hV)
      have ck := cell_of_heap HX6.out 67 (.int .u64 (272)) (headL_N HJ.out.il 0 (272) HJ.out.n0)
      have fk := free_of_heap HX6.out 67
      have hX7 := row_set HX6.out 67 (.int .u64 (272 + (B : Int)))
      rw [headL_setN HJ.out.il 0 (by rw [HJ.out.nl]; omega) (272 + (B : Int))] at hX7
      have HX7 := Lib.hid hX7
      have hu7 := Upd.setCell (F := (· = R1)) w6 ⟨R1, 67, none⟩ (.int .u64 (272 + (B : Int))) rfl
      have HB7 := Lib.hid (HB6.out.trans (hu7.below (B := w.heap.size) HB6.out.size (fun k hk => by rw [hk]; exact hwR)))
      have HL7 := Lib.hid (HL6.out.upd hu7 HA.out)
      clear hX7 hu7 hV
      have wa : IntKind.u64.wrap ((B : Int)) = (B : Int) := by rw [IntKind.wrap_u64]; omega
      have wb : IntKind.u64.wrap (272 + (B : Int)) = 272 + (B : Int) := by rw [IntKind.wrap_u64]; omega
      go_upto_region 25 with fail
      generalize w6.setCell ⟨R1, 67, none⟩ (.int .u64 (272 + (B : Int))) = w7 at HX7 HB7 HL7 ⊢
      clear ck fk
      have HBd := Lib.hid (HB7.out.trans ((below_drew w7).mono HB7.out.size))
      have hLd := HL7.out.drewd
      obtain ⟨aL, xL, rL⟩ := cutL_ex (enc := Value.int .u8) Try.oneB ai l.length ci 272 (by omega) hLd.2.2.1
      have HXL := Lib.hid xL
      have HRL := Lib.hid (rL _ _ hLd.2)
      clear xL rL hLd
      have hC : w7.drew.heap[R1]? = some (.cells (headL co inc 1 I (Ns.set 0 (272 + (B : Int))) ta ti te).toArray 29 (0, 0)) := HX7.out
      have hSl : R1 < w7.drew.heap.size := lt_of_heap hC
      refine wp_region_held (S := fun w' => w'.heap[R1]? = some (.cells (headL co inc 1 I (Ns.set 0 (272 + (B : Int))) ta ti te).toArray 29 (0, 0))) (by kernel_rfl) ?_
      change wpAnyH _ _ _ _ _ _ _ _ w7.drew
      generalize w7.drew = wd at hC hSl HBd HRL ⊢
      have Hs := Lib.hid (show (headL co inc 1 I (Ns.set 0 (272 + (B : Int))) ta ti te).toArray.size = 91 from headL_length (n := 21) HW.out.il HW.out.nl)
      clear HX7 HB7 HL7
      refine held_take 0 (d := some 75) (v := (.agg (headL co inc 1 I (Ns.set 0 (272 + (B : Int))) ta ti te).toArray)) rfl rfl (by kernel_rfl) (by kernel_rfl) (by kernel_rfl) (fun _ _ _ h => h) hC (by kernel_rfl) (fun w hSw => by exact exec_loadS rfl Try.headI rfl hSw Hs.out) ?_
      try simp only [Act.put, List.setIfInBounds_toArray, List.set_cons_zero, List.set_cons_succ]
      refine held_take 2 (d := some 77) (v := (.slice ai l.length ci)) rfl rfl (by kernel_rfl) (by kernel_rfl) (by kernel_rfl) (fun _ _ _ h => h) hC (by kernel_rfl) (fun w hSw => by clear hSw; go_simp) ?_
      try simp only [Act.put, List.setIfInBounds_toArray, List.set_cons_zero, List.set_cons_succ]
      refine held_take 3 (d := some 78) (v := (.slice aL (l.length - 272) (ci - 272))) rfl rfl (by kernel_rfl) (by kernel_rfl) (by kernel_rfl) (fun _ _ _ h => h) hC (by kernel_rfl) (fun w hSw => by exact HXL.out w _ _ rfl rfl rfl) ?_
      try simp only [Act.put, List.setIfInBounds_toArray, List.set_cons_zero, List.set_cons_succ]
      refine held_one 1 rfl (by kernel_rfl) (fun K hK => ?_)
      go_simp
      go_at_call 14
      have hP := headput_any co inc 1 I (Ns.set 0 (272 + (B : Int))) ta ti te wd HW.out.il HW.out.nl HW.out.ib HW.out.co HW.out.inc HW.out.nu HW.out.ta HW.out.ti HW.out.te
      unfold NewB at hP
      have hpl : (headB co inc 1 I (Ns.set 0 (272 + (B : Int))) ta ti te).length = 272 := by rw [headB_length HW.out.il, HW.out.nl]
      rw [hpl] at hP
      refine hP.mono ?_
      rintro e w8 ⟨a8, c8, rfl, ho8, hb8⟩
      have hC8 := row_below hb8 hSl hC
      have HB8 := Lib.hid (HBd.out.trans (hb8.mono HBd.out.size))
      have HRL8 := Lib.hid (HRL.out.mono hb8)
      have HO8 := Lib.hid ho8
      clear hP hpl ho8
      go_simp
      refine hK _ _ hC8 ?_
      clear hK K hC
      try simp only [Act.put, List.setIfInBounds_toArray, List.set_cons_zero, List.set_cons_succ]
      refine held_one 4 rfl (by kernel_rfl) (fun K hK => ?_)
      refine step_appOwnD (d := some 79) rfl rfl rfl Try.oneB rfl rfl HO8.out.2 HRL8.out (fun _ => rfl) (by omega) (by omega) hb8.size ?_
      intro a9 c9 w9 ho9 hb9
      have hC9 := row_below hb9 hSl hC8
      refine hK _ _ hC9 ?_
      clear hK K hC8
      try simp only [Act.put, List.setIfInBounds_toArray, List.set_cons_zero, List.set_cons_succ]
      refine held_take 5 (d := some 12) (v := (.slice a9 (272 + (l.length - 272)) c9)) rfl rfl (by kernel_rfl) (by kernel_rfl) (by kernel_rfl) (fun _ _ _ h => h) hC9 (by kernel_rfl) (fun w hSw => by clear hSw; go_simp) ?_
      try simp only [Act.put, List.setIfInBounds_toArray, List.set_cons_zero, List.set_cons_succ]
      refine wpAnyH_done (by kernel_rfl) ?_ _
      have HO9 := Lib.hid ho9
      have HB9 := Lib.hid (HB8.out.trans (hb9.mono HBd.out.size))
      clear hC9 ho9 hb9 hb8
      go_wp2_with fail
      go_meet
      exact ⟨5, a9, 272 + (l.length - 272), c9, headB co inc 1 I (Ns.set 0 (272 + (B : Int))) ta ti te ++ l.drop 272, rfl, rfl, ⟨(headB_isB HW.out.ib).append (by rw [HJ.out.dropB]; exact HW.out.bb), HO9.out.rd⟩, by rw [HJ.out.dropB]; exact HJ.out.c0 hB1 hB2, by decide, by omega, HB9.out⟩
    · have hhi := HJ.out.hi
      have hdr := HJ.out.dr
      have hfr := HJ.out.fr
      have hV : U64 ((body.length : Int) + 8 * (B : Int)) := ⟨by omega, by omega⟩
      have HW := Lib.hid (HJ.out.w3 1 hV)
      have ck := cell_of_heap HX6.out 68 (.int .u64 ((body.length : Int))) (headL_N HJ.out.il 1 ((body.length : Int)) HJ.out.n1)
      have fk := free_of_heap HX6.out 68
      have hX7 := row_set HX6.out 68 (.int .u64 ((body.length : Int) + 8 * (B : Int)))
      rw [headL_setN HJ.out.il 1 (by rw [HJ.out.nl]; omega) ((body.length : Int) + 8 * (B : Int))] at hX7
      have HX7 := Lib.hid hX7
      have hu7 := Upd.setCell (F := (· = R1)) w6 ⟨R1, 68, none⟩ (.int .u64 ((body.length : Int) + 8 * (B : Int))) rfl
      have HB7 := Lib.hid (HB6.out.trans (hu7.below (B := w.heap.size) HB6.out.size (fun k hk => by rw [hk]; exact hwR)))
      have HL7 := Lib.hid (HL6.out.upd hu7 HA.out)
      clear hX7 hu7 hV
      have wa : IntKind.u64.wrap ((B : Int)) = (B : Int) := by rw [IntKind.wrap_u64]; omega
      have wb : IntKind.u64.wrap (8 * (B : Int)) = 8 * (B : Int) := by rw [IntKind.wrap_u64]; omega
      have wc : IntKind.u64.wrap ((body.length : Int) + 8 * (B : Int)) = (body.length : Int) + 8 * (B : Int) := by rw [IntKind.wrap_u64]; omega
      go_upto_region 29 with fail
      generalize w6.setCell ⟨R1, 68, none⟩ (.int .u64 ((body.length : Int) + 8 * (B : Int))) = w7 at HX7 HB7 HL7 ⊢
      clear ck fk
      have HBd := Lib.hid (HB7.out.trans ((below_drew w7).mono HB7.out.size))
      have hLd := HL7.out.drewd
      obtain ⟨aL, xL, rL⟩ := cutL_ex (enc := Value.int .u8) Try.oneB ai l.length ci 272 (by omega) hLd.2.2.1
      have HXL := Lib.hid xL
      have HRL := Lib.hid (rL _ _ hLd.2)
      clear xL rL hLd
      have hC : w7.drew.heap[R1]? = some (.cells (headL co inc 1 I (Ns.set 1 ((body.length : Int) + 8 * (B : Int))) ta ti te).toArray 29 (0, 0)) := HX7.out
      have hSl : R1 < w7.drew.heap.size := lt_of_heap hC
      refine wp_region_held (S := fun w' => w'.heap[R1]? = some (.cells (headL co inc 1 I (Ns.set 1 ((body.length : Int) + 8 * (B : Int))) ta ti te).toArray 29 (0, 0))) (by kernel_rfl) ?_
      change wpAnyH _ _ _ _ _ _ _ _ w7.drew
      generalize w7.drew = wd at hC hSl HBd HRL ⊢
      have Hs := Lib.hid (show (headL co inc 1 I (Ns.set 1 ((body.length : Int) + 8 * (B : Int))) ta ti te).toArray.size = 91 from headL_length (n := 21) HW.out.il HW.out.nl)
      clear HX7 HB7 HL7
      refine held_take 0 (d := some 89) (v := (.agg (headL co inc 1 I (Ns.set 1 ((body.length : Int) + 8 * (B : Int))) ta ti te).toArray)) rfl rfl (by kernel_rfl) (by kernel_rfl) (by kernel_rfl) (fun _ _ _ h => h) hC (by kernel_rfl) (fun w hSw => by exact exec_loadS rfl Try.headI rfl hSw Hs.out) ?_
      try simp only [Act.put, List.setIfInBounds_toArray, List.set_cons_zero, List.set_cons_succ]
      refine held_take 2 (d := some 91) (v := (.slice ai l.length ci)) rfl rfl (by kernel_rfl) (by kernel_rfl) (by kernel_rfl) (fun _ _ _ h => h) hC (by kernel_rfl) (fun w hSw => by clear hSw; go_simp) ?_
      try simp only [Act.put, List.setIfInBounds_toArray, List.set_cons_zero, List.set_cons_succ]
      refine held_take 3 (d := some 92) (v := (.slice aL (l.length - 272) (ci - 272))) rfl rfl (by kernel_rfl) (by kernel_rfl) (by kernel_rfl) (fun _ _ _ h => h) hC (by kernel_rfl) (fun w hSw => by exact HXL.out w _ _ rfl rfl rfl) ?_
      try simp only [Act.put, List.setIfInBounds_toArray, List.set_cons_zero, List.set_cons_succ]
      refine held_one 1 rfl (by kernel_rfl) (fun K hK => ?_)
      go_simp
      go_at_call 14
      have hP := headput_any co inc 1 I (Ns.set 1 ((body.length : Int) + 8 * (B : Int))) ta ti te wd HW.out.il HW.out.nl HW.out.ib HW.out.co HW.out.inc HW.out.nu HW.out.ta HW.out.ti HW.out.te
      unfold NewB at hP
      have hpl : (headB co inc 1 I (Ns.set 1 ((body.length : Int) + 8 * (B : Int))) ta ti te).length = 272 := by rw [headB_length HW.out.il, HW.out.nl]
      rw [hpl] at hP
      refine hP.mono ?_
      rintro e w8 ⟨a8, c8, rfl, ho8, hb8⟩
      have hC8 := row_below hb8 hSl hC
      have HB8 := Lib.hid (HBd.out.trans (hb8.mono HBd.out.size))
      have HRL8 := Lib.hid (HRL.out.mono hb8)
      have HO8 := Lib.hid ho8
      clear hP hpl ho8
      go_simp
      refine hK _ _ hC8 ?_
      clear hK K hC
      try simp only [Act.put, List.setIfInBounds_toArray, List.set_cons_zero, List.set_cons_succ]
      refine held_one 4 rfl (by kernel_rfl) (fun K hK => ?_)
      refine step_appOwnD (d := some 93) rfl rfl rfl Try.oneB rfl rfl HO8.out.2 HRL8.out (fun _ => rfl) (by omega) (by omega) hb8.size ?_
      intro a9 c9 w9 ho9 hb9
      have hC9 := row_below hb9 hSl hC8
      refine hK _ _ hC9 ?_
      clear hK K hC8
      try simp only [Act.put, List.setIfInBounds_toArray, List.set_cons_zero, List.set_cons_succ]
      refine held_take 5 (d := some 12) (v := (.slice a9 (272 + (l.length - 272)) c9)) rfl rfl (by kernel_rfl) (by kernel_rfl) (by kernel_rfl) (fun _ _ _ h => h) hC9 (by kernel_rfl) (fun w hSw => by clear hSw; go_simp) ?_
      try simp only [Act.put, List.setIfInBounds_toArray, List.set_cons_zero, List.set_cons_succ]
      refine wpAnyH_done (by kernel_rfl) ?_ _
      have HO9 := Lib.hid ho9
      have HB9 := Lib.hid (HB8.out.trans (hb9.mono HBd.out.size))
      clear hC9 ho9 hb9 hb8
      go_wp2_with fail
      go_meet
      exact ⟨2, a9, 272 + (l.length - 272), c9, headB co inc 1 I (Ns.set 1 ((body.length : Int) + 8 * (B : Int))) ta ti te ++ l.drop 272, rfl, rfl, ⟨(headB_isB HW.out.ib).append (by rw [HJ.out.dropB]; exact HW.out.bb), HO9.out.rd⟩, by rw [HJ.out.dropB]; exact HJ.out.c1 hB1 hB2, by decide, by omega, HB9.out⟩
    · have hhi := HJ.out.hi
      have hdr := HJ.out.dr
      have hfr := HJ.out.fr
      have hV : U64 (288 + (B : Int)) := ⟨by omega, by omega⟩
      have HW := Lib.hid (HJ.out.w3 2 hV)
      have ck := cell_of_heap HX6.out 69 (.int .u64 (288)) (headL_N HJ.out.il 2 (288) HJ.out.n2)
      have fk := free_of_heap HX6.out 69
      have hX7 := row_set HX6.out 69 (.int .u64 (288 + (B : Int)))
      rw [headL_setN HJ.out.il 2 (by rw [HJ.out.nl]; omega) (288 + (B : Int))] at hX7
      have HX7 := Lib.hid hX7
      have hu7 := Upd.setCell (F := (· = R1)) w6 ⟨R1, 69, none⟩ (.int .u64 (288 + (B : Int))) rfl
      have HB7 := Lib.hid (HB6.out.trans (hu7.below (B := w.heap.size) HB6.out.size (fun k hk => by rw [hk]; exact hwR)))
      have HL7 := Lib.hid (HL6.out.upd hu7 HA.out)
      clear hX7 hu7 hV
      have wa : IntKind.u64.wrap ((B : Int)) = (B : Int) := by rw [IntKind.wrap_u64]; omega
      have wb : IntKind.u64.wrap (288 + (B : Int)) = 288 + (B : Int) := by rw [IntKind.wrap_u64]; omega
      go_upto_region 33 with fail
      generalize w6.setCell ⟨R1, 69, none⟩ (.int .u64 (288 + (B : Int))) = w7 at HX7 HB7 HL7 ⊢
      clear ck fk
      have HBd := Lib.hid (HB7.out.trans ((below_drew w7).mono HB7.out.size))
      have hLd := HL7.out.drewd
      obtain ⟨aL, xL, rL⟩ := cutL_ex (enc := Value.int .u8) Try.oneB ai l.length ci 272 (by omega) hLd.2.2.1
      have HXL := Lib.hid xL
      have HRL := Lib.hid (rL _ _ hLd.2)
      clear xL rL hLd
      have hC : w7.drew.heap[R1]? = some (.cells (headL co inc 1 I (Ns.set 2 (288 + (B : Int))) ta ti te).toArray 29 (0, 0)) := HX7.out
      have hSl : R1 < w7.drew.heap.size := lt_of_heap hC
      refine wp_region_held (S := fun w' => w'.heap[R1]? = some (.cells (headL co inc 1 I (Ns.set 2 (288 + (B : Int))) ta ti te).toArray 29 (0, 0))) (by kernel_rfl) ?_
      change wpAnyH _ _ _ _ _ _ _ _ w7.drew
      generalize w7.drew = wd at hC hSl HBd HRL ⊢
      have Hs := Lib.hid (show (headL co inc 1 I (Ns.set 2 (288 + (B : Int))) ta ti te).toArray.size = 91 from headL_length (n := 21) HW.out.il HW.out.nl)
      clear HX7 HB7 HL7
      refine held_take 0 (d := some 102) (v := (.agg (headL co inc 1 I (Ns.set 2 (288 + (B : Int))) ta ti te).toArray)) rfl rfl (by kernel_rfl) (by kernel_rfl) (by kernel_rfl) (fun _ _ _ h => h) hC (by kernel_rfl) (fun w hSw => by exact exec_loadS rfl Try.headI rfl hSw Hs.out) ?_
      try simp only [Act.put, List.setIfInBounds_toArray, List.set_cons_zero, List.set_cons_succ]
      refine held_take 2 (d := some 104) (v := (.slice ai l.length ci)) rfl rfl (by kernel_rfl) (by kernel_rfl) (by kernel_rfl) (fun _ _ _ h => h) hC (by kernel_rfl) (fun w hSw => by clear hSw; go_simp) ?_
      try simp only [Act.put, List.setIfInBounds_toArray, List.set_cons_zero, List.set_cons_succ]
      refine held_take 3 (d := some 105) (v := (.slice aL (l.length - 272) (ci - 272))) rfl rfl (by kernel_rfl) (by kernel_rfl) (by kernel_rfl) (fun _ _ _ h => h) hC (by kernel_rfl) (fun w hSw => by exact HXL.out w _ _ rfl rfl rfl) ?_
      try simp only [Act.put, List.setIfInBounds_toArray, List.set_cons_zero, List.set_cons_succ]
      refine held_one 1 rfl (by kernel_rfl) (fun K hK => ?_)
      go_simp
      go_at_call 14
      have hP := headput_any co inc 1 I (Ns.set 2 (288 + (B : Int))) ta ti te wd HW.out.il HW.out.nl HW.out.ib HW.out.co HW.out.inc HW.out.nu HW.out.ta HW.out.ti HW.out.te
      unfold NewB at hP
      have hpl : (headB co inc 1 I (Ns.set 2 (288 + (B : Int))) ta ti te).length = 272 := by rw [headB_length HW.out.il, HW.out.nl]
      rw [hpl] at hP
      refine hP.mono ?_
      rintro e w8 ⟨a8, c8, rfl, ho8, hb8⟩
      have hC8 := row_below hb8 hSl hC
      have HB8 := Lib.hid (HBd.out.trans (hb8.mono HBd.out.size))
      have HRL8 := Lib.hid (HRL.out.mono hb8)
      have HO8 := Lib.hid ho8
      clear hP hpl ho8
      go_simp
      refine hK _ _ hC8 ?_
      clear hK K hC
      try simp only [Act.put, List.setIfInBounds_toArray, List.set_cons_zero, List.set_cons_succ]
      refine held_one 4 rfl (by kernel_rfl) (fun K hK => ?_)
      refine step_appOwnD (d := some 106) rfl rfl rfl Try.oneB rfl rfl HO8.out.2 HRL8.out (fun _ => rfl) (by omega) (by omega) hb8.size ?_
      intro a9 c9 w9 ho9 hb9
      have hC9 := row_below hb9 hSl hC8
      refine hK _ _ hC9 ?_
      clear hK K hC8
      try simp only [Act.put, List.setIfInBounds_toArray, List.set_cons_zero, List.set_cons_succ]
      refine held_take 5 (d := some 12) (v := (.slice a9 (272 + (l.length - 272)) c9)) rfl rfl (by kernel_rfl) (by kernel_rfl) (by kernel_rfl) (fun _ _ _ h => h) hC9 (by kernel_rfl) (fun w hSw => by clear hSw; go_simp) ?_
      try simp only [Act.put, List.setIfInBounds_toArray, List.set_cons_zero, List.set_cons_succ]
      refine wpAnyH_done (by kernel_rfl) ?_ _
      have HO9 := Lib.hid ho9
      have HB9 := Lib.hid (HB8.out.trans (hb9.mono HBd.out.size))
      clear hC9 ho9 hb9 hb8
      go_wp2_with fail
      go_meet
      exact ⟨3, a9, 272 + (l.length - 272), c9, headB co inc 1 I (Ns.set 2 (288 + (B : Int))) ta ti te ++ l.drop 272, rfl, rfl, ⟨(headB_isB HW.out.ib).append (by rw [HJ.out.dropB]; exact HW.out.bb), HO9.out.rd⟩, by rw [HJ.out.dropB]; exact HJ.out.c2 hB1 hB2, by decide, by omega, HB9.out⟩
    · have hhi := HJ.out.hi
      have hdr := HJ.out.dr
      have hfr := HJ.out.fr
      have hV : U64 (16 * (F : Int) + (B : Int)) := ⟨by omega, by omega⟩
      have HW := Lib.hid (HJ.out.w3 5 hV)
      have ck := cell_of_heap HX6.out 72 (.int .u64 (16 * (F : Int))) (headL_N HJ.out.il 5 (16 * (F : Int)) HJ.out.n5)
      have fk := free_of_heap HX6.out 72
      have hX7 := row_set HX6.out 72 (.int .u64 (16 * (F : Int) + (B : Int)))
      rw [headL_setN HJ.out.il 5 (by rw [HJ.out.nl]; omega) (16 * (F : Int) + (B : Int))] at hX7
      have HX7 := Lib.hid hX7
      have hu7 := Upd.setCell (F := (· = R1)) w6 ⟨R1, 72, none⟩ (.int .u64 (16 * (F : Int) + (B : Int))) rfl
      have HB7 := Lib.hid (HB6.out.trans (hu7.below (B := w.heap.size) HB6.out.size (fun k hk => by rw [hk]; exact hwR)))
      have HL7 := Lib.hid (HL6.out.upd hu7 HA.out)
      clear hX7 hu7 hV
      have wa : IntKind.u64.wrap ((B : Int)) = (B : Int) := by rw [IntKind.wrap_u64]; omega
      have wb : IntKind.u64.wrap (16 * (F : Int) + (B : Int)) = 16 * (F : Int) + (B : Int) := by rw [IntKind.wrap_u64]; omega
      go_upto_region 37 with fail
      generalize w6.setCell ⟨R1, 72, none⟩ (.int .u64 (16 * (F : Int) + (B : Int))) = w7 at HX7 HB7 HL7 ⊢
      clear ck fk
      have HBd := Lib.hid (HB7.out.trans ((below_drew w7).mono HB7.out.size))
      have hLd := HL7.out.drewd
      obtain ⟨aL, xL, rL⟩ := cutL_ex (enc := Value.int .u8) Try.oneB ai l.length ci 272 (by omega) hLd.2.2.1
      have HXL := Lib.hid xL
      have HRL := Lib.hid (rL _ _ hLd.2)
      clear xL rL hLd
      have hC : w7.drew.heap[R1]? = some (.cells (headL co inc 1 I (Ns.set 5 (16 * (F : Int) + (B : Int))) ta ti te).toArray 29 (0, 0)) := HX7.out
      have hSl : R1 < w7.drew.heap.size := lt_of_heap hC
      refine wp_region_held (S := fun w' => w'.heap[R1]? = some (.cells (headL co inc 1 I (Ns.set 5 (16 * (F : Int) + (B : Int))) ta ti te).toArray 29 (0, 0))) (by kernel_rfl) ?_
      change wpAnyH _ _ _ _ _ _ _ _ w7.drew
      generalize w7.drew = wd at hC hSl HBd HRL ⊢
      have Hs := Lib.hid (show (headL co inc 1 I (Ns.set 5 (16 * (F : Int) + (B : Int))) ta ti te).toArray.size = 91 from headL_length (n := 21) HW.out.il HW.out.nl)
      clear HX7 HB7 HL7
      refine held_take 0 (d := some 115) (v := (.agg (headL co inc 1 I (Ns.set 5 (16 * (F : Int) + (B : Int))) ta ti te).toArray)) rfl rfl (by kernel_rfl) (by kernel_rfl) (by kernel_rfl) (fun _ _ _ h => h) hC (by kernel_rfl) (fun w hSw => by exact exec_loadS rfl Try.headI rfl hSw Hs.out) ?_
      try simp only [Act.put, List.setIfInBounds_toArray, List.set_cons_zero, List.set_cons_succ]
      refine held_take 2 (d := some 117) (v := (.slice ai l.length ci)) rfl rfl (by kernel_rfl) (by kernel_rfl) (by kernel_rfl) (fun _ _ _ h => h) hC (by kernel_rfl) (fun w hSw => by clear hSw; go_simp) ?_
      try simp only [Act.put, List.setIfInBounds_toArray, List.set_cons_zero, List.set_cons_succ]
      refine held_take 3 (d := some 118) (v := (.slice aL (l.length - 272) (ci - 272))) rfl rfl (by kernel_rfl) (by kernel_rfl) (by kernel_rfl) (fun _ _ _ h => h) hC (by kernel_rfl) (fun w hSw => by exact HXL.out w _ _ rfl rfl rfl) ?_
      try simp only [Act.put, List.setIfInBounds_toArray, List.set_cons_zero, List.set_cons_succ]
      refine held_one 1 rfl (by kernel_rfl) (fun K hK => ?_)
      go_simp
      go_at_call 14
      have hP := headput_any co inc 1 I (Ns.set 5 (16 * (F : Int) + (B : Int))) ta ti te wd HW.out.il HW.out.nl HW.out.ib HW.out.co HW.out.inc HW.out.nu HW.out.ta HW.out.ti HW.out.te
      unfold NewB at hP
      have hpl : (headB co inc 1 I (Ns.set 5 (16 * (F : Int) + (B : Int))) ta ti te).length = 272 := by rw [headB_length HW.out.il, HW.out.nl]
      rw [hpl] at hP
      refine hP.mono ?_
      rintro e w8 ⟨a8, c8, rfl, ho8, hb8⟩
      have hC8 := row_below hb8 hSl hC
      have HB8 := Lib.hid (HBd.out.trans (hb8.mono HBd.out.size))
      have HRL8 := Lib.hid (HRL.out.mono hb8)
      have HO8 := Lib.hid ho8
      clear hP hpl ho8
      go_simp
      refine hK _ _ hC8 ?_
      clear hK K hC
      try simp only [Act.put, List.setIfInBounds_toArray, List.set_cons_zero, List.set_cons_succ]
      refine held_one 4 rfl (by kernel_rfl) (fun K hK => ?_)
      refine step_appOwnD (d := some 119) rfl rfl rfl Try.oneB rfl rfl HO8.out.2 HRL8.out (fun _ => rfl) (by omega) (by omega) hb8.size ?_
      intro a9 c9 w9 ho9 hb9
      have hC9 := row_below hb9 hSl hC8
      refine hK _ _ hC9 ?_
      clear hK K hC8
      try simp only [Act.put, List.setIfInBounds_toArray, List.set_cons_zero, List.set_cons_succ]
      refine held_take 5 (d := some 12) (v := (.slice a9 (272 + (l.length - 272)) c9)) rfl rfl (by kernel_rfl) (by kernel_rfl) (by kernel_rfl) (fun _ _ _ h => h) hC9 (by kernel_rfl) (fun w hSw => by clear hSw; go_simp) ?_
      try simp only [Act.put, List.setIfInBounds_toArray, List.set_cons_zero, List.set_cons_succ]
      refine wpAnyH_done (by kernel_rfl) ?_ _
      have HO9 := Lib.hid ho9
      have HB9 := Lib.hid (HB8.out.trans (hb9.mono HBd.out.size))
      clear hC9 ho9 hb9 hb8
      go_wp2_with fail
      go_meet
      exact ⟨5, a9, 272 + (l.length - 272), c9, headB co inc 1 I (Ns.set 5 (16 * (F : Int) + (B : Int))) ta ti te ++ l.drop 272, rfl, rfl, ⟨(headB_isB HW.out.ib).append (by rw [HJ.out.dropB]; exact HW.out.bb), HO9.out.rd⟩, by rw [HJ.out.dropB]; exact HJ.out.c5 hB1 hB2, by decide, by omega, HB9.out⟩
    · have hhi := HJ.out.hi
      have hdr := HJ.out.dr
      have hfr := HJ.out.fr
      have hV : U64 (8 * (B : Int)) := ⟨by omega, by omega⟩
      have HW := Lib.hid (HJ.out.w3 4 hV)
      have ck := cell_of_heap HX6.out 71 (.int .u64 (304 + 16 * (D : Int))) (headL_N HJ.out.il 4 (304 + 16 * (D : Int)) HJ.out.n4)
      have fk := free_of_heap HX6.out 71
      have hX7 := row_set HX6.out 71 (.int .u64 (8 * (B : Int)))
      rw [headL_setN HJ.out.il 4 (by rw [HJ.out.nl]; omega) (8 * (B : Int))] at hX7
      have HX7 := Lib.hid hX7
      have hu7 := Upd.setCell (F := (· = R1)) w6 ⟨R1, 71, none⟩ (.int .u64 (8 * (B : Int))) rfl
      have HB7 := Lib.hid (HB6.out.trans (hu7.below (B := w.heap.size) HB6.out.size (fun k hk => by rw [hk]; exact hwR)))
      have HL7 := Lib.hid (HL6.out.upd hu7 HA.out)
      clear hX7 hu7 hV
      have wa : IntKind.u64.wrap ((B : Int)) = (B : Int) := by rw [IntKind.wrap_u64]; omega
      have wb : IntKind.u64.wrap (8 * (B : Int)) = 8 * (B : Int) := by rw [IntKind.wrap_u64]; omega
      go_upto_region 41 with fail
      generalize w6.setCell ⟨R1, 71, none⟩ (.int .u64 (8 * (B : Int))) = w7 at HX7 HB7 HL7 ⊢
      clear ck fk
      have HBd := Lib.hid (HB7.out.trans ((below_drew w7).mono HB7.out.size))
      have hLd := HL7.out.drewd
      obtain ⟨aL, xL, rL⟩ := cutL_ex (enc := Value.int .u8) Try.oneB ai l.length ci 272 (by omega) hLd.2.2.1
      have HXL := Lib.hid xL
      have HRL := Lib.hid (rL _ _ hLd.2)
      clear xL rL hLd
      have hC : w7.drew.heap[R1]? = some (.cells (headL co inc 1 I (Ns.set 4 (8 * (B : Int))) ta ti te).toArray 29 (0, 0)) := HX7.out
      have hSl : R1 < w7.drew.heap.size := lt_of_heap hC
      refine wp_region_held (S := fun w' => w'.heap[R1]? = some (.cells (headL co inc 1 I (Ns.set 4 (8 * (B : Int))) ta ti te).toArray 29 (0, 0))) (by kernel_rfl) ?_
      change wpAnyH _ _ _ _ _ _ _ _ w7.drew
      generalize w7.drew = wd at hC hSl HBd HRL ⊢
      have Hs := Lib.hid (show (headL co inc 1 I (Ns.set 4 (8 * (B : Int))) ta ti te).toArray.size = 91 from headL_length (n := 21) HW.out.il HW.out.nl)
      clear HX7 HB7 HL7
      refine held_take 0 (d := some 126) (v := (.agg (headL co inc 1 I (Ns.set 4 (8 * (B : Int))) ta ti te).toArray)) rfl rfl (by kernel_rfl) (by kernel_rfl) (by kernel_rfl) (fun _ _ _ h => h) hC (by kernel_rfl) (fun w hSw => by exact exec_loadS rfl Try.headI rfl hSw Hs.out) ?_
      try simp only [Act.put, List.setIfInBounds_toArray, List.set_cons_zero, List.set_cons_succ]
      refine held_take 2 (d := some 128) (v := (.slice ai l.length ci)) rfl rfl (by kernel_rfl) (by kernel_rfl) (by kernel_rfl) (fun _ _ _ h => h) hC (by kernel_rfl) (fun w hSw => by clear hSw; go_simp) ?_
      try simp only [Act.put, List.setIfInBounds_toArray, List.set_cons_zero, List.set_cons_succ]
      refine held_take 3 (d := some 129) (v := (.slice aL (l.length - 272) (ci - 272))) rfl rfl (by kernel_rfl) (by kernel_rfl) (by kernel_rfl) (fun _ _ _ h => h) hC (by kernel_rfl) (fun w hSw => by exact HXL.out w _ _ rfl rfl rfl) ?_
      try simp only [Act.put, List.setIfInBounds_toArray, List.set_cons_zero, List.set_cons_succ]
      refine held_one 1 rfl (by kernel_rfl) (fun K hK => ?_)
      go_simp
      go_at_call 14
      have hP := headput_any co inc 1 I (Ns.set 4 (8 * (B : Int))) ta ti te wd HW.out.il HW.out.nl HW.out.ib HW.out.co HW.out.inc HW.out.nu HW.out.ta HW.out.ti HW.out.te
      unfold NewB at hP
      have hpl : (headB co inc 1 I (Ns.set 4 (8 * (B : Int))) ta ti te).length = 272 := by rw [headB_length HW.out.il, HW.out.nl]
      rw [hpl] at hP
      refine hP.mono ?_
      rintro e w8 ⟨a8, c8, rfl, ho8, hb8⟩
      have hC8 := row_below hb8 hSl hC
      have HB8 := Lib.hid (HBd.out.trans (hb8.mono HBd.out.size))
      have HRL8 := Lib.hid (HRL.out.mono hb8)
      have HO8 := Lib.hid ho8
      clear hP hpl ho8
      go_simp
      refine hK _ _ hC8 ?_
      clear hK K hC
      try simp only [Act.put, List.setIfInBounds_toArray, List.set_cons_zero, List.set_cons_succ]
      refine held_one 4 rfl (by kernel_rfl) (fun K hK => ?_)
      refine step_appOwnD (d := some 130) rfl rfl rfl Try.oneB rfl rfl HO8.out.2 HRL8.out (fun _ => rfl) (by omega) (by omega) hb8.size ?_
      intro a9 c9 w9 ho9 hb9
      have hC9 := row_below hb9 hSl hC8
      refine hK _ _ hC9 ?_
      clear hK K hC8
      try simp only [Act.put, List.setIfInBounds_toArray, List.set_cons_zero, List.set_cons_succ]
      refine held_take 5 (d := some 12) (v := (.slice a9 (272 + (l.length - 272)) c9)) rfl rfl (by kernel_rfl) (by kernel_rfl) (by kernel_rfl) (fun _ _ _ h => h) hC9 (by kernel_rfl) (fun w hSw => by clear hSw; go_simp) ?_
      try simp only [Act.put, List.setIfInBounds_toArray, List.set_cons_zero, List.set_cons_succ]
      refine wpAnyH_done (by kernel_rfl) ?_ _
      have HO9 := Lib.hid ho9
      have HB9 := Lib.hid (HB8.out.trans (hb9.mono HBd.out.size))
      clear hC9 ho9 hb9 hb8
      go_wp2_with fail
      go_meet
      exact ⟨2, a9, 272 + (l.length - 272), c9, headB co inc 1 I (Ns.set 4 (8 * (B : Int))) ta ti te ++ l.drop 272, rfl, rfl, ⟨(headB_isB HW.out.ib).append (by rw [HJ.out.dropB]; exact HW.out.bb), HO9.out.rd⟩, by rw [HJ.out.dropB]; exact HJ.out.c4 hB1 hB2, by decide, by omega, HB9.out⟩
  case rest =>
    clear HJ HO3 HLen HHd HOne HB6 HL6 HX6 HO6 HR6 HA
    obtain ⟨want, aw, nw, cw, lw, rfl, rfl, hr, hc, hw0, hn, hb⟩ := hcut
    have HB := Lib.hid hb
    have HHr := Lib.hid hr
    have hRd := fun (w' : World) (h : RdB w' aw nw cw lw) => headread_any aw nw cw lw w' h (by omega)
    have hZr : headR lw = zeroH := by unfold headR; rw [if_neg (by rw [hc]; exact hw0)]
    rw [hc, hZr] at hRd
    have HRd := Lib.hid hRd
    clear hb hr hRd hZr hc hw0
    go_wp2_with fail
    refine (HRd.out _ HHr.out).mono ?_
    rintro e wr ⟨rfl, hbr⟩
    have HBr := Lib.hid (HB.out.trans (hbr.mono HB.out.size))
    have hZ := heap_alloc_new wr (.cells Try.zeroCells29 29)
    have hBz := below_alloc wr (.cells Try.zeroCells29 29)
    clear hbr HRd HHr HB
    go_upto_region 44 with (with_reducible refine wpList_storeS rfl rfl Try.headI rfl rfl hZ (by with_unfolding_all rfl) zeroH_size zeroH_one ?_; intro wz hXz huz)
    have hbz := hBz.trans (huz.below (B := wr.heap.size) hBz.size (fun k hk => by rw [hk]; exact Nat.le_refl _))
    have HBz := Lib.hid (HBr.out.trans (hbz.mono HBr.out.size))
    have HXz := Lib.hid hXz.out
    obtain ⟨R2, hR2⟩ : ∃ R2, wr.heap.size = R2 := ⟨_, rfl⟩
    rw [hR2] at HXz ⊢
    clear hZ hBz huz hbz hXz hR2 HBr
    go_wp2_with (first | (with_reducible refine wpList_loadSG rfl rfl Try.headI rfl HXz.out zeroH_size ?_) | (with_reducible refine wpList_buildSG rfl rfl Try.builtZH ?_) | (with_reducible refine wpList_headEqlG rfl rfl zeroH_ok rfl rfl ?_))
    go_ret
    exact ⟨rfl, HBz.out⟩
end Go.Proofs.Ytpkmdnfkeebgbaa
