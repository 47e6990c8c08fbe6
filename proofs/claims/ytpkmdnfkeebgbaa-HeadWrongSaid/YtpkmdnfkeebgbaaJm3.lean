/- Contracts and plain laws that this claim uses, each with its conditions as premises. -/
import Derived.Test.YtpkmdnfkeebgbaaJm2
import Derived.Test.YtpkmdnfkeebgbaaJm1
import Derived.ArgAppend
import Derived.Deep.Cut
import Derived.Deep.CutBlock
import Derived.OrdersHeld
/- What the document's own Nums and Put (layer 7) compute. Conditions stand as premises. -/
namespace Go.Proofs.Ytpkmdnfkeebgbaa
open Go.ChangeShapes Go.WideShapes Go.ChangeAt Go.RowKit
set_option linter.unusedVariables false

theorem nums_any (a2 : Option Addr) (n2 c2 : Nat) (vs : List Int) (w : World) (hr2 : Rd (Value.int .u64) w a2 n2 c2 vs) (hv : ∀ v ∈ vs, 0 ≤ v ∧ v ≤ 18446744073709551615) (hlen2 : n2 ≤ 1000) :
    Calls Try.prog 28 #[.slice a2 n2 c2] w (NewB w.heap.size w (numsL vs)) := by
  obtain rfl : vs.length = n2 := hr2.1
  go_enter Try.func28, Try.ntmps28
  go_wp2_with fail
  go_loopw [3, 4] (fun s i wr => ∃ (k : Nat) (a' : Option Addr) (c' : Nat), k ≤ vs.length ∧ i = .int .i64 k ∧ s = .slice a' (8 * k) c' ∧ OwnB 5 wr w.heap.size a' (8 * k) c' (numsL (vs.take k)) ∧ Below w.heap.size w wr) (fun _ i _ => vs.length - (intOf i).toNat)
  case atStart => exact ⟨0, none, 0, Nat.zero_le _, rfl, rfl, ⟨IsB.nil, Own.nil _ _ _ _⟩, Below.refl _ _⟩
  case round =>
    obtain ⟨k, a', c', hk, rfl, rfl, ho, hB⟩ := hrel
    have hsz := hB.size
    by_cases hlt : k < vs.length
    · obtain ⟨b, off, rfl, hc⟩ := cellAt (hr2.mono hB) k hlt
      have hb := hv vs[k] (List.getElem_mem hlt)
      have HS := Lib.hid (numsL_snoc vs k hlt)
      generalize hz : vs[k] = z at hc hb HS
      clear hz
      go_wp2_with fail
      refine (low_any z 8 _ hb (by omega)).mono ?_
      rintro e w2 ⟨a3, c3, rfl, ho3, hb3⟩
      have ho2 := ho.mono hb3
      have hsz3 := hb3.size
      rw [digs_length] at ho3 ⊢
      go_wp2_with (at_builtin; go_must (refine wpList_appOwn rfl rfl Try.oneB rfl rfl ho2.2 ho3.rd.raw (fun _ => rfl) (by omega) (by omega) (by omega) ?_); intro a4 c4 w4 ho4 hb4 _ _)
      go_roundw
      case rel =>
        rw [← HS.out] at ho4
        exact ⟨k + 1, a4, c4, by omega, by go_num, rfl, ⟨numsL_isB _, ho4⟩, (hB.trans (hb3.mono hsz)).trans hb4⟩
      case measure => simp [intOf]; omega
    · obtain rfl : k = vs.length := by omega
      rw [List.take_length] at ho
      go_wp2
      go_ret
      have hl4 : (numsL vs).length = 8 * vs.length := numsL_length vs
      rw [← hl4] at ho ⊢
      exact ⟨a', c', rfl, ho, hB⟩

def lenV : Value → Nat
  | .slice _ n _ => n
  | _ => 0

set_option maxHeartbeats 1000000 in
theorem refput_obj (a : Option Addr) (n c : Nat) (kind : Int) (l : List Int) (w : World) (hr : RdB w a n c l) (hlen : n ≤ 140737488350000) :
    Calls Try.prog 58 #[.int .i64 kind, .slice a n c] w (NewB w.heap.size w (putO kind l)) := by
  obtain rfl : l.length = n := hr.len
  by_cases h1 : kind < 1
  · rw [putO, if_neg (by omega)]
    go_enter Try.func58, Try.ntmps58
    go_wp2
    go_ret
    exact ⟨none, 0, rfl, ⟨IsB.nil, Own.nil _ _ _ _⟩, Below.refl _ _⟩
  by_cases h2 : 7 < kind
  · rw [putO, if_neg (by omega)]
    go_enter Try.func58, Try.ntmps58
    go_wp2
    go_ret
    exact ⟨none, 0, rfl, ⟨IsB.nil, Own.nil _ _ _ _⟩, Below.refl _ _⟩
  rw [putO, if_pos (by omega)]
  have hd1 : decide (kind < 1) = false := by simp; omega
  have hd2 : decide (7 < kind) = false := by simp; omega
  have hm : kind % 256 = kind := Int.emod_eq_of_lt (by omega) (by omega)
  go_enter Try.func58, Try.ntmps58
  go_wp2_with fail
  have ho1 : Own (Value.int .u8) 5 (w.alloc (.cells #[.int .u8 kind, .int .u8 0, .int .u8 0, .int .u8 0, .int .u8 0, .int .u8 0, .int .u8 0, .int .u8 0] 5)) w.heap.size (some ⟨w.heap.size, 0, none⟩) 8 8 (kind :: List.replicate 7 0) := Own.lit (kind :: List.replicate 7 0) _ 8 rfl rfl (Nat.le_refl _) (by decide)
  have hB1 := (Below.refl w.heap.size w).alloc (Nat.le_refl _) (.cells #[.int .u8 kind, .int .u8 0, .int .u8 0, .int .u8 0, .int .u8 0, .int .u8 0, .int .u8 0, .int .u8 0] 5)
  have hz1 : (w.alloc (.cells #[.int .u8 kind, .int .u8 0, .int .u8 0, .int .u8 0, .int .u8 0, .int .u8 0, .int .u8 0, .int .u8 0] 5)).heap.size = w.heap.size + 1 := by simp
  generalize (w.alloc (.cells #[.int .u8 kind, .int .u8 0, .int .u8 0, .int .u8 0, .int .u8 0, .int .u8 0, .int .u8 0, .int .u8 0] 5)) = w1 at ho1 hB1 hz1 ⊢
  rw [← hz1]
  refine (nums_any _ _ _ [16 + (l.length : Int)] _ (Rd.one (Value.int .u64) 27 w1 (16 + (l.length : Int))) (by intro v hv; simp at hv; omega) (by omega)).mono ?_
  rintro e w2 ⟨a2, c2, rfl, ho2, hb2⟩
  have hn1 : numsL [16 + (l.length : Int)] = digs 8 (16 + (l.length : Int)) := by simp [numsL]
  rw [hn1, digs_length] at ho2
  rw [hn1, digs_length]
  have hb2' := ((Below.refl w1.heap.size w1).alloc (Nat.le_refl _) (.cells #[.int .u64 (16 + (l.length : Int))] 27)).trans (hb2.mono (by simp))
  have hB2 := hB1.trans (hb2'.mono (by omega))
  have hz2 := hB2.size
  have ho1b := ho1.mono hb2'
  go_wp2_with (first | (at_builtin; refine wpList_appOwn rfl rfl Try.oneB rfl rfl ho3 hr3.raw (fun _ => rfl) (by omega) (by omega) (by omega) ?_; intro a4 c4 w4 ho4 hb4 _ _) | (at_builtin; go_must (refine wpList_appOwn rfl rfl Try.oneB rfl rfl ho1b ho2.rd.raw (fun _ => rfl) (by omega) (by omega) (by omega) ?_); intro a3 c3 w3 ho3 hb3 _ _; have hr3 := hr.mono (hB2.trans hb3); have hz3 := hb3.size))
  have hB4 := (hB2.trans hb3).trans hb4
  have e0 : kind :: List.replicate 7 0 ++ digs 8 (16 + (l.length : Int)) ++ l = kind :: (List.replicate 7 0 ++ (digs 8 (16 + (l.length : Int)) ++ l)) := by simp
  rw [e0] at ho4
  generalize hP : (8 - l.length % 8) % 8 = P
  generalize hX : kind :: (List.replicate 7 0 ++ (digs 8 (16 + (l.length : Int)) ++ l)) = X at ho4
  have HX := Lib.hid hX
  have HP := Lib.hid hP
  clear hX e0
  go_loopw [5] (fun s wr => ∃ (k : Nat) (a' : Option Addr) (c' : Nat), k ≤ P ∧ s = .slice a' (16 + l.length + k) c' ∧ Own (Value.int .u8) 5 wr w.heap.size a' (16 + l.length + k) c' (X ++ List.replicate k 0) ∧ Below w.heap.size w wr) (fun s _ => 16 + l.length + P - lenV s)
  case atStart => exact ⟨0, a4, c4, Nat.zero_le _, rfl, by simpa using ho4, hB4⟩
  case round =>
    obtain ⟨k, a', c', hk, rfl, ho, hB⟩ := hrel
    have hsz := hB.size
    by_cases hlt : k < P
    · have hd : ((16 + (l.length : Int) + (k : Int)) % 8 != 0) = true := by rw [bne_iff_ne]; omega
      go_wp2_with (at_builtin; go_must (refine wpList_appOwn rfl rfl Try.oneB rfl rfl (ho.alloc _) (Rd.one _ _ _ _) (fun _ => rfl) (by omega) (by omega) (by simp; omega) ?_); intro a5 c5 w5 ho5 hb5 _ _)
      go_roundw
      case rel => exact ⟨k + 1, a5, c5, by omega, rfl, by rw [List.append_assoc, ← List.replicate_succ'] at ho5; exact ho5, hB.trans (((Below.refl _ _).alloc hsz _).trans hb5)⟩
      case measure => simp [lenV]; omega
    · obtain rfl : k = P := by omega
      have hd : ((16 + (l.length : Int) + (k : Int)) % 8 != 0) = false := by rw [bne_eq_false_iff_eq]; omega
      go_wp2
      go_ret
      have hll := objL_length kind l
      rw [HP.out] at hll
      have e1 : X ++ List.replicate k 0 = objL kind l := by rw [← HX.out, ← HP.out]; simp [objL]
      rw [e1] at ho
      rw [← hll] at ho ⊢
      exact ⟨a', c', rfl, ⟨objL_isB (by omega) hr.1, ho⟩, hB⟩
end Go.Proofs.Ytpkmdnfkeebgbaa

/- append that must grow: the answer is the call's own. No program in sight; no condition. -/
namespace Go.Proofs.Ytpkmdnfkeebgbaa
open Go.ChangeShapes Go.WideShapes Go.ChangeAt Go.RowKit
set_option linter.unusedVariables false
set_option linter.unusedSimpArgs false

section
variable {α : Type} {P : Program} {w : World} {ops : Array Oper} {rest : List Oper} {o : Oper} {a : Act} {Q : Exit → Act → World → Prop}
theorem own_of_row {enc : α → Value} {e : TypeId} {base : Nat} {v : Value} {n : Nat} {l : List α} {w : World} (h : w.ownsRow base e 1 v n (l.map enc)) : ∃ a c, v = .slice a n c ∧ Own enc e w base a n c l := by
  have hl : l.length = n := by simpa using h.1
  rcases h.2 with ⟨hv, h0⟩ | ⟨g, cap, cur, hv, r⟩
  · subst hv; subst h0
    exact ⟨none, 0, rfl, hl, h⟩
  · subst hv
    exact ⟨_, cap, rfl, hl, h⟩
theorem wpList_appGrow {enc : α → Value} (hgd : o.guard = none) {s x : Operand} {t : TypeId} (ho : o.op = .call { callee := .builtin .append, args := #[s, x], argTypes := #[t, t] })
    {e : TypeId} {bytes : Nat} (hI : OneInfo P t e bytes) {sa xa : Option Addr} {sn sc xn xc : Nat} (hs : a.eval s = .slice sa sn sc) (hx : a.eval x = .slice xa xn xc)
    {l1 l2 : List α} (hr1 : Rd enc w sa sn sc l1) (hr : Rd enc w xa xn xc l2) (h1 : ∀ y, (enc y).oneCell' = true) (hfull : sc < sn + xn)
    (hfit : (sn + xn) * bytes ≤ 140737488355328) (hfit2 : sn + xn ≤ 140737488355328)
    (h : ∀ a' c' w', Own enc e w' w.heap.size a' (sn + xn) c' (l1 ++ l2) → Below w.heap.size w w' → wpList P ops Q rest (a.put o.dst (.slice a' (sn + xn) c')) w') : wpList P ops Q (o :: rest) a w := by
  obtain ⟨ht, i, z, hi, hz, hsize, hby, hzs⟩ := hI
  obtain ⟨hl1, hsc, hm1, hn1, hc1⟩ := hr1
  obtain ⟨b2, o2, rfl, hb2, hcs2⟩ := hr.at (by omega)
  refine wpList_append_grows w hgd s x t ho e i z 1 bytes ht hi hz hsize hby hzs (by decide) sa sn sc (l1.map enc) hs ?_ (by simp; omega) ?_ ⟨b2, o2, none⟩ xn xc (l2.map enc) hx (by simp [hr.1]) ?_ ?_ hfull (by unfold maxLen; omega) hfit ?_
  · intro h0; have := hn1 h0; exact ⟨by omega, this⟩
  · intro b hb j u hj
    rcases hc1 with hc1 | ⟨b1, o1, h1', hlt, hcs⟩
    · subst hc1
      obtain rfl : l1 = [] := List.eq_nil_of_length_eq_zero hl1
      simp at hj
    · rw [hb] at h1'; cases h1'
      rw [List.getElem?_map] at hj
      obtain ⟨y, hy, rfl⟩ := Option.map_eq_some_iff.1 hj
      rw [addr_add]; exact hcs j y hy
  · intro j u hj
    rw [List.getElem?_map] at hj
    obtain ⟨y, hy, rfl⟩ := Option.map_eq_some_iff.1 hj
    rw [addr_add]; exact hcs2 j y hy
  · intro u hu
    obtain ⟨y, _, rfl⟩ := List.mem_map.1 hu
    exact h1 y
  · intro v' w' hown hg
    rw [← List.map_append] at hown
    obtain ⟨a', c', rfl, ho'⟩ := own_of_row hown
    exact h a' c' w' ho' ⟨hg.os, hg.tape, hg.output, hg.size, fun k hk => hg.block k hk (by simp)⟩
end
end Go.Proofs.Ytpkmdnfkeebgbaa

/- What the document's own HeadBytes computes: the same bytes. Conditions stand as premises. -/
namespace Go.Proofs.Ytpkmdnfkeebgbaa
open Go.ChangeShapes Go.WideShapes Go.ChangeAt Go.RowKit
set_option linter.unusedVariables false
set_option linter.unusedSimpArgs false

theorem low4_any (v : Int) (w : World) (hv : U32 v) :
    Calls Try.prog 27 #[.int .u64 v, .int .i64 4] w fun e w' => ∃ a c, e = .returned (.slice a 4 c) ∧ OwnB 5 w' w.heap.size a 4 c (digs 4 v) ∧ Below w.heap.size w w' := by
  refine (low_any v 4 w ⟨hv.1, by have := hv.2; omega⟩ (by omega)).mono ?_
  rintro e w' ⟨a, c, rfl, ho, hb⟩
  rw [digs_length] at ho ⊢
  exact ⟨a, c, rfl, ho, hb⟩
theorem numsn_any (a2 : Option Addr) (n2 c2 m : Nat) (vs : List Int) (w : World) (hr2 : Rd (Value.int .u64) w a2 n2 c2 vs) (hv : ∀ v ∈ vs, U64 v) (hlen2 : n2 ≤ 1000) (hm : m = 8 * n2) :
    Calls Try.prog 28 #[.slice a2 n2 c2] w fun e w' => ∃ a c, e = .returned (.slice a m c) ∧ OwnB 5 w' w.heap.size a m c (numsL vs) ∧ Below w.heap.size w w' := by
  refine (nums_any a2 n2 c2 vs w hr2 hv hlen2).mono ?_
  rintro e w' ⟨a, c, rfl, ho, hb⟩
  have hl : (numsL vs).length = m := by rw [numsL_length, hr2.1, hm]
  rw [hl] at ho ⊢
  exact ⟨a, c, rfl, ho, hb⟩
theorem headr_ta {w : World} {S : Nat} {co inc st : Int} {I Ns : List Int} {ta ti te : Int} {T : TypeId} (h : w.heap[S]? = some (.cells (headL co inc st I Ns ta ti te).toArray T (0, 0))) (hI : I.length = 64) (hN : Ns.length = 20) : w.cell? ⟨S, 87, none⟩ = some (.int .u32 ta) := cell_of_heap h 87 _ (headL_ta hI hN)
theorem headr_ti {w : World} {S : Nat} {co inc st : Int} {I Ns : List Int} {ta ti te : Int} {T : TypeId} (h : w.heap[S]? = some (.cells (headL co inc st I Ns ta ti te).toArray T (0, 0))) (hI : I.length = 64) (hN : Ns.length = 20) : w.cell? ⟨S, 88, none⟩ = some (.int .u32 ti) := cell_of_heap h 88 _ (headL_ti hI hN)
theorem headr_te {w : World} {S : Nat} {co inc st : Int} {I Ns : List Int} {ta ti te : Int} {T : TypeId} (h : w.heap[S]? = some (.cells (headL co inc st I Ns ta ti te).toArray T (0, 0))) (hI : I.length = 64) (hN : Ns.length = 20) : w.cell? ⟨S, 89, none⟩ = some (.int .u64 te) := cell_of_heap h 89 _ (headL_te hI hN)
theorem four_ids (I : List Int) (hI : I.length = 64) : idN I 0 ++ idN I 16 ++ idN I 32 ++ idN I 48 = I := by
  have h := take_id I 3
  have h2 := take_id I 2
  have h1 := take_id I 1
  have h0 := take_id I 0
  simp only [Nat.reduceMul, Nat.reduceAdd, List.take_zero, List.nil_append] at h h2 h1 h0
  rw [← h0, ← h1, ← h2, ← h, List.take_of_length_le (by omega)]
theorem headL_nums {w : World} {S : Nat} {co inc st : Int} {I Ns : List Int} {ta ti te : Int} {T : TypeId} (h : w.heap[S]? = some (.cells (headL co inc st I Ns ta ti te).toArray T (0, 0))) (hI : I.length = 64) (n : Nat) (hN : Ns.length = n) (hn : n ≤ 1000) : Rd (Value.int .u64) w (some ⟨S, 67, none⟩) n n Ns :=
  ⟨hN, Nat.le_refl _, by unfold maxLen; omega, fun h => (by cases h), .inr ⟨S, 67, rfl, lt_of_heap h, fun i x hx => cell_of_heap h (67 + i) _ (headL_N hI i x hx)⟩⟩

set_option maxRecDepth 100000 in
set_option maxHeartbeats 4000000 in
theorem refheadb_any (co inc st : Int) (I Ns : List Int) (ta ti te d : Int) (w : World) (hI : I.length = 64) (hN : Ns.length = 20) (hIB : IsB I) (h1 : U32 co) (h2 : U32 inc) (h3 : ∀ v ∈ Ns, U64 v) (h4 : U32 ta) (h5 : U32 ti) (h6 : U64 te) (h7 : U64 d) :
    Calls Try.prog 15 #[.agg (headL co inc st I Ns ta ti te).toArray, .int .u64 d] w (NewB w.heap.size w (headB co inc st I (Ns ++ [d]) ta ti te)) := by
  have HI := Lib.hid hI
  have HN := Lib.hid hN
  have HIB := Lib.hid hIB
  have H1 := Lib.hid h1
  have H2 := Lib.hid h2
  have H3 := Lib.hid h3
  have H4 := Lib.hid h4
  have H5 := Lib.hid h5
  have H6 := Lib.hid h6
  have H7 := Lib.hid h7
  obtain ⟨c0, c1⟩ := h1
  obtain ⟨n0, n1⟩ := h2
  obtain ⟨a0, a1⟩ := h4
  obtain ⟨t0, t1⟩ := h5
  have HW1 := Lib.hid (show IntKind.u64.wrap co = co by rw [IntKind.wrap_u64]; omega)
  have HW2 := Lib.hid (show IntKind.u64.wrap inc = inc by rw [IntKind.wrap_u64]; omega)
  have HW4 := Lib.hid (show IntKind.u64.wrap ta = ta by rw [IntKind.wrap_u64]; omega)
  have HW5 := Lib.hid (show IntKind.u64.wrap ti = ti by rw [IntKind.wrap_u64]; omega)
  clear hI hN hIB h3 h6 h7
  go_enter Try.func15, Try.ntmps15
  go_upto_region 1 with fail
  have hX1 := heap_alloc_new w (.cells (headL co inc st I Ns ta ti te).toArray 34)
  have HB1 := Lib.hid (below_alloc w (.cells (headL co inc st I Ns ta ti te).toArray 34))
  generalize w.alloc (.cells (headL co inc st I Ns ta ti te).toArray 34) = w1 at hX1 HB1 ⊢
  obtain ⟨S, hS⟩ : ∃ S, w.heap.size = S := ⟨_, rfl⟩
  have HS := Lib.hid hS
  rw [hS] at hX1 ⊢
  clear hS
  have hSw1 := lt_of_heap hX1
  have HX1 := Lib.hid hX1
  have i0 := headl_0 hX1
  clear hX1
  have kc := Lib.run_convert_bytes_const (P := Try.prog) w1 22 5 #[.int .u8 76, .int .u8 80, .int .u8 75, .int .u8 83, .int .u8 72, .int .u8 72, .int .u8 82, .int .u8 72] 8 8 Try.underlying22 Try.underlying5
  have HL8 := Lib.hid (RdB.marked w1 signL 5 (8, 9) #[.int .u8 76, .int .u8 80, .int .u8 75, .int .u8 83, .int .u8 72, .int .u8 72, .int .u8 82, .int .u8 72] 8 8 rfl rfl (by omega) (by decide) (by unfold signL IsB; simp))
  have HBA := Lib.hid (below_alloc w1 (.cells #[.int .u8 76, .int .u8 80, .int .u8 75, .int .u8 83, .int .u8 72, .int .u8 72, .int .u8 82, .int .u8 72] 5 (8, 9)))
  have hY1 : (w1.alloc (.cells #[.int .u8 76, .int .u8 80, .int .u8 75, .int .u8 83, .int .u8 72, .int .u8 72, .int .u8 82, .int .u8 72] 5 (8, 9))).cell? ⟨S, 0, none⟩ = some (.int .u32 co) := bcell HBA.out hSw1 i0
  go_upto_region 2 with (first
    | (go_at_call 27; refine (low4_any co _ H1.out).mono ?_; rintro e w2 ⟨a2, c2, rfl, ho2, hb2⟩; have HB2 := Lib.hid (HBA.out.trans (hb2.mono HBA.out.size)); have HR2 := Lib.hid ho2.rd; have HL2 := Lib.hid (HL8.out.mono hb2); clear ho2 hb2 kc hY1 i0)
    | (at_builtin; go_must (refine wpList_appGrow rfl rfl Try.oneB rfl rfl HL2.out.2 HR2.out.2 (fun _ => rfl) (by omega) (by omega) (by omega) ?_); intro a3 c3 w3 ho3 hb3))
  have HB3 := Lib.hid (HB2.out.trans (hb3.mono HB2.out.size))
  have HO3 := Lib.hid (show OwnB 5 w3 w1.heap.size a3 12 c3 (signL ++ digs 4 co) from ⟨HL2.out.1.append HR2.out.1, ho3.base HB2.out.size⟩)
  have i1 := headl_1 (row_below HB3.out hSw1 HX1.out)
  clear ho3 hb3 HL2 HR2 HB2 HL8 HBA
  go_upto_region 3 with (first
    | (go_at_call 27; refine (low4_any inc _ H2.out).mono ?_; rintro e w4 ⟨a4, c4, rfl, ho4, hb4⟩; have HB4 := Lib.hid (HB3.out.trans (hb4.mono HB3.out.size)); have HR4 := Lib.hid ho4.rd; have HO4 := Lib.hid (HO3.out.mono hb4); clear ho4 hb4)
    | (at_builtin; go_must (refine wpList_appOwn rfl rfl Try.oneB rfl rfl HO4.out.2 HR4.out.2 (fun _ => rfl) (by omega) (by omega) HB4.out.size ?_); intro a5 c5 w5 ho5 hb5 _ _))
  have HB5 := Lib.hid (HB4.out.trans hb5)
  have HO5 := Lib.hid ho5
  have i2 := headl_2 (row_below HB5.out hSw1 HX1.out)
  clear ho5 hb5 HR4 HO4 HB4 HO3 HB3 i1
  have HRL := Lib.hid (Rd.lits (Value.int .u8) 5 w5 [st % 256, 0, 0, 0, 0, 0, 0, 0] #[.int .u8 (st % 256), .int .u8 0, .int .u8 0, .int .u8 0, .int .u8 0, .int .u8 0, .int .u8 0, .int .u8 0] 8 rfl rfl (by omega))
  have HBL := Lib.hid (below_alloc w5 (.cells #[.int .u8 (st % 256), .int .u8 0, .int .u8 0, .int .u8 0, .int .u8 0, .int .u8 0, .int .u8 0, .int .u8 0] 5))
  have hz5 := Nat.le_trans HB5.out.size HBL.out.size
  go_upto_region 4 with (at_builtin; go_must (refine wpList_appOwn rfl rfl Try.oneB rfl rfl (HO5.out.mono HBL.out) HRL.out (fun _ => rfl) (by omega) (by omega) hz5 ?_); intro a6 c6 w6 ho6 hb6 _ _)
  have HB6 := Lib.hid ((HB5.out.trans (HBL.out.mono HB5.out.size)).trans hb6).drew
  have HO6 := Lib.hid (show Own (Value.int .u8) 5 w6.drew w1.heap.size a6 24 c6 (headA co inc st) from Own.mono ho6 (below_drew w6))
  clear ho6 hb6 HRL HBL HO5 HB5 hz5 i2
  have hC : w6.drew.heap[S]? = some (.cells (headL co inc st I Ns ta ti te).toArray 34 (0, 0)) := row_below HB6.out hSw1 HX1.out
  refine wp_region_held (S := fun w' => w'.heap[S]? = some (.cells (headL co inc st I Ns ta ti te).toArray 34 (0, 0))) (by kernel_rfl) ?_
  change wpAnyH _ _ _ _ _ _ _ _ w6.drew
  refine held_take 0 (d := some 25) (v := (.slice a6 24 c6)) rfl rfl (by kernel_rfl) (by kernel_rfl) (by kernel_rfl) (fun _ _ _ h => h) hC (by kernel_rfl) (fun w hSw => by have x0 := hSw; go_simp) ?_
  try simp only [Act.put, List.setIfInBounds_toArray, List.set_cons_zero, List.set_cons_succ]
  refine held_take 1 (d := some 26) (v := (.pointer (some ⟨S, 3, none⟩))) rfl rfl (by kernel_rfl) (by kernel_rfl) (by kernel_rfl) (fun _ _ _ h => h) hC (by kernel_rfl) (fun w hSw => by have x0 := hSw; go_simp) ?_
  try simp only [Act.put, List.setIfInBounds_toArray, List.set_cons_zero, List.set_cons_succ]
  refine held_take 2 (d := some 27) (v := (.slice (some ⟨S, 3, none⟩) 16 16)) rfl rfl (by kernel_rfl) (by kernel_rfl) (by kernel_rfl) (fun _ _ _ h => h) hC (by kernel_rfl) (fun w hSw => by have x0 := hSw; go_simp) ?_
  try simp only [Act.put, List.setIfInBounds_toArray, List.set_cons_zero, List.set_cons_succ]
  refine held_take 4 (d := some 29) (v := (.pointer (some ⟨S, 19, none⟩))) rfl rfl (by kernel_rfl) (by kernel_rfl) (by kernel_rfl) (fun _ _ _ h => h) hC (by kernel_rfl) (fun w hSw => by have x0 := hSw; go_simp) ?_
  try simp only [Act.put, List.setIfInBounds_toArray, List.set_cons_zero, List.set_cons_succ]
  refine held_take 5 (d := some 30) (v := (.slice (some ⟨S, 19, none⟩) 16 16)) rfl rfl (by kernel_rfl) (by kernel_rfl) (by kernel_rfl) (fun _ _ _ h => h) hC (by kernel_rfl) (fun w hSw => by have x0 := hSw; go_simp) ?_
  try simp only [Act.put, List.setIfInBounds_toArray, List.set_cons_zero, List.set_cons_succ]
  refine held_take 7 (d := some 32) (v := (.pointer (some ⟨S, 35, none⟩))) rfl rfl (by kernel_rfl) (by kernel_rfl) (by kernel_rfl) (fun _ _ _ h => h) hC (by kernel_rfl) (fun w hSw => by have x0 := hSw; go_simp) ?_
  try simp only [Act.put, List.setIfInBounds_toArray, List.set_cons_zero, List.set_cons_succ]
  refine held_take 8 (d := some 33) (v := (.slice (some ⟨S, 35, none⟩) 16 16)) rfl rfl (by kernel_rfl) (by kernel_rfl) (by kernel_rfl) (fun _ _ _ h => h) hC (by kernel_rfl) (fun w hSw => by have x0 := hSw; go_simp) ?_
  try simp only [Act.put, List.setIfInBounds_toArray, List.set_cons_zero, List.set_cons_succ]
  refine held_take 10 (d := some 35) (v := (.pointer (some ⟨S, 51, none⟩))) rfl rfl (by kernel_rfl) (by kernel_rfl) (by kernel_rfl) (fun _ _ _ h => h) hC (by kernel_rfl) (fun w hSw => by have x0 := hSw; go_simp) ?_
  try simp only [Act.put, List.setIfInBounds_toArray, List.set_cons_zero, List.set_cons_succ]
  refine held_take 11 (d := some 36) (v := (.slice (some ⟨S, 51, none⟩) 16 16)) rfl rfl (by kernel_rfl) (by kernel_rfl) (by kernel_rfl) (fun _ _ _ h => h) hC (by kernel_rfl) (fun w hSw => by have x0 := hSw; go_simp) ?_
  try simp only [Act.put, List.setIfInBounds_toArray, List.set_cons_zero, List.set_cons_succ]
  refine held_one 3 rfl (by kernel_rfl) (fun K hK => ?_)
  have HS0 := Lib.hid ((row_range (o := 3) hC (idN I 0) (fun j v h => headL_id 0 j v h)).rd (idN_length HI.out _ (by omega)) (lt_of_heap hC) (by omega))
  refine step_appOwn rfl rfl Try.oneB rfl rfl HO6.out HS0.out (fun _ => rfl) (by omega) (by omega) HB6.out.size ?_
  intro a7 c7 w7 ho7 hb7 _ _
  have HB7 := Lib.hid (HB6.out.trans hb7)
  have HO7 := Lib.hid (show Own (Value.int .u8) 5 w7 w1.heap.size a7 40 c7 (headA co inc st ++ idN I 0) from ho7)
  have hC7 := row_below HB7.out hSw1 HX1.out
  clear hC ho7 hb7 HS0 HO6 HB6
  refine hK _ _ hC7 ?_
  clear hK K
  try simp only [Act.put, List.setIfInBounds_toArray, List.set_cons_zero, List.set_cons_succ]
  refine held_one 6 rfl (by kernel_rfl) (fun K hK => ?_)
  have HS1 := Lib.hid ((row_range (o := 19) hC7 (idN I 16) (fun j v h => headL_id 16 j v h)).rd (idN_length HI.out _ (by omega)) (lt_of_heap hC7) (by omega))
  refine step_appOwn rfl rfl Try.oneB rfl rfl HO7.out HS1.out (fun _ => rfl) (by omega) (by omega) HB7.out.size ?_
  intro a8 c8 w8 ho8 hb8 _ _
  have HB8 := Lib.hid (HB7.out.trans hb8)
  have HO8 := Lib.hid (show Own (Value.int .u8) 5 w8 w1.heap.size a8 56 c8 (headA co inc st ++ idN I 0 ++ idN I 16) from ho8)
  have hC8 := row_below HB8.out hSw1 HX1.out
  clear hC7 ho8 hb8 HS1 HO7 HB7
  refine hK _ _ hC8 ?_
  clear hK K
  try simp only [Act.put, List.setIfInBounds_toArray, List.set_cons_zero, List.set_cons_succ]
  refine held_one 9 rfl (by kernel_rfl) (fun K hK => ?_)
  have HS2 := Lib.hid ((row_range (o := 35) hC8 (idN I 32) (fun j v h => headL_id 32 j v h)).rd (idN_length HI.out _ (by omega)) (lt_of_heap hC8) (by omega))
  refine step_appOwn rfl rfl Try.oneB rfl rfl HO8.out HS2.out (fun _ => rfl) (by omega) (by omega) HB8.out.size ?_
  intro a9 c9 w9 ho9 hb9 _ _
  have HB9 := Lib.hid (HB8.out.trans hb9)
  have HO9 := Lib.hid (show Own (Value.int .u8) 5 w9 w1.heap.size a9 72 c9 (headA co inc st ++ idN I 0 ++ idN I 16 ++ idN I 32) from ho9)
  have hC9 := row_below HB9.out hSw1 HX1.out
  clear hC8 ho9 hb9 HS2 HO8 HB8
  refine hK _ _ hC9 ?_
  clear hK K
  try simp only [Act.put, List.setIfInBounds_toArray, List.set_cons_zero, List.set_cons_succ]
  refine held_one 12 rfl (by kernel_rfl) (fun K hK => ?_)
  have HS3 := Lib.hid ((row_range (o := 51) hC9 (idN I 48) (fun j v h => headL_id 48 j v h)).rd (idN_length HI.out _ (by omega)) (lt_of_heap hC9) (by omega))
  refine step_appOwn rfl rfl Try.oneB rfl rfl HO9.out HS3.out (fun _ => rfl) (by omega) (by omega) HB9.out.size ?_
  intro a10 c10 w10 ho10 hb10 _ _
  have HB10 := Lib.hid (HB9.out.trans hb10)
  have HO10 := Lib.hid (show Own (Value.int .u8) 5 w10 w1.heap.size a10 88 c10 (headA co inc st ++ idN I 0 ++ idN I 16 ++ idN I 32 ++ idN I 48) from ho10)
  have hC10 := row_below HB10.out hSw1 HX1.out
  clear hC9 ho10 hb10 HS3 HO9 HB9
  refine hK _ _ hC10 ?_
  clear hK K
  try simp only [Act.put, List.setIfInBounds_toArray, List.set_cons_zero, List.set_cons_succ]
  refine held_take 13 (d := some 5) (v := (.slice a10 88 c10)) rfl rfl (by kernel_rfl) (by kernel_rfl) (by kernel_rfl) (fun _ _ _ h => h) hC10 (by kernel_rfl) (fun w hSw => by clear hSw; go_simp) ?_
  try simp only [Act.put, List.setIfInBounds_toArray, List.set_cons_zero, List.set_cons_succ]
  refine wpAnyH_done (by kernel_rfl) ?_ _
  have HOI := Lib.hid (show Own (Value.int .u8) 5 w10 w1.heap.size a10 88 c10 (headA co inc st ++ I) from by have h := HO10.out; rw [List.append_assoc, List.append_assoc, List.append_assoc] at h; have e := four_ids I HI.out; rw [List.append_assoc, List.append_assoc] at e; rw [e] at h; exact h)
  have HN10 := Lib.hid (headL_nums hC10 HI.out 20 HN.out (by omega))
  clear HO10
  go_upto_region 5 with fail
  go_upto_region 6 with (first
    | (go_at_call 28; with_reducible refine (numsn_any _ 20 20 160 Ns _ HN10.out H3.out (by omega) (by omega)).mono ?_; rintro e w11 ⟨a11, c11, rfl, ho11, hb11⟩; have HB11 := Lib.hid (HB10.out.trans (hb11.mono HB10.out.size)); have HR11 := Lib.hid ho11.rd; have HO11 := Lib.hid (HOI.out.mono hb11); clear ho11 hb11)
    | (at_builtin; refine wpList_appOwn rfl rfl Try.oneB rfl rfl HO13.out HR13.out.2 (fun _ => rfl) (by omega) (by omega) HB13.out.size ?_; intro a14 c14 w14 ho14 hb14 _ _; have HB14 := Lib.hid (HB13.out.trans hb14).drew; have HO14 := Lib.hid (Own.mono ho14 (below_drew w14)); clear ho14 hb14 HR13 HO13 HB13 HB12 HO12)
    | (at_builtin; go_must (refine wpList_appOwn rfl rfl Try.oneB rfl rfl HO11.out HR11.out.2 (fun _ => rfl) (by omega) (by omega) HB11.out.size ?_); intro a12 c12 w12 ho12 hb12 _ _; have HB12 := Lib.hid (HB11.out.trans hb12); have HO12 := Lib.hid ho12; clear ho12 hb12 HR11 HO11 HB11; have HRd := Lib.hid (Rd.one (Value.int .u64) 27 w12 d); have HAd := Lib.hid (below_alloc w12 (.cells #[.int .u64 d] 27)); have HBd := Lib.hid (HB12.out.trans (HAd.out.mono HB12.out.size)); have HOd := Lib.hid (HO12.out.mono HAd.out))
    | (go_at_call 28; with_reducible refine (numsn_any _ 1 1 8 [d] _ HRd.out (by intro v hv; simp at hv; subst hv; exact H7.out) (by omega) (by omega)).mono ?_; rintro e w13 ⟨a13, c13, rfl, ho13, hb13⟩; have HB13 := Lib.hid (HBd.out.trans (hb13.mono HBd.out.size)); have HR13 := Lib.hid ho13.rd; have HO13 := Lib.hid (HOd.out.mono hb13); clear ho13 hb13))
  have hC : w14.drew.heap[S]? = some (.cells (headL co inc st I Ns ta ti te).toArray 34 (0, 0)) := row_below HB14.out hSw1 HX1.out
  refine wp_region_held (S := fun w' => w'.heap[S]? = some (.cells (headL co inc st I Ns ta ti te).toArray 34 (0, 0))) (by kernel_rfl) ?_
  change wpAnyH _ _ _ _ _ _ _ _ w14.drew
  refine held_take 0 (d := some 47) (v := (.slice a14 256 c14)) rfl rfl (by kernel_rfl) (by kernel_rfl) (by kernel_rfl) (fun _ _ _ h => h) hC (by kernel_rfl) (fun w hSw => by have x0 := headr_ta hSw HI.out HN.out; have x1 := headr_ti hSw HI.out HN.out; clear hSw; go_simp) ?_
  try simp only [Act.put, List.setIfInBounds_toArray, List.set_cons_zero, List.set_cons_succ]
  refine held_take 1 (d := some 48) (v := (.pointer (some ⟨S, 87, none⟩))) rfl rfl (by kernel_rfl) (by kernel_rfl) (by kernel_rfl) (fun _ _ _ h => h) hC (by kernel_rfl) (fun w hSw => by have x0 := headr_ta hSw HI.out HN.out; have x1 := headr_ti hSw HI.out HN.out; clear hSw; go_simp) ?_
  try simp only [Act.put, List.setIfInBounds_toArray, List.set_cons_zero, List.set_cons_succ]
  refine held_take 2 (d := some 49) (v := (.int .u32 ta)) rfl rfl (by kernel_rfl) (by kernel_rfl) (by kernel_rfl) (fun _ _ _ h => h) hC (by kernel_rfl) (fun w hSw => by have x0 := headr_ta hSw HI.out HN.out; have x1 := headr_ti hSw HI.out HN.out; clear hSw; go_simp) ?_
  try simp only [Act.put, List.setIfInBounds_toArray, List.set_cons_zero, List.set_cons_succ]
  refine held_take 3 (d := some 50) (v := (.int .u64 ta)) rfl rfl (by kernel_rfl) (by kernel_rfl) (by kernel_rfl) (fun _ _ _ h => h) hC (by kernel_rfl) (fun w hSw => by go_simp; exact HW4.out) ?_
  try simp only [Act.put, List.setIfInBounds_toArray, List.set_cons_zero, List.set_cons_succ]
  refine held_take 6 (d := some 53) (v := (.pointer (some ⟨S, 88, none⟩))) rfl rfl (by kernel_rfl) (by kernel_rfl) (by kernel_rfl) (fun _ _ _ h => h) hC (by kernel_rfl) (fun w hSw => by have x0 := headr_ta hSw HI.out HN.out; have x1 := headr_ti hSw HI.out HN.out; clear hSw; go_simp) ?_
  try simp only [Act.put, List.setIfInBounds_toArray, List.set_cons_zero, List.set_cons_succ]
  refine held_take 7 (d := some 54) (v := (.int .u32 ti)) rfl rfl (by kernel_rfl) (by kernel_rfl) (by kernel_rfl) (fun _ _ _ h => h) hC (by kernel_rfl) (fun w hSw => by have x0 := headr_ta hSw HI.out HN.out; have x1 := headr_ti hSw HI.out HN.out; clear hSw; go_simp) ?_
  try simp only [Act.put, List.setIfInBounds_toArray, List.set_cons_zero, List.set_cons_succ]
  refine held_take 8 (d := some 55) (v := (.int .u64 ti)) rfl rfl (by kernel_rfl) (by kernel_rfl) (by kernel_rfl) (fun _ _ _ h => h) hC (by kernel_rfl) (fun w hSw => by go_simp; exact HW5.out) ?_
  try simp only [Act.put, List.setIfInBounds_toArray, List.set_cons_zero, List.set_cons_succ]
  clear HN10 HOI HRd HAd HBd HOd HB10
  refine held_one 4 rfl (by kernel_rfl) (fun K hK => ?_)
  go_simp
  go_at_call 27
  refine (low4_any ta _ H4.out).mono ?_
  rintro e w15 ⟨a15, c15, rfl, ho15, hb15⟩
  have HB15 := Lib.hid (HB14.out.trans (hb15.mono HB14.out.size))
  have HO15 := Lib.hid (HO14.out.mono hb15)
  have HR15 := Lib.hid ho15.rd.2
  have hC15 := row_below HB15.out hSw1 HX1.out
  clear hC ho15 hb15 HO14 HB14
  go_simp
  refine hK _ _ hC15 ?_
  clear hK K
  try simp only [Act.put, List.setIfInBounds_toArray, List.set_cons_zero, List.set_cons_succ]
  refine held_one 5 rfl (by kernel_rfl) (fun K hK => ?_)
  refine step_appOwn rfl rfl Try.oneB rfl rfl HO15.out HR15.out (fun _ => rfl) (by omega) (by omega) HB15.out.size ?_
  intro a16 c16 w16 ho16 hb16 _ _
  have HB16 := Lib.hid (HB15.out.trans hb16)
  have HO16 := Lib.hid ho16
  have hC16 := row_below HB16.out hSw1 HX1.out
  clear hC15 ho16 hb16 HO15 HB15 HR15
  refine hK _ _ hC16 ?_
  clear hK K
  try simp only [Act.put, List.setIfInBounds_toArray, List.set_cons_zero, List.set_cons_succ]
  refine held_one 9 rfl (by kernel_rfl) (fun K hK => ?_)
  go_simp
  go_at_call 27
  refine (low4_any ti _ H5.out).mono ?_
  rintro e w17 ⟨a17, c17, rfl, ho17, hb17⟩
  have HB17 := Lib.hid (HB16.out.trans (hb17.mono HB16.out.size))
  have HO17 := Lib.hid (HO16.out.mono hb17)
  have HR17 := Lib.hid ho17.rd.2
  have hC17 := row_below HB17.out hSw1 HX1.out
  clear hC16 ho17 hb17 HO16 HB16
  go_simp
  refine hK _ _ hC17 ?_
  clear hK K
  try simp only [Act.put, List.setIfInBounds_toArray, List.set_cons_zero, List.set_cons_succ]
  refine held_one 10 rfl (by kernel_rfl) (fun K hK => ?_)
  refine step_appOwn rfl rfl Try.oneB rfl rfl HO17.out HR17.out (fun _ => rfl) (by omega) (by omega) HB17.out.size ?_
  intro a18 c18 w18 ho18 hb18 _ _
  have HB18 := Lib.hid (HB17.out.trans hb18)
  have HO18 := Lib.hid ho18
  have hC18 := row_below HB18.out hSw1 HX1.out
  clear hC17 ho18 hb18 HO17 HB17 HR17
  refine hK _ _ hC18 ?_
  clear hK K
  try simp only [Act.put, List.setIfInBounds_toArray, List.set_cons_zero, List.set_cons_succ]
  refine held_take 11 (d := some 5) (v := (.slice a18 264 c18)) rfl rfl (by kernel_rfl) (by kernel_rfl) (by kernel_rfl) (fun _ _ _ h => h) hC18 (by kernel_rfl) (fun w hSw => by clear hSw; go_simp) ?_
  try simp only [Act.put, List.setIfInBounds_toArray, List.set_cons_zero, List.set_cons_succ]
  refine wpAnyH_done (by kernel_rfl) ?_ _
  have i89 := headr_te hC18 HI.out HN.out
  have HRe := Lib.hid (Rd.one (Value.int .u64) 27 w18 te)
  have HAe := Lib.hid (below_alloc w18 (.cells #[.int .u64 te] 27))
  have HBe := Lib.hid (HB18.out.trans (HAe.out.mono HB18.out.size))
  have HOe := Lib.hid (HO18.out.mono HAe.out)
  clear hC18 HAe HO18
  go_wp2_with (first
    | (go_at_call 28; with_reducible refine (numsn_any _ 1 1 8 [te] _ HRe.out (by intro v hv; simp at hv; subst hv; exact H6.out) (by omega) (by omega)).mono ?_; rintro e w19 ⟨a19, c19, rfl, ho19, hb19⟩; have HB19 := Lib.hid (HBe.out.trans (hb19.mono HBe.out.size)); have HR19 := Lib.hid ho19.rd; have HO19 := Lib.hid (HOe.out.mono hb19); clear ho19 hb19)
    | (at_builtin; go_must (refine wpList_appOwn rfl rfl Try.oneB rfl rfl HO19.out HR19.out.2 (fun _ => rfl) (by omega) (by omega) HB19.out.size ?_); intro a20 c20 w20 ho20 hb20 _ _; have HB20 := Lib.hid (HB19.out.trans hb20); have HO20 := Lib.hid ho20))
  go_ret
  have hlen : (headB co inc st I (Ns ++ [d]) ta ti te).length = 272 := by rw [headB_length HI.out, List.length_append, HN.out]; rfl
  have hBf := HB1.out.trans (HB20.out.mono HB1.out.size)
  have he : headA co inc st ++ I ++ numsL Ns ++ numsL [d] ++ digs 4 ta ++ digs 4 ti ++ numsL [te] = headB co inc st I (Ns ++ [d]) ta ti te := by simp [headB, numsL]
  refine ⟨a20, c20, by rw [hlen]; rfl, ⟨headB_isB HIB.out, ?_⟩, hBf⟩
  rw [hlen, ← he]
  exact HO20.out.base HB1.out.size
end Go.Proofs.Ytpkmdnfkeebgbaa

/- What the law's of computes: the document's head as the package's. Conditions stand as premises. -/
namespace Go.Proofs.Ytpkmdnfkeebgbaa
open Go.ChangeShapes Go.WideShapes Go.ChangeAt Go.RowKit
set_option linter.unusedVariables false
set_option linter.unusedSimpArgs false

set_option maxRecDepth 100000 in
theorem Try.builtH0 (co inc st a0 a1 a2 a3 a4 a5 a6 a7 a8 a9 a10 a11 a12 a13 a14 a15 b0 b1 b2 b3 b4 b5 b6 b7 b8 b9 b10 b11 b12 b13 b14 b15 c0 c1 c2 c3 c4 c5 c6 c7 c8 c9 c10 c11 c12 c13 c14 c15 e0 e1 e2 e3 e4 e5 e6 e7 e8 e9 e10 e11 e12 e13 e14 e15 n0 n1 n2 n3 n4 n5 n6 n7 n8 n9 n10 n11 n12 n13 n14 n15 n16 n17 n18 n19 d ta ti te : Int) :
    Try.prog.built 29 [(0, .int .u32 co), (1, .int .u32 inc), (2, .int .i64 st), (3, .agg ([a0, a1, a2, a3, a4, a5, a6, a7, a8, a9, a10, a11, a12, a13, a14, a15].map (Value.int .u8)).toArray), (4, .agg ([b0, b1, b2, b3, b4, b5, b6, b7, b8, b9, b10, b11, b12, b13, b14, b15].map (Value.int .u8)).toArray), (5, .agg ([c0, c1, c2, c3, c4, c5, c6, c7, c8, c9, c10, c11, c12, c13, c14, c15].map (Value.int .u8)).toArray), (6, .agg ([e0, e1, e2, e3, e4, e5, e6, e7, e8, e9, e10, e11, e12, e13, e14, e15].map (Value.int .u8)).toArray), (7, .int .u64 n0), (8, .int .u64 n1), (9, .int .u64 n2), (10, .int .u64 n3), (11, .int .u64 n4), (12, .int .u64 n5), (13, .int .u64 n6), (14, .int .u64 n7), (15, .int .u64 n8), (16, .int .u64 n9), (17, .int .u64 n10), (18, .int .u64 n11), (19, .int .u64 n12), (20, .int .u64 n13), (21, .int .u64 n14), (22, .int .u64 n15), (23, .int .u64 n16), (24, .int .u64 n17), (25, .int .u64 n18), (26, .int .u64 n19), (27, .int .u64 d), (28, .int .u32 ta), (29, .int .u32 ti), (30, .int .u64 te)] = some (headL co inc st ([a0, a1, a2, a3, a4, a5, a6, a7, a8, a9, a10, a11, a12, a13, a14, a15] ++ [b0, b1, b2, b3, b4, b5, b6, b7, b8, b9, b10, b11, b12, b13, b14, b15] ++ [c0, c1, c2, c3, c4, c5, c6, c7, c8, c9, c10, c11, c12, c13, c14, c15] ++ [e0, e1, e2, e3, e4, e5, e6, e7, e8, e9, e10, e11, e12, e13, e14, e15]) ([n0, n1, n2, n3, n4, n5, n6, n7, n8, n9, n10, n11, n12, n13, n14, n15, n16, n17, n18, n19] ++ [d]) ta ti te).toArray := by kernel_rfl
theorem Try.builtH (co inc st n0 n1 n2 n3 n4 n5 n6 n7 n8 n9 n10 n11 n12 n13 n14 n15 n16 n17 n18 n19 d ta ti te : Int) (A B C D : List Int) (hA : A.length = 16) (hB : B.length = 16) (hC : C.length = 16) (hD : D.length = 16) :
    Try.prog.built 29 [(0, .int .u32 co), (1, .int .u32 inc), (2, .int .i64 st), (3, .agg (A.map (Value.int .u8)).toArray), (4, .agg (B.map (Value.int .u8)).toArray), (5, .agg (C.map (Value.int .u8)).toArray), (6, .agg (D.map (Value.int .u8)).toArray), (7, .int .u64 n0), (8, .int .u64 n1), (9, .int .u64 n2), (10, .int .u64 n3), (11, .int .u64 n4), (12, .int .u64 n5), (13, .int .u64 n6), (14, .int .u64 n7), (15, .int .u64 n8), (16, .int .u64 n9), (17, .int .u64 n10), (18, .int .u64 n11), (19, .int .u64 n12), (20, .int .u64 n13), (21, .int .u64 n14), (22, .int .u64 n15), (23, .int .u64 n16), (24, .int .u64 n17), (25, .int .u64 n18), (26, .int .u64 n19), (27, .int .u64 d), (28, .int .u32 ta), (29, .int .u32 ti), (30, .int .u64 te)] = some (headL co inc st (A ++ B ++ C ++ D) ([n0, n1, n2, n3, n4, n5, n6, n7, n8, n9, n10, n11, n12, n13, n14, n15, n16, n17, n18, n19] ++ [d]) ta ti te).toArray := by
  obtain ⟨a0, a1, a2, a3, a4, a5, a6, a7, a8, a9, a10, a11, a12, a13, a14, a15, rfl⟩ := list16 hA
  obtain ⟨b0, b1, b2, b3, b4, b5, b6, b7, b8, b9, b10, b11, b12, b13, b14, b15, rfl⟩ := list16 hB
  obtain ⟨c0, c1, c2, c3, c4, c5, c6, c7, c8, c9, c10, c11, c12, c13, c14, c15, rfl⟩ := list16 hC
  obtain ⟨e0, e1, e2, e3, e4, e5, e6, e7, e8, e9, e10, e11, e12, e13, e14, e15, rfl⟩ := list16 hD
  exact Try.builtH0 co inc st a0 a1 a2 a3 a4 a5 a6 a7 a8 a9 a10 a11 a12 a13 a14 a15 b0 b1 b2 b3 b4 b5 b6 b7 b8 b9 b10 b11 b12 b13 b14 b15 c0 c1 c2 c3 c4 c5 c6 c7 c8 c9 c10 c11 c12 c13 c14 c15 e0 e1 e2 e3 e4 e5 e6 e7 e8 e9 e10 e11 e12 e13 e14 e15 n0 n1 n2 n3 n4 n5 n6 n7 n8 n9 n10 n11 n12 n13 n14 n15 n16 n17 n18 n19 d ta ti te
theorem Try.headI : RowInfo Try.prog 29 91 := ⟨by kernel_rfl, by kernel_rfl⟩
theorem Try.refheadI : RowInfo Try.prog 34 90 := ⟨by kernel_rfl, by kernel_rfl⟩
theorem Try.numsI : RowInfo Try.prog 32 20 := ⟨by kernel_rfl, by kernel_rfl⟩
theorem nums_one (Ns : List Int) : (Ns.map (Value.int .u64)).toArray.all (·.oneCell') = true := by
  rw [Array.all_eq_true_iff_forall_mem]
  intro v hv
  obtain ⟨y, _, rfl⟩ := List.mem_map.1 (List.mem_toArray.1 hv)
  rfl

set_option maxRecDepth 100000 in
set_option maxHeartbeats 4000000 in
theorem of_any (co inc st : Int) (I Ns : List Int) (ta ti te d : Int) (w : World) (hI : I.length = 64) (hN : Ns.length = 20) :
    Calls Try.prog 10 #[.agg (headL co inc st I Ns ta ti te).toArray, .int .u64 d] w fun e w' => e = .returned (.agg (headL co inc st I (Ns ++ [d]) ta ti te).toArray) ∧ Below w.heap.size w w' := by
  have HI := Lib.hid hI
  have HN := Lib.hid hN
  obtain ⟨n0, n1, n2, n3, n4, n5, n6, n7, n8, n9, n10, n11, n12, n13, n14, n15, n16, n17, n18, n19, hNs⟩ := list20 hN
  have HNs := Lib.hid hNs
  have HBu := Lib.hid (Try.builtH co inc st n0 n1 n2 n3 n4 n5 n6 n7 n8 n9 n10 n11 n12 n13 n14 n15 n16 n17 n18 n19 d ta ti te (idN I 0) (idN I 16) (idN I 32) (idN I 48) (idN_length hI 0 (by omega)) (idN_length hI 16 (by omega)) (idN_length hI 32 (by omega)) (idN_length hI 48 (by omega)))
  rw [four_ids I hI, ← hNs] at HBu
  clear hI hN hNs
  go_enter Try.func10, Try.ntmps10
  go_upto_region 1 with fail
  have hX1 : ((w.alloc (.cells (headL co inc st I Ns ta ti te).toArray 34)).alloc (.cells Try.zeroCells29 29)).heap[w.heap.size]? = some (.cells (headL co inc st I Ns ta ti te).toArray 34 (0, 0)) := row_below (below_alloc (w.alloc (.cells (headL co inc st I Ns ta ti te).toArray 34)) _) (by simp) (heap_alloc_new w _)
  have hZ1 : ((w.alloc (.cells (headL co inc st I Ns ta ti te).toArray 34)).alloc (.cells Try.zeroCells29 29)).heap[w.heap.size + 1]? = some (.cells Try.zeroCells29 29 (0, 0)) := by
    have := heap_alloc_new (w.alloc (.cells (headL co inc st I Ns ta ti te).toArray 34)) (.cells Try.zeroCells29 29)
    simpa using this
  have HB1 := Lib.hid ((below_alloc w (.cells (headL co inc st I Ns ta ti te).toArray 34)).alloc (by simp) (.cells Try.zeroCells29 29))
  generalize (w.alloc (.cells (headL co inc st I Ns ta ti te).toArray 34)).alloc (.cells Try.zeroCells29 29) = w1 at hX1 hZ1 HB1 ⊢
  have hS1 := lt_of_heap hX1
  have HX1 := Lib.hid hX1
  have HZ1 := Lib.hid hZ1
  have HR1 := Lib.hid (range_of_heap (o := 67) hX1 (Ns.map (Value.int .u64)) (fun j v hv => by
    rw [List.getElem?_map] at hv
    obtain ⟨y, hy, rfl⟩ := Option.map_eq_some_iff.1 hv
    exact headL_N HI.out j y hy))
  clear hX1 hZ1
  go_upto_region 2 with (first | (with_reducible refine wpList_loadMid rfl rfl Try.numsI rfl HR1.out (by rw [List.length_map]; exact HN.out) ?_) | (with_reducible refine wpList_storeS rfl rfl Try.numsI rfl rfl (heap_alloc_new w1 _) (by with_unfolding_all rfl) (by rw [List.size_toArray, List.length_map]; exact HN.out) (nums_one Ns) ?_; intro w2 hX2 hu2))
  have HB2 := Lib.hid (((HB1.out.alloc HB1.out.size _).trans (hu2.below (B := w.heap.size) (by simp; have := HB1.out.size; omega) (fun j hj => by have := HB1.out.size; omega))))
  have HX2 := hX2
  have HXd := Lib.hid ((hu2.block _ (by simp; omega) (by omega)).trans (row_below (below_alloc w1 _) hS1 HX1.out))
  have HZd := Lib.hid ((hu2.block _ (by simp; have := lt_of_heap HZ1.out; omega) (by have := lt_of_heap HZ1.out; omega)).trans (row_below (below_alloc w1 _) (lt_of_heap HZ1.out) HZ1.out))
  have j0 := headl_0 HXd.out
  have j1 := headl_1 HXd.out
  have j2 := headl_2 HXd.out
  have j3 := headr_ta HXd.out HI.out HN.out
  have j4 := headr_ti HXd.out HI.out HN.out
  have j5 := headr_te HXd.out HI.out HN.out
  have HA0 := Lib.hid (row_range (o := 3) HXd.out (idN I 0) (fun j v h => headL_id 0 j v h))
  have HA1 := Lib.hid (row_range (o := 19) HXd.out (idN I 16) (fun j v h => headL_id 16 j v h))
  have HA2 := Lib.hid (row_range (o := 35) HXd.out (idN I 32) (fun j v h => headL_id 32 j v h))
  have HA3 := Lib.hid (row_range (o := 51) HXd.out (idN I 48) (fun j v h => headL_id 48 j v h))
  have k0 := cell_of_heap HX2.out 0 (.int .u64 n0) (by rw [HNs.out]; rfl)
  have k1 := cell_of_heap HX2.out 1 (.int .u64 n1) (by rw [HNs.out]; rfl)
  have k2 := cell_of_heap HX2.out 2 (.int .u64 n2) (by rw [HNs.out]; rfl)
  have k3 := cell_of_heap HX2.out 3 (.int .u64 n3) (by rw [HNs.out]; rfl)
  have k4 := cell_of_heap HX2.out 4 (.int .u64 n4) (by rw [HNs.out]; rfl)
  have k5 := cell_of_heap HX2.out 5 (.int .u64 n5) (by rw [HNs.out]; rfl)
  have k6 := cell_of_heap HX2.out 6 (.int .u64 n6) (by rw [HNs.out]; rfl)
  have k7 := cell_of_heap HX2.out 7 (.int .u64 n7) (by rw [HNs.out]; rfl)
  have k8 := cell_of_heap HX2.out 8 (.int .u64 n8) (by rw [HNs.out]; rfl)
  have k9 := cell_of_heap HX2.out 9 (.int .u64 n9) (by rw [HNs.out]; rfl)
  have k10 := cell_of_heap HX2.out 10 (.int .u64 n10) (by rw [HNs.out]; rfl)
  have k11 := cell_of_heap HX2.out 11 (.int .u64 n11) (by rw [HNs.out]; rfl)
  have k12 := cell_of_heap HX2.out 12 (.int .u64 n12) (by rw [HNs.out]; rfl)
  have k13 := cell_of_heap HX2.out 13 (.int .u64 n13) (by rw [HNs.out]; rfl)
  have k14 := cell_of_heap HX2.out 14 (.int .u64 n14) (by rw [HNs.out]; rfl)
  have k15 := cell_of_heap HX2.out 15 (.int .u64 n15) (by rw [HNs.out]; rfl)
  have k16 := cell_of_heap HX2.out 16 (.int .u64 n16) (by rw [HNs.out]; rfl)
  have k17 := cell_of_heap HX2.out 17 (.int .u64 n17) (by rw [HNs.out]; rfl)
  have k18 := cell_of_heap HX2.out 18 (.int .u64 n18) (by rw [HNs.out]; rfl)
  have k19 := cell_of_heap HX2.out 19 (.int .u64 n19) (by rw [HNs.out]; rfl)
  clear hu2 hX2 HX2
  have HSz := Lib.hid (show (headL co inc st I (Ns ++ [d]) ta ti te).toArray.size = 91 from headL_size (n := 21) HI.out (by rw [List.length_append, HN.out]; rfl))
  go_wp2_with (first
    | (with_reducible refine wpList_loadB rfl rfl Try.idT rfl HA0.out (idN_length HI.out _ (by omega)) ?_)
    | (with_reducible refine wpList_loadB rfl rfl Try.idT rfl HA1.out (idN_length HI.out _ (by omega)) ?_)
    | (with_reducible refine wpList_loadB rfl rfl Try.idT rfl HA2.out (idN_length HI.out _ (by omega)) ?_)
    | (with_reducible refine wpList_loadB rfl rfl Try.idT rfl HA3.out (idN_length HI.out _ (by omega)) ?_)
    | (refine wpList_buildS rfl rfl (cells := (headL co inc st I (Ns ++ [d]) ta ti te).toArray) (Eq.trans (by kernel_rfl) HBu.out) ?_)
    | (with_reducible refine wpList_storeS rfl rfl Try.headI rfl rfl HZd.out (by with_unfolding_all rfl) HSz.out headL_one ?_; intro w3 hX3 hu3))
  have HX3 := hX3
  have hb3 := HB2.out.trans (hu3.below HB2.out.size (fun j hj => by omega))
  refine bodyPost_ret (v := .agg (headL co inc st I (Ns ++ [d]) ta ti te).toArray) (results_S rfl Try.headI rfl HX3.out HSz.out) rfl ?_
  exact ⟨rfl, hb3⟩
end Go.Proofs.Ytpkmdnfkeebgbaa

/- What le.Get computes. Conditions stand as premises. -/
namespace Go.Proofs.Ytpkmdnfkeebgbaa
open Go.ChangeShapes Go.WideShapes Go.ChangeAt Go.RowKit
set_option linter.unusedVariables false

/-! ### Get -/
theorem get_no (a : Option Addr) (len cap : Nat) (p n : Int) (w : World) (hlen : len ≤ 140737488351232) (h : okSize n = false ∨ p < 0 ∨ (len : Int) - n < p) :
    Calls Try.prog 33 #[.slice a len cap, .int .i64 p, .int .i64 n] w fun e w' => e = .returned (.tuple #[.int .u64 0, .bool false]) ∧ w = w' := by
  cases hs : okSize n
  · go_enter Try.func33, Try.ntmps33
    go_wp2_with (go_at_call 38; refine (size_any _ _).mono ?_; rintro e w' ⟨rfl, rfl⟩)
    go_ret2
    exact ⟨rfl, rfl⟩
  · have hb : 1 ≤ n ∧ n ≤ 8 := by rcases okSize_cases hs with h | h | h | h <;> omega
    have h' : p < 0 ∨ (len : Int) - n < p := by simpa [hs] using h
    clear h
    by_cases hp : p < 0
    · clear h'
      go_enter Try.func33, Try.ntmps33
      go_wp2_with (go_at_call 38; refine (size_any _ _).mono ?_; rintro e w' ⟨rfl, rfl⟩)
      go_ret2
      exact ⟨rfl, rfl⟩
    · have h2 : (len : Int) - n < p := by omega
      clear h'
      go_enter Try.func33, Try.ntmps33
      go_wp2_with (go_at_call 38; refine (size_any _ _).mono ?_; rintro e w' ⟨rfl, rfl⟩)
      go_ret2
      exact ⟨rfl, rfl⟩

/-- The loop's step: what stood so far, eight bits up, and the byte below. -/
theorem get_step (x c : Int) (h0 : 0 ≤ x) (h1 : x ≤ 72057594037927935) (hc : 0 ≤ c ∧ c ≤ 255) : bits .or .u64 (x * 256) c = c + 256 * x := by
  rw [u64_or _ _ (by omega) (by omega) (by omega) (by omega)]
  obtain ⟨n, rfl⟩ := Int.eq_ofNat_of_zero_le h0
  obtain ⟨m, rfl⟩ := Int.eq_ofNat_of_zero_le hc.1
  rw [nat_join 8 ((n : Int) * 256).toNat (m : Int).toNat (by omega) (by omega)]
  omega

theorem get_nat (b off : Nat) (len cap : Nat) (l : List Int) (p n : Nat) (w : World) (hl : l.length = len) (hc : len ≤ 140737488351232) (hb : IsB l) (hcell : ∀ i, i < l.length → w.cell? ⟨b, off + i, none⟩ = some (.int .u8 (l[i]?.getD 0)))
    (hs : okSize n = true) (hp : p + n ≤ len) :
    Calls Try.prog 33 #[.slice (some ⟨b, off, none⟩) len cap, .int .i64 p, .int .i64 n] w fun e w' => e = .returned (.tuple #[.int .u64 (leN ((l.drop p).take n)), .bool true]) ∧ w = w' := by
  have hn : n ≤ 8 ∧ 1 ≤ n := by rcases okSize_cases hs with h | h | h | h <;> omega
  have Hl := Lib.hid hl
  clear hl
  go_enter Try.func33, Try.ntmps33
  go_wp2_with (go_at_call 38; refine (size_any _ _).mono ?_; rintro e w' ⟨rfl, rfl⟩)
  go_loop [8, 9] (fun v i => ∃ k : Nat, k ≤ n ∧ i = .int .i64 ((n : Int) - 1 - k) ∧ v = .int .u64 (leN ((l.drop (p + (n - k))).take k))) (fun _ i => (intOf i + 1).toNat)
  case atStart => exact ⟨0, Nat.zero_le _, by simp, by simp [leN]⟩
  case round =>
    obtain ⟨k, hk, rfl, rfl⟩ := hrel
    by_cases hlt : k < n
    · have hcj := hcell (p + (n - 1 - k)) (by have := Hl.out; omega)
      have hbj := hb.getD (p + (n - 1 - k))
      have hx := leN_le ((l.drop (p + (n - 1 - k) + 1)).take k) ((hb.drop _).take _) 7 (by simp; omega)
      have hx2 : leN ((l.drop (p + (n - 1 - k) + 1)).take k) ≤ 72057594037927935 := by have := hx.2; simp at this; omega
      have hx1 := hx.1
      have He := Lib.hid (take_succ_drop l (p + (n - 1 - k)) k (by have := Hl.out; omega))
      rw [show p + (n - k) = p + (n - 1 - k) + 1 by omega]
      generalize hgx : leN ((l.drop (p + (n - 1 - k) + 1)).take k) = x at hx1 hx2 ⊢
      have Hx := Lib.hid hgx
      have Hstep := Lib.hid (get_step x _ hx1 hx2 hbj)
      clear hx hcell hgx
      go_wp2
      go_round
      case rel => exact ⟨k + 1, by omega, by rw [show (n : Int) - 1 - k - 1 = n - 1 - (k + 1 : Nat) by omega], by rw [show p + (n - (k + 1)) = p + (n - 1 - k) by omega, He.out, leN, Hx.out, Hstep.out]⟩
      case measure => simp [intOf]; omega
    · have : k = n := by omega
      subst this
      clear hcell
      go_wp2
      go_ret2
      exact ⟨by simp, rfl⟩

/-- What Get tells. -/
def getB (l : List Int) (p n : Int) : Bool := okSize n && decide (0 ≤ p) && decide (p + n ≤ l.length)
def getA (l : List Int) (p n : Int) : Int := if getB l p n = true then leN ((l.drop p.toNat).take n.toNat) else 0

theorem get_any (a : Option Addr) (len cap : Nat) (l : List Int) (p n : Int) (w : World) (hr : RdB w a len cap l) (hlen : len ≤ 140737488351232) :
    Calls Try.prog 33 #[.slice a len cap, .int .i64 p, .int .i64 n] w fun e w' => e = .returned (.tuple #[.int .u64 (getA l p n), .bool (getB l p n)]) ∧ w = w' := by
  by_cases hg : getB l p n = true
  · have h := hg
    simp only [getB, Bool.and_eq_true, decide_eq_true_eq] at h
    obtain ⟨⟨hs, h0⟩, h1⟩ := h
    rw [getA, if_pos hg, hg]
    obtain ⟨P, rfl⟩ := Int.eq_ofNat_of_zero_le h0
    have hn : n = 1 ∨ n = 2 ∨ n = 4 ∨ n = 8 := okSize_cases hs
    obtain ⟨N, rfl⟩ := Int.eq_ofNat_of_zero_le (show 0 ≤ n by omega)
    have hl := hr.len
    obtain ⟨b, off, rfl, _, hc⟩ := hr.2.at (by omega)
    simp only [Int.toNat_natCast]
    exact get_nat b off len cap l P N w hl hlen hr.1 (fun i hi => cellInt hc i hi) hs (by omega)
  · rw [getA, if_neg hg, show getB l p n = false by simpa using hg]
    refine get_no a len cap p n w hlen ?_
    have hl := hr.len
    simp only [getB, Bool.and_eq_true, decide_eq_true_eq] at hg
    by_cases hs : okSize n = true
    · right
      by_cases h0 : p < 0
      · exact .inl h0
      · right
        have : ¬ (p + n ≤ l.length) := fun hh => hg ⟨⟨hs, by omega⟩, hh⟩
        omega
    · left; simpa using hs

end Go.Proofs.Ytpkmdnfkeebgbaa

/- A copy into the middle of a struct from a longer source. No program in sight; no condition. -/
namespace Go.Proofs.Ytpkmdnfkeebgbaa
open Go.ChangeShapes Go.WideShapes Go.ChangeAt Go.RowKit
set_option linter.unusedVariables false
set_option linter.unusedSimpArgs false
section
variable {P : Program} {w : World} {ops : Array Oper} {rest : List Oper} {o : Oper} {a : Act} {Q : Exit → Act → World → Prop}
theorem step_copyS2 {α : Type} {enc : α → Value} {K : Act → World → Prop} {E : Prop} (hgd : o.guard = none) {d s : Operand} {dT sT : TypeId} (ho : o.op = .call { callee := .builtin .copy, args := #[d, s], argTypes := #[dT, sT] })
    {e : TypeId} {bytes : Nat} (hI : OneInfo P dT e bytes) {g off dLen dCap : Nat} (hd : a.eval d = .slice (some ⟨g, off, none⟩) dLen dCap) {xa : Option Addr} {xn xc : Nat} (hs : a.eval s = .slice xa xn xc)
    {cur : List Value} {T : TypeId} (hg : w.heap[g]? = some (.cells cur.toArray T (0, 0))) {l2 : List α} (hr : Rd enc w xa xn xc l2) (hfit : off + dLen ≤ cur.length) (hle : dLen ≤ xn) (hpos : 0 < dLen) (h1 : ∀ y, (enc y).oneCell' = true)
    (h : ∀ w', Hid (w'.heap[g]? = some (.cells (splice cur off ((l2.take dLen).map enc)).toArray T (0, 0))) → Upd (· = g) w w' → K (a.put o.dst (goInt dLen)) w') :
    if Region.wanted o (yielded ops a.tmps) = true then Oper.wp P o a w K Q else E := by
  have hw : Region.wanted o (yielded ops a.tmps) = true := by simp [Region.wanted, hgd]
  rw [if_pos hw]
  obtain ⟨ht, i, z, hi, hz, hsize, hby, hzs⟩ := hI
  have hsz : (P.info? e).map (·.size) = some 1 := by rw [hi]; simp [hsize]
  obtain ⟨hl2, hc1, hc2, hcn, hcells⟩ := hr
  rcases hcells with h0' | ⟨b, o2, rfl, hbk, hc⟩
  · omega
  have hlt : (l2.take dLen).length = dLen := by simp; omega
  have hcsn : ((l2.take dLen).map enc).length = Nat.min xn dLen := by rw [List.length_map, hlt]; exact (Nat.min_eq_right hle).symm
  have hrun := run_copy_row (P := P) w dT sT o.type e g off dLen dCap ⟨b, o2, none⟩ xn xc cur.toArray T ((l2.take dLen).map enc) ht hsz hg hcsn (fun j v hv => by
    rw [List.getElem?_map] at hv
    obtain ⟨y, hy, rfl⟩ := Option.map_eq_some_iff.1 hv
    rw [addr_add]
    rw [List.getElem?_take] at hy
    split at hy
    · exact hc j y hy
    · cases hy) (by rw [List.length_map, hlt]; simpa using hfit) (fun v hv => by
    obtain ⟨y, _, rfl⟩ := List.mem_map.1 hv
    exact h1 y)
  have := h (w.setRow g (splice cur off ((l2.take dLen).map enc)).toArray) (setRow_heap w g _ _ T _ hg) ⟨rfl, rfl, rfl, by simp [World.setRow], fun k _ hk => setRow_other w g k _ hk⟩
  have e1 : (cur.toArray.toList.take off ++ (l2.take dLen).map enc ++ cur.toArray.toList.drop (off + ((l2.take dLen).map enc).length)).toArray = (splice cur off ((l2.take dLen).map enc)).toArray := by simp [splice]
  rw [e1, List.length_map, hlt] at hrun
  unfold Oper.wp
  simp only [execOp, ho, resolve, invoke, builtin, Sem.run_bind, Sem.run_pure, Result.andThen_ok, List.map_toArray, List.map_cons, List.map_nil, hd, hs, hrun]
  exact this
end
end Go.Proofs.Ytpkmdnfkeebgbaa

/- What head.parse computes: a head's parts out of its bytes. Conditions stand as premises. -/
namespace Go.Proofs.Ytpkmdnfkeebgbaa
open Go.ChangeShapes Go.WideShapes Go.ChangeAt Go.RowKit
set_option linter.unusedVariables false
set_option linter.unusedSimpArgs false

/-- The number that stands at a place. -/
def gN (l : List Int) (p n : Nat) : Int := leN ((l.drop p).take n)
theorem getA_gN {l : List Int} {p n : Nat} (hs : okSize n = true) (h : p + n ≤ l.length) : getA l p n = gN l p n ∧ getB l p n = true := by
  have hb : getB l p n = true := by
    unfold getB
    simp only [Bool.and_eq_true, decide_eq_true_eq]
    exact ⟨⟨hs, by omega⟩, by omega⟩
  refine ⟨?_, hb⟩
  unfold getA gN
  rw [if_pos hb]
  simp
theorem gN_bound {l : List Int} (hl : IsB l) (p n : Nat) : 0 ≤ gN l p n ∧ gN l p n < 256 ^ n :=
  leN_le _ ((hl.drop p).take n) n (by simp; omega)
theorem gN_u32 {l : List Int} (hl : IsB l) (p : Nat) : U32 (gN l p 4) := by
  obtain ⟨h0, h1⟩ := gN_bound hl p 4
  exact ⟨h0, by have : (256 : Int) ^ 4 = 4294967296 := by decide
                omega⟩
theorem gN_u64 {l : List Int} (hl : IsB l) (p : Nat) : U64 (gN l p 8) := by
  obtain ⟨h0, h1⟩ := gN_bound hl p 8
  exact ⟨h0, by have : (256 : Int) ^ 8 = 18446744073709551616 := by decide
                omega⟩
/-- The numbers of eight bytes, so many. -/
def numsP (l : List Int) (m : Nat) : List Int := (List.range m).map fun k => gN l (88 + 8 * k) 8
theorem numsP_length (l : List Int) (m : Nat) : (numsP l m).length = m := by simp [numsP]
theorem numsP_snoc (l : List Int) (m : Nat) : numsP l (m + 1) = numsP l m ++ [gN l (88 + 8 * m) 8] := by simp [numsP, List.range_succ]
theorem numsP_u64 {l : List Int} (hl : IsB l) (m : Nat) : ∀ v ∈ numsP l m, U64 v := by
  intro v hv
  obtain ⟨k, _, rfl⟩ := List.mem_map.1 hv
  exact gN_u64 hl _
theorem numsP_at (l : List Int) (m k : Nat) (h : k < m) : (numsP l m)[k]? = some (gN l (88 + 8 * k) 8) := by
  unfold numsP
  rw [List.getElem?_map, List.getElem?_range h]; rfl
/-- A head's names. -/
def idsP (l : List Int) : List Int := (l.drop 24).take 64
theorem idsP_length {l : List Int} (h : 272 ≤ l.length) : (idsP l).length = 64 := by simp [idsP]; omega
/-- The head that bytes begin with. -/
def parseL (l : List Int) : List Value := headL (gN l 8 4) (gN l 12 4) (l[16]?.getD 0) (idsP l) (numsP l 21) (gN l 256 4) (gN l 260 4) (gN l 264 8)

theorem getn_any (a : Option Addr) (len cap : Nat) (l : List Int) (p n : Nat) (w : World) (hr : RdB w a len cap l) (hlen : len ≤ 1000000) (hs : okSize n = true) (h : p + n ≤ len) :
    Calls Try.prog 33 #[.slice a len cap, .int .i64 p, .int .i64 n] w fun e w' => e = .returned (.tuple #[.int .u64 (gN l p n), .bool true]) ∧ w = w' := by
  obtain ⟨h1, h2⟩ := getA_gN (l := l) (p := p) hs (by rw [hr.len]; exact h)
  have := get_any a len cap l p n w hr (by omega)
  rwa [h1, h2] at this
theorem get4_any (a : Option Addr) (len cap : Nat) (l : List Int) (p : Nat) (w : World) (hr : RdB w a len cap l) (hlen : len ≤ 1000000) (h : p + 4 ≤ len) :
    Calls Try.prog 33 #[.slice a len cap, .int .i64 p, .int .i64 4] w fun e w' => e = .returned (.tuple #[.int .u64 (gN l p 4), .bool true]) ∧ w = w' := getn_any a len cap l p 4 w hr hlen rfl h
theorem get8_any (a : Option Addr) (len cap : Nat) (l : List Int) (p : Nat) (w : World) (hr : RdB w a len cap l) (hlen : len ≤ 1000000) (h : p + 8 ≤ len) :
    Calls Try.prog 33 #[.slice a len cap, .int .i64 p, .int .i64 8] w fun e w' => e = .returned (.tuple #[.int .u64 (gN l p 8), .bool true]) ∧ w = w' := getn_any a len cap l p 8 w hr hlen rfl h

theorem four_any (b0 : Nat) (a : Option Addr) (n c : Nat) (l : List Int) (p : Nat) (w : World) (hbox : w.cell? ⟨b0, 0, none⟩ = some (.slice a n c)) (hr : RdB w a n c l) (hn : n ≤ 1000000) (hp : p + 4 ≤ n) :
    Calls Try.prog 32 #[.int .i64 p, .pointer (some ⟨b0, 0, none⟩)] w fun e w' => e = .returned (.int .u32 (gN l p 4)) ∧ w = w' := by
  obtain ⟨g0, g1⟩ := gN_u32 hr.1 p
  have hw : IntKind.u32.wrap (gN l p 4) = gN l p 4 := by rw [IntKind.wrap_u32]; omega
  have HG := Lib.hid (get4_any a n c l p w hr hn hp)
  generalize gN l p 4 = v at *
  clear hr
  go_enter Try.func32, Try.ntmps32
  go_wp2_with (go_at_call 33; refine HG.out.mono ?_; rintro e w1 ⟨rfl, rfl⟩)
  go_ret
  exact ⟨rfl, rfl⟩

theorem RdB.mono2 {w w' : World} {b off n c H : Nat} {l : List Int} (h : RdB w (some ⟨b, off, none⟩) n c l) (hu : Upd (· = H) w w') (hne : b ≠ H) : RdB w' (some ⟨b, off, none⟩) n c l := h.upd hu (fun x hx => by cases hx; exact hne)
theorem rd_cutd {w : World} {b off n c : Nat} {l : List Int} (h : RdB w (some ⟨b, off, none⟩) n c l) (hn : 272 ≤ n) (k : Nat) (hk : k < 272) : Rd (Value.int .u8) w.drew (some ⟨b, off + k, none⟩) (n - k) (c - k) ((l.drop k).take (n - k)) := by
  have hc := h.2.2.1
  have := (h.drewd.sliced k n (by omega) (Nat.le_refl _)).2
  rw [if_neg (by omega)] at this
  simpa [addr_add] using this
theorem ids_src {l : List Int} (hl : 272 ≤ l.length) {k : Nat} (hk : 16 * k + 16 ≤ 64) : ((l.drop (24 + 16 * k)).take (l.length - (24 + 16 * k))).take 16 = idN (idsP l) (16 * k) := by
  unfold idN idsP
  rw [List.take_take, List.drop_take, List.drop_drop, List.take_take]
  congr 1 <;> omega
theorem ids_next {D : List Int} (hD : D.length = 64) (k : Nat) (hk : k < 4) :
    (D.take (16 * k) ++ List.replicate (64 - 16 * k) 0).take (16 * k) ++ (idN D (16 * k) ++ (D.take (16 * k) ++ List.replicate (64 - 16 * k) 0).drop (16 * k + 16)) = D.take (16 * (k + 1)) ++ List.replicate (64 - 16 * (k + 1)) 0 := by
  rw [take_id, List.append_assoc]
  have h1 : (D.take (16 * k)).length = 16 * k := by simp; omega
  rw [List.take_append_of_le_length (by omega), List.take_of_length_le (by omega), List.drop_append, h1, List.drop_of_length_le (by omega), List.nil_append, List.drop_replicate, show 64 - 16 * k - (16 * k + 16 - 16 * k) = 64 - 16 * (k + 1) by omega]
theorem nums_next (l : List Int) (k : Nat) (hk : k < 21) : (numsP l k ++ List.replicate (21 - k) 0).set k (gN l (88 + 8 * k) 8) = numsP l (k + 1) ++ List.replicate (21 - (k + 1)) 0 := by
  rw [List.set_append_right _ _ (by rw [numsP_length]; omega), numsP_length, Nat.sub_self, numsP_snoc, show 21 - k = (21 - (k + 1)) + 1 by omega, List.replicate_succ, List.append_assoc]
  rfl
set_option maxRecDepth 100000 in
theorem Try.builtP (v : Int) : Try.prog.built 29 [(2, .int .i64 v)] = some (headL 0 0 v (List.replicate 64 0) (List.replicate 21 0) 0 0 0).toArray := by kernel_rfl
set_option maxRecDepth 100000 in
set_option maxHeartbeats 4000000 in
theorem parse_any (a : Option Addr) (n c : Nat) (l : List Int) (w : World) (hr : RdB w a n c l) (hn : n ≤ 1000000) (hlo : 272 ≤ n) :
    Calls Try.prog 20 #[.slice a n c] w fun e w' => e = .returned (.agg (parseL l).toArray) ∧ Below w.heap.size w w' := by
  obtain rfl : l.length = n := hr.len
  obtain ⟨b, off, rfl, hbl, hcs⟩ := hr.2.at (by omega)
  have hcc : 272 ≤ c := by have := hr.2.2.1; omega
  have hmf : ∀ (fn : Fn) (first cap : Array Value) (w : World), (Instr.makeFunc fn first cap).run Try.prog w = .ok (.func fn first cap) w := fun _ _ _ _ => rfl
  have h16 := hcs 16 (l[16]?.getD 0) (by rw [List.getElem?_eq_getElem (by omega)]; rfl)
  have hb16 := hr.1.getD 16
  generalize hv16 : l[16]?.getD 0 = v16 at h16 hb16
  have HV16 := Lib.hid hv16
  have HR := Lib.hid hr
  clear hv16 hcs
  go_enter Try.func20, Try.ntmps20
  go_upto_region 1 with fail
  have hQ1 : ((w.alloc (.cells #[Value.slice (some ⟨b, off, none⟩) l.length c] 22)).alloc (.cells Try.zeroCells29 29)).cell? ⟨w.heap.size, 0, none⟩ = some (.slice (some ⟨b, off, none⟩) l.length c) :=
    bcell (below_alloc (w.alloc (.cells #[Value.slice (some ⟨b, off, none⟩) l.length c] 22)) _) (by simp) (cell_of_heap (heap_alloc_new w _) 0 _ rfl)
  have hZ1 : ((w.alloc (.cells #[Value.slice (some ⟨b, off, none⟩) l.length c] 22)).alloc (.cells Try.zeroCells29 29)).heap[w.heap.size + 1]? = some (.cells Try.zeroCells29 29 (0, 0)) := by
    have := heap_alloc_new (w.alloc (.cells #[Value.slice (some ⟨b, off, none⟩) l.length c] 22)) (.cells Try.zeroCells29 29)
    simpa using this
  have HB1 := Lib.hid ((below_alloc w (.cells #[Value.slice (some ⟨b, off, none⟩) l.length c] 22)).alloc (by simp) (.cells Try.zeroCells29 29))
  generalize (w.alloc (.cells #[Value.slice (some ⟨b, off, none⟩) l.length c] 22)).alloc (.cells Try.zeroCells29 29) = w1 at hQ1 hZ1 HB1 ⊢
  have hS1 := lt_of_heap hZ1
  have HZ1 := Lib.hid hZ1
  have h16' := bcell HB1.out hbl h16
  have HBU := Lib.hid (Try.builtP v16)
  clear hZ1 h16
  go_upto_region 2 with (first
    | (refine wpList_buildS rfl rfl (cells := (headL 0 0 v16 (List.replicate 64 0) (List.replicate 21 0) 0 0 0).toArray) (Eq.trans (by kernel_rfl) HBU.out) ?_)
    | (with_reducible refine wpList_storeS rfl rfl Try.headI rfl rfl (heap_alloc_new w1 _) (by with_unfolding_all rfl) (headL_size (n := 21) rfl rfl) headL_one ?_; intro w2 hX2 hu2))
  have HUp := Lib.hid ((Upd.ofBelow (F := (· = w1.heap.size)) (below_alloc w1 _)).trans hu2 (fun _ _ h => h))
  have HB2 := Lib.hid (HB1.out.trans (HUp.out.below (B := w.heap.size) HB1.out.size (fun j hj => by omega)))
  have HQ2 := ucell HUp.out (by omega) hQ1
  have HZ2 := Lib.hid (row_upd HUp.out (by omega) HZ1.out)
  have HX2 := hX2.out
  clear hu2 hX2 hQ1 h16'
  obtain ⟨H, hH⟩ : ∃ H, w1.heap.size = H := ⟨_, rfl⟩
  have HH := Lib.hid hH
  rw [hH] at HX2 HUp ⊢
  obtain ⟨Bx, hBx⟩ : ∃ Bx, w.heap.size = Bx := ⟨_, rfl⟩
  have HBx := Lib.hid hBx
  rw [hBx] at HQ2 HZ2 ⊢
  have hne1 : Bx < H := by omega
  have hne2 : Bx + 1 < H := by omega
  have hbH : b < H := by omega
  clear hH hBx
  have HR2 := Lib.hid (HR.out.mono HB2.out)
  have HF8 := Lib.hid (show Calls Try.prog 32 #[.int .i64 8, .pointer (some ⟨Bx, 0, none⟩)] w2 (fun e w' => e = .returned (.int .u32 (gN l 8 4)) ∧ w2 = w') from four_any Bx _ _ _ l 8 w2 HQ2 HR2.out hn (by omega))
  have HF12 := Lib.hid (show Calls Try.prog 32 #[.int .i64 12, .pointer (some ⟨Bx, 0, none⟩)] w2 (fun e w' => e = .returned (.int .u32 (gN l 12 4)) ∧ w2 = w') from four_any Bx _ _ _ l 12 w2 HQ2 HR2.out hn (by omega))
  have i0 := headl_0 HX2
  have i1 := headl_1 HX2
  have f0 := free_of_heap HX2 0
  have f1 := free_of_heap HX2 1
  obtain ⟨co, hco⟩ : ∃ co, gN l 8 4 = co := ⟨_, rfl⟩
  obtain ⟨inc, hinc⟩ : ∃ inc, gN l 12 4 = inc := ⟨_, rfl⟩
  have HCo := Lib.hid hco
  have HInc := Lib.hid hinc
  rw [hco] at HF8
  rw [hinc] at HF12
  clear hco hinc
  go_upto_region 3 with fail
  go_upto_region 4 with (first
    | (go_at_call 32; with_reducible refine HF8.out.mono ?_; rintro e wa ⟨rfl, rfl⟩)
    | (go_at_call 32; with_reducible refine HF12.out.mono ?_; rintro e wa ⟨rfl, rfl⟩))
  have hX3 := row_set (row_set HX2 0 (.int .u32 co)) 1 (.int .u32 inc)
  rw [headL_setCo, headL_setInc] at hX3
  have HU3 := Lib.hid ((Upd.setCell (F := (· = H)) w2 ⟨H, 0, none⟩ (.int .u32 co) rfl).trans (Upd.setCell (F := (· = H)) _ ⟨H, 1, none⟩ (.int .u32 inc) rfl) (fun _ _ h => h))
  generalize (w2.setCell ⟨H, 0, none⟩ (.int .u32 co)).setCell ⟨H, 1, none⟩ (.int .u32 inc) = w3 at hX3 HU3 ⊢
  have hQ3 := ucell HU3.out (by omega) HQ2
  have HX3 := Lib.hid hX3
  clear HQ2 i0 i1 f0 f1 HX2 hX3
  go_upto_region 6 with (go_at_call 25; refine (ids4_any H _).mono ?_; rintro e w5 ⟨a5, rfl, hr5, hb5, hg5⟩)
  have hQ5 : w5.cell? ⟨Bx, 0, none⟩ = some (.slice (some ⟨b, off, none⟩) l.length c) := bcell hb5 (World.block_lt_of_cell? w3 _ hQ3) hQ3
  have HX5 := Lib.hid (row_below hb5 (lt_of_heap HX3.out) HX3.out)
  have HR5 := Lib.hid hr5
  have HG5 := Lib.hid (show ∀ x, a5 = some x → x.block ≠ H from fun x hx => by have := hg5 x hx; have := lt_of_heap HX3.out; omega)
  have HU5 := Lib.hid (HU3.out.trans (Upd.ofBelow (F := (· = H)) hb5) (fun _ _ h => h))
  clear hr5 hg5 hb5 hQ3
  have HR5w := Lib.hid ((HR2.out.upd HU5.out (fun x hx => by cases hx; show b ≠ H; omega)))
  have hIL := idsP_length hlo
  have HIL := Lib.hid hIL
  go_loopw [5, 24] (fun at_ i wr => ∃ (k : Nat), k ≤ 4 ∧ i = .int .i64 (k : Int) ∧ at_ = .int .i64 (24 + 16 * (k : Int)) ∧ wr.heap[H]? = some (.cells (headL co inc v16 ((idsP l).take (16 * k) ++ List.replicate (64 - 16 * k) 0) (List.replicate 21 0) 0 0 0).toArray 29 (0, 0)) ∧ Upd (· = H) w5 wr) (fun _ i _ => 4 - (intOf i).toNat)
  case atStart => exact ⟨0, Nat.zero_le _, rfl, rfl, HX5.out, Upd.refl _ _⟩
  case round =>
    obtain ⟨k, hk, rfl, rfl, hXr, hU⟩ := hrel
    have HU := Lib.hid hU
    have hQr : wr.cell? ⟨Bx, 0, none⟩ = some (.slice (some ⟨b, off, none⟩) l.length c) := ucell hU (by omega) hQ5
    have hri := HR5.out.upd hU HG5.out
    clear hU
    by_cases hlt : k < 4
    · have hlt' : (k : Int) < 4 := by omega
      obtain ⟨b5, off5, rfl, hb5, hcs⟩ := hri.at (by omega)
      have hc := hcs k _ (idPs_at k hlt)
      unfold encP at hc
      clear hcs hri
      go_upto_region 8 with fail
      have hC : wr.drew.cell? ⟨Bx, 0, none⟩ = some (.slice (some ⟨b, off, none⟩) l.length c) := hQr
      refine wp_region_held (S := fun w' => w'.cell? ⟨Bx, 0, none⟩ = some (.slice (some ⟨b, off, none⟩) l.length c)) (by kernel_rfl) ?_
      change wpAnyH _ _ _ _ _ _ _ _ wr.drew
      have q1 : 24 + 16 * (k : Int) ≤ (l.length : Int) := by omega
      have q2 : 24 + 16 * (k : Int) ≤ (c : Int) := by have := hr.2.2.1; omega
      have q3 : 0 ≤ 24 + 16 * (k : Int) := by omega
      refine held_take 0 (d := some 28) (v := (.int .i64 (24 + 16 * (k : Int)))) rfl rfl (by kernel_rfl) (by kernel_rfl) (by kernel_rfl) (fun _ _ _ h => h) hC (by kernel_rfl) (fun w hSw => by have x0 := hSw; clear hSw; go_simp) ?_
      try simp only [Act.put, List.setIfInBounds_toArray, List.set_cons_zero, List.set_cons_succ]
      refine held_take 1 (d := some 29) (v := (.pointer (some ⟨H, 3 + 16 * k, none⟩))) rfl rfl (by kernel_rfl) (by kernel_rfl) (by kernel_rfl) (fun _ _ _ h => h) hC (by kernel_rfl) (fun w hSw => by have x0 := hSw; clear hSw; go_simp) ?_
      try simp only [Act.put, List.setIfInBounds_toArray, List.set_cons_zero, List.set_cons_succ]
      refine held_take 2 (d := some 30) (v := (.pointer (some ⟨H, 3 + 16 * k, none⟩))) rfl rfl (by kernel_rfl) (by kernel_rfl) (by kernel_rfl) (fun _ _ _ h => h) hC (by kernel_rfl) (fun w hSw => by have x0 := hSw; clear hSw; go_simp) ?_
      try simp only [Act.put, List.setIfInBounds_toArray, List.set_cons_zero, List.set_cons_succ]
      refine held_take 3 (d := some 31) (v := (.slice (some ⟨H, 3 + 16 * k, none⟩) 16 16)) rfl rfl (by kernel_rfl) (by kernel_rfl) (by kernel_rfl) (fun _ _ _ h => h) hC (by kernel_rfl) (fun w hSw => by have x0 := hSw; clear hSw; go_simp) ?_
      try simp only [Act.put, List.setIfInBounds_toArray, List.set_cons_zero, List.set_cons_succ]
      refine held_take 4 (d := some 32) (v := (.slice (some ⟨b, off, none⟩) l.length c)) rfl rfl (by kernel_rfl) (by kernel_rfl) (by kernel_rfl) (fun _ _ _ h => h) hC (by kernel_rfl) (fun w hSw => by have x0 := hSw; clear hSw; go_simp) ?_
      try simp only [Act.put, List.setIfInBounds_toArray, List.set_cons_zero, List.set_cons_succ]
      refine held_take 5 (d := some 33) (v := (.int .i64 (24 + 16 * (k : Int)))) rfl rfl (by kernel_rfl) (by kernel_rfl) (by kernel_rfl) (fun _ _ _ h => h) hC (by kernel_rfl) (fun w hSw => by have x0 := hSw; clear hSw; go_simp) ?_
      try simp only [Act.put, List.setIfInBounds_toArray, List.set_cons_zero, List.set_cons_succ]
      have hT : (24 + 16 * (k : Int)).toNat = 24 + 16 * k := by omega
      have hcne : ¬ c = 24 + 16 * k := by omega
      refine held_take 6 (d := some 34) (v := (.slice (some ⟨b, off + (24 + 16 * k), none⟩) (l.length - (24 + 16 * k)) (c - (24 + 16 * k)))) rfl rfl (by kernel_rfl) (by kernel_rfl) (by kernel_rfl) (fun _ _ _ h => h) hC (by kernel_rfl) (fun w hSw => by have x0 := hSw; clear hSw; go_simp) ?_
      try simp only [Act.put, List.setIfInBounds_toArray, List.set_cons_zero, List.set_cons_succ]
      have HRs := Lib.hid (rd_cutd (HR5w.out.mono2 HU.out (by omega)) (by omega) (24 + 16 * k) (by omega))
      refine held_one 7 rfl (by kernel_rfl) (fun K hK => ?_)
      have HLi := Lib.hid (show ((idsP l).take (16 * k) ++ List.replicate (64 - 16 * k) (0 : Int)).length = 64 from by simp only [List.length_append, List.length_take, List.length_replicate, HIL.out]; omega)
      have HLn := Lib.hid (show (headL co inc v16 ((idsP l).take (16 * k) ++ List.replicate (64 - 16 * k) 0) (List.replicate 21 0) 0 0 0).length = 91 from headL_length (n := 21) HLi.out (List.length_replicate ..))
      refine step_copyS2 rfl rfl Try.oneB rfl rfl hXr HRs.out (by rw [HLn.out]; omega) (by omega) (by omega) (fun _ => rfl) ?_
      intro w6 hX6 hu6
      have hX6' := hX6.out
      rw [ids_src hlo (by omega), headL_spliceI HLi.out (16 * k) _ (idN_length HIL.out _ (by omega)) (by omega), ids_next HIL.out k hlt] at hX6'
      have HX6 := Lib.hid hX6'
      have HU6 := Lib.hid ((HU.out.trans (Upd.ofBelow (F := (· = H)) (below_drew wr)) (fun _ _ h => h)).trans hu6 (fun _ _ h => h))
      have hC6 : w6.cell? ⟨Bx, 0, none⟩ = some (.slice (some ⟨b, off, none⟩) l.length c) := ucell hu6 (by omega) hC
      clear hX6 hu6 hX6' hC hXr HRs
      refine hK _ _ hC6 ?_
      clear hK K
      try simp only [Act.put, List.setIfInBounds_toArray, List.set_cons_zero, List.set_cons_succ]
      have hwk : IntKind.i64.wrap (24 + 16 * ((k : Int) + 1)) = 24 + 16 * ((k : Int) + 1) := by rw [IntKind.wrap_i64]; omega
      refine held_take 8 (d := some 36) (v := (.int .i64 (24 + 16 * ((k : Int) + 1)))) rfl rfl (by kernel_rfl) (by kernel_rfl) (by kernel_rfl) (fun _ _ _ h => h) hC6 (by kernel_rfl) (fun w hSw => by clear hSw; go_simp; exact hwk) ?_
      try simp only [Act.put, List.setIfInBounds_toArray, List.set_cons_zero, List.set_cons_succ]
      refine held_take 9 (d := some 5) (v := (.int .i64 (24 + 16 * ((k : Int) + 1)))) rfl rfl (by kernel_rfl) (by kernel_rfl) (by kernel_rfl) (fun _ _ _ h => h) hC6 (by kernel_rfl) (fun w hSw => by clear hSw; go_simp) ?_
      try simp only [Act.put, List.setIfInBounds_toArray, List.set_cons_zero, List.set_cons_succ]
      refine wpAnyH_done (by kernel_rfl) ?_ _
      clear hwk
      go_wp2_with fail
      go_roundw
      case rel => exact ⟨k + 1, by omega, by congr 1, by congr 1, HX6.out, HU6.out⟩
      case measure => simp [intOf]; omega
    · obtain rfl : k = 4 := by omega
      have hge : ¬ ((4 : Int) < 4) := by omega
      rw [show 64 - 16 * 4 = 0 by omega, List.replicate_zero, List.append_nil, List.take_of_length_le (by rw [HIL.out]; omega)] at hXr
      have HXr := Lib.hid hXr
      have hRrr := HR5w.out.mono2 HU.out (by omega)
      have HUr := Lib.hid (HU5.out.trans HU.out (fun _ _ h => h))
      clear hXr hri HR5 HG5 HU hQ5 HX5 HU5 HR5w
      go_upto_region 11 with (go_at_call 26; refine (long21_any H _).mono ?_; rintro e w7 ⟨a7, rfl, hr7, hb7, hg7⟩)
      have hQ7 : w7.cell? ⟨Bx, 0, none⟩ = some (.slice (some ⟨b, off, none⟩) l.length c) := bcell hb7 (World.block_lt_of_cell? wr _ hQr) hQr
      have HX7 := Lib.hid (row_below hb7 (lt_of_heap HXr.out) HXr.out)
      have HR7 := Lib.hid hr7
      have HG7 := Lib.hid (show ∀ x, a7 = some x → x.block ≠ H from fun x hx => by have := hg7 x hx; have := lt_of_heap HXr.out; omega)
      have HU7 := Lib.hid (HUr.out.trans (Upd.ofBelow (F := (· = H)) hb7) (fun _ _ h => h))
      have HRb := Lib.hid (hRrr.mono hb7)
      clear hr7 hg7 hb7 hQr hRrr
      go_loopw [5, 40] (fun at_ i wr => ∃ (k : Nat), k ≤ 21 ∧ i = .int .i64 (k : Int) ∧ at_ = .int .i64 (88 + 8 * (k : Int)) ∧ wr.heap[H]? = some (.cells (headL co inc v16 (idsP l) (numsP l k ++ List.replicate (21 - k) 0) 0 0 0).toArray 29 (0, 0)) ∧ Upd (· = H) w7 wr) (fun _ i _ => 21 - (intOf i).toNat)
      case atStart => exact ⟨0, Nat.zero_le _, rfl, rfl, HX7.out, Upd.refl _ _⟩
      case round =>
        obtain ⟨k, hk, rfl, rfl, hXr, hU⟩ := hrel
        have HU := Lib.hid hU
        have hQr : wr.cell? ⟨Bx, 0, none⟩ = some (.slice (some ⟨b, off, none⟩) l.length c) := ucell hU (by omega) hQ7
        have HRr := Lib.hid (HRb.out.mono2 hU (by omega))
        have hri := HR7.out.upd hU HG7.out
        clear hU
        by_cases hlt : k < 21
        · have hlt' : (k : Int) < 21 := by omega
          obtain ⟨b7, off7, hab7, hb7, hcs⟩ := hri.at (by omega)
          subst hab7
          have hc := hcs k _ (longPs_at k hlt)
          unfold encP at hc
          have HG := Lib.hid (show Calls Try.prog 33 #[.slice (some ⟨b, off, none⟩) l.length c, .int .i64 (88 + 8 * (k : Int)), .int .i64 8] wr (fun e w' => e = .returned (.tuple #[.int .u64 (gN l (88 + 8 * k) 8), .bool true]) ∧ wr = w') from by have := get8_any (some ⟨b, off, none⟩) l.length c l (88 + 8 * k) wr HRr.out hn (by omega); simpa using this)
          have hNl : (numsP l k ++ List.replicate (21 - k) (0 : Int)).length = 21 := by simp only [List.length_append, numsP_length, List.length_replicate]; omega
          obtain ⟨ov, hov⟩ : ∃ ov, (numsP l k ++ List.replicate (21 - k) (0 : Int))[k]? = some ov := ⟨_, List.getElem?_eq_getElem (by omega)⟩
          have i67 := cell_of_heap hXr (67 + k) _ (headL_N HIL.out k _ hov)
          have f67 := free_of_heap hXr (67 + k)
          have HXn := Lib.hid (row_set hXr (67 + k) (.int .u64 (gN l (88 + 8 * k) 8)))
          rw [headL_setN HIL.out k (by omega), nums_next l k hlt] at HXn
          have HUn := Lib.hid (HU.out.trans (Upd.setCell (F := (· = H)) wr ⟨H, 67 + k, none⟩ (.int .u64 (gN l (88 + 8 * k) 8)) rfl) (fun _ _ h => h))
          have hwk : IntKind.i64.wrap (88 + 8 * ((k : Int) + 1)) = 88 + 8 * ((k : Int) + 1) := by rw [IntKind.wrap_i64]; omega
          generalize gN l (88 + 8 * k) 8 = gv at *
          clear hcs hri hXr hNl hov HRr HU
          go_wp2_with (go_at_call 33; refine HG.out.mono ?_; rintro e wg ⟨rfl, rfl⟩)
          go_roundw
          case rel => exact ⟨k + 1, by omega, by congr 1, by congr 1, HXn.out, HUn.out⟩
          case measure => simp [intOf]; omega
        · obtain rfl : k = 21 := by omega
          have hge2 : ¬ ((21 : Int) < 21) := by omega
          rw [Nat.sub_self, List.replicate_zero, List.append_nil] at hXr
          have hN21 := numsP_length l 21
          have HN21 := Lib.hid hN21
          have i88 := cell_of_heap hXr 88 _ (headL_ta HIL.out hN21)
          have i89 := cell_of_heap hXr 89 _ (headL_ti HIL.out hN21)
          have i90 := cell_of_heap hXr 90 _ (headL_te HIL.out hN21)
          have f88 := free_of_heap hXr 88
          have f89 := free_of_heap hXr 89
          have f90 := free_of_heap hXr 90
          have hXn := row_set (row_set (row_set hXr 88 (.int .u32 (gN l 256 4))) 89 (.int .u32 (gN l 260 4))) 90 (.int .u64 (gN l 264 8))
          rw [headL_setTa (n := 21) HIL.out hN21, headL_setTi (n := 21) HIL.out hN21, headL_setTe (n := 21) HIL.out hN21] at hXn
          have HXn := Lib.hid hXn
          have HUn := Lib.hid (((HU7.out.trans HU.out (fun _ _ h => h)).trans (Upd.setCell (F := (· = H)) wr ⟨H, 88, none⟩ (.int .u32 (gN l 256 4)) rfl) (fun _ _ h => h)).trans ((Upd.setCell (F := (· = H)) _ ⟨H, 89, none⟩ (.int .u32 (gN l 260 4)) rfl).trans (Upd.setCell (F := (· = H)) _ ⟨H, 90, none⟩ (.int .u64 (gN l 264 8)) rfl) (fun _ _ h => h)) (fun _ _ h => h))
          have HF1 := Lib.hid (show Calls Try.prog 32 #[.int .i64 256, .pointer (some ⟨Bx, 0, none⟩)] wr (fun e w' => e = .returned (.int .u32 (gN l 256 4)) ∧ wr = w') from four_any Bx _ _ _ l 256 wr hQr HRr.out hn (by omega))
          have HF2 := Lib.hid (show Calls Try.prog 32 #[.int .i64 260, .pointer (some ⟨Bx, 0, none⟩)] wr (fun e w' => e = .returned (.int .u32 (gN l 260 4)) ∧ wr = w') from four_any Bx _ _ _ l 260 wr hQr HRr.out hn (by omega))
          have HU2 := Lib.hid ((Upd.setCell (F := (· = H)) wr ⟨H, 88, none⟩ (.int .u32 (gN l 256 4)) rfl).trans (Upd.setCell (F := (· = H)) _ ⟨H, 89, none⟩ (.int .u32 (gN l 260 4)) rfl) (fun _ _ h => h))
          have HG := Lib.hid (show Calls Try.prog 33 #[.slice (some ⟨b, off, none⟩) l.length c, .int .i64 264, .int .i64 8] ((wr.setCell ⟨H, 88, none⟩ (.int .u32 (gN l 256 4))).setCell ⟨H, 89, none⟩ (.int .u32 (gN l 260 4))) (fun e w' => e = .returned (.tuple #[.int .u64 (gN l 264 8), .bool true]) ∧ ((wr.setCell ⟨H, 88, none⟩ (.int .u32 (gN l 256 4))).setCell ⟨H, 89, none⟩ (.int .u32 (gN l 260 4))) = w') from get8_any (some ⟨b, off, none⟩) l.length c l 264 _ (HRr.out.mono2 HU2.out (by omega)) hn (by omega))
          have HPL := Lib.hid (show headL co inc v16 (idsP l) (numsP l 21) (gN l 256 4) (gN l 260 4) (gN l 264 8) = parseL l from by unfold parseL; rw [HCo.out, HInc.out, HV16.out])
          rw [HPL.out] at HXn
          have HPs := Lib.hid (show (parseL l).toArray.size = 91 from headL_size (n := 21) HIL.out hN21)
          have HP1 := Lib.hid (show (parseL l).toArray.all (·.oneCell') = true from headL_one)
          generalize gN l 256 4 = g1 at *
          generalize gN l 260 4 = g2 at *
          generalize gN l 264 8 = g3 at *
          clear hXr hXn hri HRr HU hN21
          go_upto_region 17 with (first
            | (go_at_call 32; with_reducible refine HF1.out.mono ?_; rintro e wa ⟨rfl, rfl⟩)
            | (go_at_call 32; with_reducible refine HF2.out.mono ?_; rintro e wa ⟨rfl, rfl⟩))
          have hQs : ((wr.setCell ⟨H, 88, none⟩ (.int .u32 g1)).setCell ⟨H, 89, none⟩ (.int .u32 g2)).cell? ⟨Bx, 0, none⟩ = some (.slice (some ⟨b, off, none⟩) l.length c) := ucell HU2.out (by omega) hQr
          go_upto_region 18 with (go_at_call 33; with_reducible refine HG.out.mono ?_; rintro e wa ⟨rfl, rfl⟩)
          clear hQs
          generalize ((wr.setCell ⟨H, 88, none⟩ (.int .u32 g1)).setCell ⟨H, 89, none⟩ (.int .u32 g2)).setCell ⟨H, 90, none⟩ (.int .u64 g3) = w9 at HXn HUn ⊢
          have HZ9 := Lib.hid (row_upd HUn.out (by omega) HZ2.out)
          have HB9 := Lib.hid (HB2.out.trans (HUn.out.below (B := w.heap.size) HB2.out.size (fun j hj => by have := HBx.out; omega)))
          clear i88 i89 i90 f88 f89 f90 hQr
          generalize hPLL : parseL l = PL at *
          have HPLL := Lib.hid hPLL
          clear hPLL
          go_wp2_with (first
            | (with_reducible refine wpList_loadS rfl rfl Try.headI rfl HXn.out HPs.out ?_)
            | (with_reducible refine wpList_storeS rfl rfl Try.headI rfl rfl HZ9.out (by with_unfolding_all rfl) HPs.out HP1.out ?_; intro w10 hX10 hu10))
          have HB10 := Lib.hid (HB9.out.trans (hu10.below HB9.out.size (fun j hj => by have := HBx.out; omega)))
          refine bodyPost_ret (v := .agg PL.toArray) (results_S rfl Try.headI rfl hX10.out HPs.out) rfl ?_
          exact ⟨by rw [HPLL.out], HB10.out⟩
end Go.Proofs.Ytpkmdnfkeebgbaa

/- The document's Maker as cells, and what stays true of it. Conditions stand as premises. -/
namespace Go.Proofs.Ytpkmdnfkeebgbaa
open Go.ChangeShapes Go.WideShapes Go.ChangeAt Go.RowKit
set_option linter.unusedVariables false
set_option linter.unusedSimpArgs false

abbrev SL := Option Addr × Nat × Nat
/-- A payload, or a name, that has an object. -/
structure Kn where
  text : ByteArray
  pl : Nat
  slot : Nat
  count : Nat
  arr : SL
  al : List Int
def encKn (x : Kn) : List Value := [.string x.text, .int .u64 x.pl, .int .i64 x.slot, .int .i64 x.count, .slice x.arr.1 x.arr.2.1 x.arr.2.2]
theorem encKn_E : EncK encKn 5 := ⟨fun _ => rfl, fun x v hv => by simp [encKn] at hv; rcases hv with rfl | rfl | rfl | rfl | rfl <;> rfl, by omega⟩
structure Mk where
  cfg : List Value
  hd : List Value
  dp : Int
  b : SL
  d : SL
  f : SL
  m : SL
  bl : List Int
  ds : List Kn
  fs : List Kn
  ml : List Int
def mkL (x : Mk) : List Value := x.cfg ++ (x.hd ++ [.int .u64 x.dp, .slice x.b.1 x.b.2.1 x.b.2.2, .slice x.d.1 x.d.2.1 x.d.2.2, .slice x.f.1 x.f.2.1 x.f.2.2, .slice x.m.1 x.m.2.1 x.m.2.2])
def mset (M : Nat) (x : Mk) : List Nat := M :: (blk x.b.1 ++ (blk x.d.1 ++ (blk x.f.1 ++ blk x.m.1)))
structure CfgOK (cfg : List Value) (D F : Nat) (kd : Bool) : Prop where
  len : cfg.length = 52
  file : ∃ B, IsB B ∧ B.length = 16 ∧ ∀ (j : Nat) (v : Value), (B.map (Value.int .u8))[j]? = some v → cfg[j]? = some v
  d : cfg[48]? = some (.int .i64 (D : Int))
  f : cfg[49]? = some (.int .i64 (F : Int))
  most : cfg[50]? = some (.int .i64 32768)
  kd : cfg[51]? = some (.bool kd)
  dr : 1 ≤ D ∧ D ≤ 7
  fr : 1 ≤ F ∧ F ≤ 4
  one : ∀ v ∈ cfg, v.oneCell' = true
/-- The head's numbers that count. -/
structure NsOK (Ns : List Int) (D F E : Nat) : Prop where
  len : Ns.length = 20
  u : ∀ v ∈ Ns, U64 v
  n0 : Ns[0]? = some 272
  n2 : Ns[2]? = some 288
  n3 : Ns[3]? = some (16 * (D : Int))
  n4 : Ns[4]? = some (304 + 16 * (D : Int))
  n5 : Ns[5]? = some (16 * (F : Int))
  n8 : Ns[8]? = some (E : Int)
structure HdOK (hd : List Value) (D F E : Nat) (co inc st : Int) (I Ns : List Int) (ta ti te : Int) : Prop where
  eq : hd = headL co inc st I Ns ta ti te
  co : U32 co
  inc : inc = 0 ∨ inc = 4
  il : I.length = 64
  ib : IsB I
  ns : NsOK Ns D F E
  ta : U32 ta
  ti : U32 ti
  te : U64 te
def HdI (hd : List Value) (D F E : Nat) : Prop := ∃ co inc st I Ns ta ti te, HdOK hd D F E co inc st I Ns ta ti te
theorem HdI.len {hd : List Value} {D F E : Nat} (h : HdI hd D F E) : hd.length = 90 := by
  obtain ⟨co, inc, st, I, Ns, ta, ti, te, h⟩ := h
  rw [h.eq]; exact headL_length (n := 20) h.il h.ns.len
/-- The memory of a Maker at M: its own cells and what they lead to. -/
structure MI (base M D F : Nat) (kd : Bool) (E : Nat) (x : Mk) (w : World) : Prop where
  row : w.heap[M]? = some (.cells (mkL x).toArray 96 (0, 0))
  bM : base ≤ M
  cfg : CfgOK x.cfg D F kd
  hd : HdI x.hd D F E
  dp : U64 x.dp
  bB : IsB x.bl
  bO : Own (Value.int .u8) 5 w base x.b.1 x.b.2.1 x.b.2.2 x.bl
  dO : OwnK encKn 5 110 w base x.d.1 x.d.2.1 x.d.2.2 x.ds
  fO : OwnK encKn 5 110 w base x.f.1 x.f.2.1 x.f.2.2 x.fs
  mO : Own (Value.int .u64) 27 w base x.m.1 x.m.2.1 x.m.2.2 x.ml
  mU : ∀ v ∈ x.ml, U64 v
  arr : ∀ k ∈ x.ds, Rd (Value.int .u64) w k.arr.1 k.arr.2.1 k.arr.2.2 k.al ∧ (∀ v ∈ k.al, U64 v) ∧ (∀ z, k.arr.1 = some z → base ≤ z.block ∧ z.block < w.heap.size ∧ z.block ∉ mset M x)
  nb : M ∉ blk x.b.1
  nd : M ∉ blk x.d.1
  nf : M ∉ blk x.f.1
  nm : M ∉ blk x.m.1
  bd : ∀ k ∈ blk x.b.1, k ∉ blk x.d.1
  bf : ∀ k ∈ blk x.b.1, k ∉ blk x.f.1
  bm : ∀ k ∈ blk x.b.1, k ∉ blk x.m.1
  df : ∀ k ∈ blk x.d.1, k ∉ blk x.f.1
  dm : ∀ k ∈ blk x.d.1, k ∉ blk x.m.1
  fm : ∀ k ∈ blk x.f.1, k ∉ blk x.m.1
theorem mset_lt {base M D F : Nat} {kd : Bool} {E : Nat} {x : Mk} {w : World} (h : MI base M D F kd E x w) : ∀ k ∈ mset M x, base ≤ k ∧ k < w.heap.size := by
  intro k hk
  unfold mset at hk
  simp only [List.mem_cons, List.mem_append] at hk
  rcases hk with rfl | hk | hk | hk | hk
  · exact ⟨h.bM, lt_of_heap h.row⟩
  · obtain ⟨z, hz, rfl⟩ := mem_blk.1 hk; exact h.bO.lt z hz
  · obtain ⟨z, hz, rfl⟩ := mem_blk.1 hk; exact h.dO.lt z hz
  · obtain ⟨z, hz, rfl⟩ := mem_blk.1 hk; exact h.fO.lt z hz
  · obtain ⟨z, hz, rfl⟩ := mem_blk.1 hk; exact h.mO.lt z hz
/-- What turns none of its blocks keeps it. -/
theorem MI.keep {G : Nat → Prop} {base M D F : Nat} {kd : Bool} {E : Nat} {x : Mk} {w w' : World} (h : MI base M D F kd E x w) (hu : Upd G w w') (hG : ∀ k ∈ mset M x, ¬ G k) (hA : ∀ k ∈ x.ds, ∀ z, k.arr.1 = some z → ¬ G z.block) : MI base M D F kd E x w' := by
  have gM : ¬ G M := hG M (by simp [mset])
  have gb : ∀ z, x.b.1 = some z → ¬ G z.block := fun z hz => hG _ (by simp [mset, mem_blk]; exact .inr (.inl ⟨z, hz, rfl⟩))
  have gd : ∀ z, x.d.1 = some z → ¬ G z.block := fun z hz => hG _ (by simp [mset, mem_blk]; exact .inr (.inr (.inl ⟨z, hz, rfl⟩)))
  have gf : ∀ z, x.f.1 = some z → ¬ G z.block := fun z hz => hG _ (by simp [mset, mem_blk]; exact .inr (.inr (.inr (.inl ⟨z, hz, rfl⟩))))
  have gm : ∀ z, x.m.1 = some z → ¬ G z.block := fun z hz => hG _ (by simp [mset, mem_blk]; exact .inr (.inr (.inr (.inr ⟨z, hz, rfl⟩))))
  exact { h with row := row_upd hu gM h.row, bO := h.bO.upd hu gb, dO := h.dO.upd hu gd, fO := h.fO.upd hu gf, mO := h.mO.upd hu gm, arr := fun k hk => ⟨(h.arr k hk).1.upd hu (hA k hk), (h.arr k hk).2.1, fun z hz => by obtain ⟨q1, q2, q3⟩ := (h.arr k hk).2.2 z hz; exact ⟨q1, Nat.lt_of_lt_of_le q2 hu.size, q3⟩⟩ }
theorem MI.below {base M D F : Nat} {kd : Bool} {E : Nat} {x : Mk} {w w' : World} (h : MI base M D F kd E x w) (hb : Below w.heap.size w w') : MI base M D F kd E x w' :=
  h.keep (Upd.ofBelow (F := fun k => w.heap.size ≤ k) hb) (fun k hk => by have := (mset_lt h k hk).2; omega) (fun k hk z hz => by have := ((h.arr k hk).2.2 z hz).2.1; omega)
theorem mset_M {M : Nat} {x : Mk} : M ∈ mset M x := by simp [mset]
theorem mset_b {M : Nat} {x : Mk} {k : Nat} (h : k ∈ blk x.b.1) : k ∈ mset M x := by simp [mset, h]
theorem mset_d {M : Nat} {x : Mk} {k : Nat} (h : k ∈ blk x.d.1) : k ∈ mset M x := by simp [mset, h]
theorem mset_f {M : Nat} {x : Mk} {k : Nat} (h : k ∈ blk x.f.1) : k ∈ mset M x := by simp [mset, h]
theorem mset_m {M : Nat} {x : Mk} {k : Nat} (h : k ∈ blk x.m.1) : k ∈ mset M x := by simp [mset, h]
theorem mset_iff {M : Nat} {x : Mk} {k : Nat} : k ∈ mset M x ↔ k = M ∨ k ∈ blk x.b.1 ∨ k ∈ blk x.d.1 ∨ k ∈ blk x.f.1 ∨ k ∈ blk x.m.1 := by simp [mset]
section
variable {x : Mk}
theorem mkL_hd (hc : x.cfg.length = 52) (i : Nat) (hi : i < x.hd.length) (v : Value) : (mkL x).toArray.setIfInBounds (52 + i) v = (mkL { x with hd := x.hd.set i v }).toArray := by
  simp only [mkL, List.setIfInBounds_toArray]
  congr 1
  rw [List.set_append_right _ _ (by omega), hc, Nat.add_sub_cancel_left, List.set_append_left _ _ hi]
theorem mkL_tail (hc : x.cfg.length = 52) (hh : x.hd.length = 90) (i : Nat) (v : Value) : (mkL x).toArray.setIfInBounds (142 + i) v = (x.cfg ++ (x.hd ++ ([.int .u64 x.dp, .slice x.b.1 x.b.2.1 x.b.2.2, .slice x.d.1 x.d.2.1 x.d.2.2, .slice x.f.1 x.f.2.1 x.f.2.2, .slice x.m.1 x.m.2.1 x.m.2.2] : List Value).set i v)).toArray := by
  simp only [mkL, List.setIfInBounds_toArray]
  congr 1
  rw [List.set_append_right _ _ (by omega), hc, List.set_append_right _ _ (by omega), hh, show 142 + i - 52 - 90 = i by omega]
theorem mkL_get (hc : x.cfg.length = 52) (hh : x.hd.length = 90) (i : Nat) : (mkL x).toArray[142 + i]? = ([.int .u64 x.dp, .slice x.b.1 x.b.2.1 x.b.2.2, .slice x.d.1 x.d.2.1 x.d.2.2, .slice x.f.1 x.f.2.1 x.f.2.2, .slice x.m.1 x.m.2.1 x.m.2.2] : List Value)[i]? := by
  simp only [mkL, List.getElem?_toArray]
  rw [List.getElem?_append_right (by omega), hc, List.getElem?_append_right (by omega), hh, show 142 + i - 52 - 90 = i by omega]
theorem mkL_cfg (hc : x.cfg.length = 52) (i : Nat) (v : Value) (h : x.cfg[i]? = some v) : (mkL x).toArray[i]? = some v := by
  have hi := (List.getElem?_eq_some_iff.1 h).1
  simp only [mkL, List.getElem?_toArray]
  rw [List.getElem?_append_left hi, h]
theorem mkL_hget (hc : x.cfg.length = 52) (i : Nat) (v : Value) (h : x.hd[i]? = some v) : (mkL x).toArray[52 + i]? = some v := by
  have hi := (List.getElem?_eq_some_iff.1 h).1
  simp only [mkL, List.getElem?_toArray]
  rw [List.getElem?_append_right (by omega), hc, Nat.add_sub_cancel_left, List.getElem?_append_left hi, h]
theorem mkL_size (hc : x.cfg.length = 52) (hh : x.hd.length = 90) : (mkL x).toArray.size = 147 := by simp [mkL, hc, hh]
end
section
variable {base M D F : Nat} {kd : Bool} {E : Nat} {x : Mk} {w : World}
theorem MI.cb (h : MI base M D F kd E x w) : w.cell? ⟨M, 143, none⟩ = some (.slice x.b.1 x.b.2.1 x.b.2.2) := cell_of_heap h.row 143 _ (mkL_get h.cfg.len h.hd.len 1)
theorem MI.cd (h : MI base M D F kd E x w) : w.cell? ⟨M, 144, none⟩ = some (.slice x.d.1 x.d.2.1 x.d.2.2) := cell_of_heap h.row 144 _ (mkL_get h.cfg.len h.hd.len 2)
theorem MI.cf (h : MI base M D F kd E x w) : w.cell? ⟨M, 145, none⟩ = some (.slice x.f.1 x.f.2.1 x.f.2.2) := cell_of_heap h.row 145 _ (mkL_get h.cfg.len h.hd.len 3)
theorem MI.cm (h : MI base M D F kd E x w) : w.cell? ⟨M, 146, none⟩ = some (.slice x.m.1 x.m.2.1 x.m.2.2) := cell_of_heap h.row 146 _ (mkL_get h.cfg.len h.hd.len 4)
theorem MI.cdp (h : MI base M D F kd E x w) : w.cell? ⟨M, 142, none⟩ = some (.int .u64 x.dp) := cell_of_heap h.row 142 _ (mkL_get h.cfg.len h.hd.len 0)
theorem MI.cD (h : MI base M D F kd E x w) : w.cell? ⟨M, 48, none⟩ = some (.int .i64 (D : Int)) := cell_of_heap h.row 48 _ (mkL_cfg h.cfg.len 48 _ h.cfg.d)
theorem MI.cF (h : MI base M D F kd E x w) : w.cell? ⟨M, 49, none⟩ = some (.int .i64 (F : Int)) := cell_of_heap h.row 49 _ (mkL_cfg h.cfg.len 49 _ h.cfg.f)
theorem MI.cMost (h : MI base M D F kd E x w) : w.cell? ⟨M, 50, none⟩ = some (.int .i64 32768) := cell_of_heap h.row 50 _ (mkL_cfg h.cfg.len 50 _ h.cfg.most)
theorem MI.cK (h : MI base M D F kd E x w) : w.cell? ⟨M, 51, none⟩ = some (.bool kd) := cell_of_heap h.row 51 _ (mkL_cfg h.cfg.len 51 _ h.cfg.kd)
theorem MI.free (h : MI base M D F kd E x w) (j : Nat) : w.frozen? ⟨M, j, none⟩ = false := free_of_heap h.row j
/-- A number of the head. -/
theorem MI.cN (h : MI base M D F kd E x w) (k : Nat) (hk : k < 20) : ∃ v, w.cell? ⟨M, 119 + k, none⟩ = some (.int .u64 v) ∧ U64 v := by
  obtain ⟨co, inc, st, I, Ns, ta, ti, te, hh⟩ := h.hd
  have hl := hh.ns.len
  obtain ⟨v, hv⟩ : ∃ v, Ns[k]? = some v := ⟨_, List.getElem?_eq_getElem (by omega)⟩
  refine ⟨v, ?_, hh.ns.u v (List.mem_of_getElem? hv)⟩
  have := headL_N (co := co) (inc := inc) (st := st) (ta := ta) (ti := ti) (te := te) hh.il k v hv
  rw [show 119 + k = 52 + (67 + k) by omega]
  refine cell_of_heap h.row (52 + (67 + k)) _ (mkL_hget h.cfg.len (67 + k) _ ?_)
  rw [hh.eq]; simpa using this
theorem MI.cNk (h : MI base M D F kd E x w) (k : Nat) (v : Int) (hv : ∀ Ns : List Int, NsOK Ns D F E → Ns[k]? = some v) : w.cell? ⟨M, 119 + k, none⟩ = some (.int .u64 v) := by
  obtain ⟨co, inc, st, I, Ns, ta, ti, te, hh⟩ := h.hd
  have := headL_N (co := co) (inc := inc) (st := st) (ta := ta) (ti := ti) (te := te) hh.il k v (hv Ns hh.ns)
  rw [show 119 + k = 52 + (67 + k) by omega]
  refine cell_of_heap h.row (52 + (67 + k)) _ (mkL_hget h.cfg.len (67 + k) _ ?_)
  rw [hh.eq]; simpa using this
/-- A cell of the head stored anew. -/
theorem MI.setHd (h : MI base M D F kd E x w) (i : Nat) (v : Value) (E' : Nat) (hi : i < 90) (hd : HdI (x.hd.set i v) D F E') : MI base M D F kd E' { x with hd := x.hd.set i v } (w.setCell ⟨M, 52 + i, none⟩ v) := by
  have hu := Upd.setCell (F := (· = M)) w ⟨M, 52 + i, none⟩ v rfl
  have hr := row_set h.row (52 + i) v
  rw [mkL_hd h.cfg.len i (by rw [h.hd.len]; exact hi)] at hr
  exact { row := hr, bM := h.bM, cfg := h.cfg, hd := hd, dp := h.dp, bB := h.bB
          bO := h.bO.upd hu (fun z hz e => h.nb (mem_blk.2 ⟨z, hz, e⟩))
          dO := h.dO.upd hu (fun z hz e => h.nd (mem_blk.2 ⟨z, hz, e⟩))
          fO := h.fO.upd hu (fun z hz e => h.nf (mem_blk.2 ⟨z, hz, e⟩))
          mO := h.mO.upd hu (fun z hz e => h.nm (mem_blk.2 ⟨z, hz, e⟩))
          mU := h.mU
          arr := fun k hk => ⟨(h.arr k hk).1.upd hu (fun z hz e => ((h.arr k hk).2.2 z hz).2.2 (by rw [e]; exact mset_M)), (h.arr k hk).2.1, fun z hz => by
            obtain ⟨q1, q2, q3⟩ := (h.arr k hk).2.2 z hz
            exact ⟨q1, by simpa using q2, q3⟩⟩
          nb := h.nb, nd := h.nd, nf := h.nf, nm := h.nm, bd := h.bd, bf := h.bf, bm := h.bm, df := h.df, dm := h.dm, fm := h.fm }
theorem HdI.setN {hd : List Value} (h : HdI hd D F E) (k : Nat) (v : Int) (hk : k < 20) (h0 : k ≠ 0) (h2 : k ≠ 2) (h3 : k ≠ 3) (h4 : k ≠ 4) (h5 : k ≠ 5) (hv : U64 v) (E' : Nat) (h8 : (k = 8 ∧ v = (E' : Int)) ∨ (k ≠ 8 ∧ E' = E)) : HdI (hd.set (67 + k) (.int .u64 v)) D F E' := by
  obtain ⟨co, inc, st, I, Ns, ta, ti, te, hh⟩ := h
  have hl := hh.ns.len
  have hs := headL_setN (co := co) (inc := inc) (st := st) (I := I) (Ns := Ns) (ta := ta) (ti := ti) (te := te) hh.il k (by omega) v
  refine ⟨co, inc, st, I, Ns.set k v, ta, ti, te, ?_, hh.co, hh.inc, hh.il, hh.ib, ⟨by simpa using hl, ?_, ?_, ?_, ?_, ?_, ?_, ?_⟩, hh.ta, hh.ti, hh.te⟩
  · rw [hh.eq]
    rw [List.setIfInBounds_toArray] at hs
    exact List.toArray_inj hs
  · intro z hz
    rcases List.mem_or_eq_of_mem_set hz with hz | hz
    · exact hh.ns.u z hz
    · subst hz; exact hv
  · rw [List.getElem?_set_ne h0]; exact hh.ns.n0
  · rw [List.getElem?_set_ne h2]; exact hh.ns.n2
  · rw [List.getElem?_set_ne h3]; exact hh.ns.n3
  · rw [List.getElem?_set_ne h4]; exact hh.ns.n4
  · rw [List.getElem?_set_ne h5]; exact hh.ns.n5
  · rcases h8 with ⟨h8, hv8⟩ | ⟨h8, hE⟩
    · subst h8; rw [List.getElem?_set_self (by omega), hv8]
    · rw [List.getElem?_set_ne h8, hE]; exact hh.ns.n8
/-- A number of the head stored anew. -/
theorem MI.setN (h : MI base M D F kd E x w) (k : Nat) (v : Int) (hk : k < 20) (h0 : k ≠ 0) (h2 : k ≠ 2) (h3 : k ≠ 3) (h4 : k ≠ 4) (h5 : k ≠ 5) (h8 : k ≠ 8) (hv : U64 v) : MI base M D F kd E { x with hd := x.hd.set (67 + k) (.int .u64 v) } (w.setCell ⟨M, 119 + k, none⟩ (.int .u64 v)) := by
  have := h.setHd (67 + k) (.int .u64 v) E (by omega) (h.hd.setN k v hk h0 h2 h3 h4 h5 hv E (.inr ⟨h8, rfl⟩))
  rwa [show 52 + (67 + k) = 119 + k by omega] at this
/-- The bytes are others, or lie elsewhere. -/
theorem MI.newB (h : MI base M D F kd E x w) {w1 : World} {a' : Option Addr} {n' c' : Nat} {l' : List Int} (ho : Own (Value.int .u8) 5 w1 base a' n' c' l') (hl : IsB l') (hu : Upd (· ∈ blk x.b.1) w w1) (hn : ∀ k ∈ blk a', k ∈ blk x.b.1 ∨ w.heap.size ≤ k) :
    MI base M D F kd E { x with b := (a', n', c'), bl := l' } (w1.setCell ⟨M, 143, none⟩ (.slice a' n' c')) := by
  have hML := lt_of_heap h.row
  have hs := hu.size
  have hu2 := Upd.setCell (F := (· = M)) w1 ⟨M, 143, none⟩ (.slice a' n' c') rfl
  have hu3 : Upd (fun k => k ∈ blk x.b.1 ∨ k = M) w (w1.setCell ⟨M, 143, none⟩ (.slice a' n' c')) := (hu.mono (G := fun k => k ∈ blk x.b.1 ∨ k = M) (fun k _ hk => .inl hk)).trans hu2 (fun k _ hk => .inr hk)
  have hr := row_set (row_upd hu h.nb h.row) 143 (.slice a' n' c')
  rw [mkL_tail h.cfg.len h.hd.len 1] at hr
  have hlt := mset_lt h
  have nMa : M ∉ blk a' := fun e => by rcases hn M e with e | e; exact h.nb e; omega
  have nd : ∀ k ∈ blk a', k ∉ blk x.d.1 := fun k hk e => by rcases hn k hk with g | g; exact h.bd k g e; have := (hlt k (mset_d e)).2; omega
  have nf : ∀ k ∈ blk a', k ∉ blk x.f.1 := fun k hk e => by rcases hn k hk with g | g; exact h.bf k g e; have := (hlt k (mset_f e)).2; omega
  have nm : ∀ k ∈ blk a', k ∉ blk x.m.1 := fun k hk e => by rcases hn k hk with g | g; exact h.bm k g e; have := (hlt k (mset_m e)).2; omega
  exact { row := hr, bM := h.bM, cfg := h.cfg, hd := h.hd, dp := h.dp, bB := hl
          bO := ho.upd hu2 (fun z hz e => nMa (mem_blk.2 ⟨z, hz, e⟩))
          dO := h.dO.upd hu3 (fun z hz e => by rcases e with e | e; exact h.bd _ e (mem_blk.2 ⟨z, hz, rfl⟩); exact h.nd (mem_blk.2 ⟨z, hz, e⟩))
          fO := h.fO.upd hu3 (fun z hz e => by rcases e with e | e; exact h.bf _ e (mem_blk.2 ⟨z, hz, rfl⟩); exact h.nf (mem_blk.2 ⟨z, hz, e⟩))
          mO := h.mO.upd hu3 (fun z hz e => by rcases e with e | e; exact h.bm _ e (mem_blk.2 ⟨z, hz, rfl⟩); exact h.nm (mem_blk.2 ⟨z, hz, e⟩))
          mU := h.mU
          arr := fun k hk => ⟨(h.arr k hk).1.upd hu3 (fun z hz e => ((h.arr k hk).2.2 z hz).2.2 (by rcases e with e | e; exact mset_b e; rw [e]; exact mset_M)), (h.arr k hk).2.1, fun z hz => by
            obtain ⟨q1, q2, q3⟩ := (h.arr k hk).2.2 z hz
            refine ⟨q1, Nat.lt_of_lt_of_le q2 hu3.size, fun e => ?_⟩
            rcases mset_iff.1 e with e | e | e | e | e
            · exact q3 (by rw [e]; exact mset_M)
            · rcases hn _ e with g | g; exact q3 (mset_b g); omega
            · exact q3 (mset_d e)
            · exact q3 (mset_f e)
            · exact q3 (mset_m e)⟩
          nb := nMa, nd := h.nd, nf := h.nf, nm := h.nm, bd := nd, bf := nf, bm := nm, df := h.df, dm := h.dm, fm := h.fm }
/-- The bytes are others where they lie. -/
theorem MI.sameB (h : MI base M D F kd E x w) {w1 : World} {l' : List Int} (ho : Own (Value.int .u8) 5 w1 base x.b.1 x.b.2.1 x.b.2.2 l') (hl : IsB l') (hu : Upd (· ∈ blk x.b.1) w w1) : MI base M D F kd E { x with bl := l' } w1 := by
  exact { row := row_upd hu h.nb h.row, bM := h.bM, cfg := h.cfg, hd := h.hd, dp := h.dp, bB := hl, bO := ho
          dO := h.dO.upd hu (fun z hz e => h.bd _ e (mem_blk.2 ⟨z, hz, rfl⟩))
          fO := h.fO.upd hu (fun z hz e => h.bf _ e (mem_blk.2 ⟨z, hz, rfl⟩))
          mO := h.mO.upd hu (fun z hz e => h.bm _ e (mem_blk.2 ⟨z, hz, rfl⟩))
          mU := h.mU
          arr := fun k hk => ⟨(h.arr k hk).1.upd hu (fun z hz e => ((h.arr k hk).2.2 z hz).2.2 (mset_b e)), (h.arr k hk).2.1, fun z hz => by
            obtain ⟨q1, q2, q3⟩ := (h.arr k hk).2.2 z hz
            exact ⟨q1, Nat.lt_of_lt_of_le q2 hu.size, q3⟩⟩
          nb := h.nb, nd := h.nd, nf := h.nf, nm := h.nm, bd := h.bd, bf := h.bf, bm := h.bm, df := h.df, dm := h.dm, fm := h.fm }
theorem MI.setDp (h : MI base M D F kd E x w) (v : Int) (hv : U64 v) : MI base M D F kd E { x with dp := v } (w.setCell ⟨M, 142, none⟩ (.int .u64 v)) := by
  have hu := Upd.setCell (F := (· = M)) w ⟨M, 142, none⟩ (.int .u64 v) rfl
  have hr := row_set h.row 142 (.int .u64 v)
  rw [mkL_tail h.cfg.len h.hd.len 0] at hr
  exact { row := hr, bM := h.bM, cfg := h.cfg, hd := h.hd, dp := hv, bB := h.bB
          bO := h.bO.upd hu (fun z hz e => h.nb (mem_blk.2 ⟨z, hz, e⟩))
          dO := h.dO.upd hu (fun z hz e => h.nd (mem_blk.2 ⟨z, hz, e⟩))
          fO := h.fO.upd hu (fun z hz e => h.nf (mem_blk.2 ⟨z, hz, e⟩))
          mO := h.mO.upd hu (fun z hz e => h.nm (mem_blk.2 ⟨z, hz, e⟩))
          mU := h.mU
          arr := fun k hk => ⟨(h.arr k hk).1.upd hu (fun z hz e => ((h.arr k hk).2.2 z hz).2.2 (by rw [e]; exact mset_M)), (h.arr k hk).2.1, fun z hz => by
            obtain ⟨q1, q2, q3⟩ := (h.arr k hk).2.2 z hz
            exact ⟨q1, by simpa using q2, q3⟩⟩
          nb := h.nb, nd := h.nd, nf := h.nf, nm := h.nm, bd := h.bd, bf := h.bf, bm := h.bm, df := h.df, dm := h.dm, fm := h.fm }
end
end Go.Proofs.Ytpkmdnfkeebgbaa

/- What the Maker's put and object do to it. Conditions stand as premises. -/
namespace Go.Proofs.Ytpkmdnfkeebgbaa
open Go.ChangeShapes Go.WideShapes Go.ChangeAt Go.RowKit
set_option linter.unusedVariables false
set_option linter.unusedSimpArgs false

/-- Bytes of a Maker turned, as many as there were. -/
def PutE (base M D F : Nat) (kd : Bool) (E : Nat) (x : Mk) (w : World) (e : Ending) (w' : World) : Prop :=
  e = .returned (.tuple #[]) ∧ ∃ l', l'.length = x.bl.length ∧ MI base M D F kd E { x with bl := l' } w' ∧ Upd (· ∈ blk x.b.1) w w'

set_option maxRecDepth 100000 in
set_option maxHeartbeats 2000000 in
theorem put_lo {base M D F : Nat} {kd : Bool} {E : Nat} {x : Mk} {w : World} (h : MI base M D F kd E x w) (p : Nat) (v : Int) (hp : p + 8 ≤ x.bl.length) (hl : x.bl.length ≤ 100000) (hv : U64 v) :
    Calls Try.prog 57 #[.pointer (some ⟨M, 0, none⟩), .int .u64 (p : Int), .int .u64 v] w (PutE base M D F kd E x w) := by
  have H := Lib.hid h
  have hbl := h.bO.1
  obtain ⟨g, hg, hg1, hg2⟩ := h.bO.at (by omega)
  obtain ⟨v0, v1⟩ := hv
  clear h
  go_enter Try.func57, Try.ntmps57
  go_wp2_with fail
  go_loopw [6] (fun i_ wr => ∃ (i : Nat) (l' : List Int), i_ = .int .i64 (i : Int) ∧ i ≤ 8 ∧ l'.length = x.bl.length ∧ MI base M D F kd E { x with bl := l' } wr ∧ Upd (· ∈ blk x.b.1) w wr) (fun i_ _ => 8 - (intOf i_).toNat)
  case atStart => exact ⟨0, x.bl, rfl, by omega, rfl, H.out, Upd.refl _ _⟩
  case round =>
    obtain ⟨i, l', rfl, hi, hl', hm, hu⟩ := hrel
    by_cases hlt : i < 8
    · have hlt' : (i : Int) < 8 := by omega
      have hi0 : (0 : Int) ≤ (i : Int) := by omega
      have cb := hm.cb
      simp only [hg] at cb
      obtain ⟨bb, hbb⟩ : ∃ bb, l'[p + i]? = some bb := ⟨_, List.getElem?_eq_getElem (by omega)⟩
      have hO := hm.bO
      simp only [hg] at hO
      have cc := hO.cell (p + i) bb hbb
      have ff := hO.free (p + i)
      have hO2 := Lib.hid (hO.set (p + i) (v / 2 ^ (8 * i) % 256))
      have hpi : (p : Int) + (i : Int) < (x.b.2.1 : Int) := by omega
      have hpi0 : (0 : Int) ≤ (p : Int) + (i : Int) := by omega
      have hw1 : IntKind.u64.wrap (i : Int) = (i : Int) := by rw [IntKind.wrap_u64]; omega
      have hw2 : IntKind.u64.wrap ((p : Int) + (i : Int)) = (p : Int) + (i : Int) := by rw [IntKind.wrap_u64]; omega
      have hw3 : IntKind.i64.wrap (8 * (i : Int)) = 8 * (i : Int) := by rw [IntKind.wrap_i64]; omega
      have hw4 : IntKind.u64.wrap (8 * (i : Int)) = 8 * (i : Int) := by rw [IntKind.wrap_u64]; omega
      have HM := Lib.hid hm
      have HU := Lib.hid hu
      clear hm hu hO hbb
      go_wp2_with fail
      refine ⟨⟨i + 1, l'.set (p + i) (v / 2 ^ (8 * i) % 256), by congr 1, by omega, by rw [List.length_set]; exact hl', ?_, ?_⟩, by simp [intOf]; omega⟩
      · refine HM.out.sameB (l' := l'.set (p + i) (v / 2 ^ (8 * i) % 256)) (by simp only [hg]; exact hO2.out) ?_ (Upd.setCell _ _ _ (by simp only [hg]; exact List.mem_singleton.2 rfl))
        intro z hz
        rcases List.mem_or_eq_of_mem_set hz with hz | hz
        · exact HM.out.bB z hz
        · subst hz; omega
      · exact HU.out.trans (Upd.setCell (F := (· ∈ blk x.b.1)) _ _ _ (by simp only [hg]; exact List.mem_singleton.2 rfl)) (fun _ _ h => h)
    · obtain rfl : i = 8 := by omega
      have hge : ¬ ((8 : Int) < 8) := by omega
      go_wp2_with fail
      go_end0
      exact ⟨rfl, l', hl', hm, hu⟩

/-- An object put at the end: its place. -/
def ObjE (base M D F : Nat) (kd : Bool) (E : Nat) (x : Mk) (l : List Int) (w : World) (e : Ending) (w' : World) : Prop :=
  e = .returned (.int .u64 (x.bl.length : Int)) ∧ ∃ (b' : SL) (hd' : List Value), MI base M D F kd E { x with b := b', bl := x.bl ++ l, hd := hd' } w' ∧ Upd (fun k => k = M ∨ k ∈ blk x.b.1) w w' ∧ (∀ k ∈ blk b'.1, k ∈ blk x.b.1 ∨ w.heap.size ≤ k)
set_option maxRecDepth 100000 in
set_option maxHeartbeats 2000000 in
theorem object_lo {base M D F : Nat} {kd : Bool} {E : Nat} {x : Mk} {w : World} (h : MI base M D F kd E x w) (a : Option Addr) (n c : Nat) (l : List Int) (hr : RdB w a n c l) (hn : n ≤ 10000) (hl : x.bl.length ≤ 100000) (hb : base ≤ w.heap.size) :
    Calls Try.prog 53 #[.pointer (some ⟨M, 0, none⟩), .slice a n c] w (ObjE base M D F kd E x l w) := by
  have H := Lib.hid h
  have hbl := h.bO.1
  have cb := h.cb
  have f143 := h.free 143
  have HR := Lib.hid hr
  have hw1 : IntKind.u64.wrap (x.b.2.1 : Int) = (x.b.2.1 : Int) := by rw [IntKind.wrap_u64]; omega
  clear h hr
  go_enter Try.func53, Try.ntmps53
  go_upto_region 2 with fail
  go_upto_region 3 with (at_builtin; go_must (refine wpList_appAt rfl rfl Try.oneB rfl rfl H.out.bO HR.out.2 (fun _ => rfl) (by omega) (by omega) hb ?_); intro a4 c4 w4 ho4 hu4 hn4; have c4M := ucell hu4 H.out.nb cb; have f4M := ufree hu4 (lt_of_heap H.out.row) H.out.nb f143)
  have hM5 := H.out.newB ho4 (H.out.bB.append HR.out.1) hu4 hn4
  have HU5 := Lib.hid (show Upd (fun k => k = M ∨ k ∈ blk x.b.1) w (w4.setCell ⟨M, 143, none⟩ (.slice a4 (x.b.2.1 + n) c4)) from (hu4.mono (G := fun k => k = M ∨ k ∈ blk x.b.1) (fun k _ hk => .inr hk)).trans (Upd.setCell (F := (· = M)) w4 ⟨M, 143, none⟩ _ rfl) (fun k _ hk => .inl hk))
  generalize w4.setCell ⟨M, 143, none⟩ (.slice a4 (x.b.2.1 + n) c4) = w5 at hM5 HU5 ⊢
  clear ho4 hu4 c4M f4M cb f143
  obtain ⟨v6, hv6, hu6⟩ := hM5.cN 6 (by omega)
  have f6 := hM5.free 125
  have hM6 := hM5.setN 6 (x.bl.length : Int) (by omega) (by omega) (by omega) (by omega) (by omega) (by omega) (by omega) ⟨by omega, by omega⟩
  have HU6 := Lib.hid (HU5.out.trans (Upd.setCell (F := (· = M)) w5 ⟨M, 125, none⟩ (.int .u64 (x.bl.length : Int)) rfl) (fun k _ hk => .inl hk))
  rw [hbl] at hM6 HU6
  simp only [Nat.reduceAdd] at hv6 hM6
  go_upto_region 4 with fail
  generalize w5.setCell ⟨M, 125, none⟩ (.int .u64 (x.b.2.1 : Int)) = w6 at hM6 HU6 ⊢
  clear hv6 hu6 f6 hM5 HU5
  obtain ⟨v7, hv7, hu7⟩ := hM6.cN 7 (by omega)
  have f7 := hM6.free 126
  have hM7 := hM6.setN 7 ((v7 + 1) % 18446744073709551616) (by omega) (by omega) (by omega) (by omega) (by omega) (by omega) (by omega) ⟨by omega, by omega⟩
  have HU7 := Lib.hid (HU6.out.trans (Upd.setCell (F := (· = M)) w6 ⟨M, 126, none⟩ (.int .u64 ((v7 + 1) % 18446744073709551616)) rfl) (fun k _ hk => .inl hk))
  simp only [Nat.reduceAdd] at hv7 hM7
  have HM7 := Lib.hid hM7
  obtain ⟨v70, v71⟩ := hu7
  clear hM6 hM7
  go_region
  go_wp2_with fail
  go_ret
  refine ⟨by rw [hbl]; rfl, (a4, x.b.2.1 + n, c4), _, HM7.out.below (below_drew _), HU7.out.drew, hn4⟩

/-- How many stood ahead; bytes turned. -/
def HangE (base M D F : Nat) (kd : Bool) (E : Nat) (x : Mk) (m : Nat) (w : World) (e : Ending) (w' : World) : Prop :=
  ∃ k : Nat, e = .returned (.int .u64 (k : Int)) ∧ k ≤ m ∧ ∃ l', l'.length = x.bl.length ∧ MI base M D F kd E { x with bl := l' } w' ∧ Upd (· ∈ blk x.b.1) w w'
set_option maxRecDepth 100000 in
set_option maxHeartbeats 4000000 in
theorem hang_lo {base M D F : Nat} {kd : Bool} {E : Nat} {x : Mk} {w : World} (h : MI base M D F kd E x w) (la : Option Addr) (ln lc : Nat) (L : List Kn) (hL : RdK encKn 5 w la ln lc L) (hLp : ∀ k ∈ L, k.pl + 32 ≤ x.bl.length) (hln : ln ≤ 1000) (T S : Nat) (hT : T + 16 * S + 16 ≤ x.bl.length) (v : Int) (hv : U64 v) (hl : x.bl.length ≤ 100000) :
    Calls Try.prog 63 #[.pointer (some ⟨M, 0, none⟩), .slice la ln lc, .int .u64 (T : Int), .int .u64 v, .int .i64 (S : Int)] w (HangE base M D F kd E x ln w) := by
  have H := Lib.hid h
  have HL := Lib.hid hL
  have HLp := Lib.hid hLp
  have hLl := hL.1
  clear h hL hLp
  go_enter Try.func63, Try.ntmps63
  go_wp2_with fail
  go_loopw [11, 12, 13] (fun n_ t_ i_ wr => ∃ (k q i : Nat), n_ = .int .u64 (k : Int) ∧ t_ = .int .u64 (q : Int) ∧ i_ = .int .i64 (i : Int) ∧ k ≤ i ∧ i ≤ ln ∧ (k = 0 ∨ q + 32 ≤ x.bl.length) ∧ q ≤ 200000 ∧ wr = w) (fun _ _ i_ _ => ln - (intOf i_).toNat)
  case atStart => exact ⟨0, 0, 0, rfl, rfl, rfl, Nat.le_refl _, Nat.zero_le _, .inl rfl, by omega, rfl⟩
  case round =>
    obtain ⟨k, q, i, rfl, rfl, rfl, hk, hi, hkq, hq, rfl⟩ := hrel
    by_cases hlt : i < ln
    · have hlt' : (i : Int) < (ln : Int) := by omega
      have hi0 : (0 : Int) ≤ (i : Int) := by omega
      obtain ⟨b, off, rfl, hbl, hcs⟩ := HL.out.at (by omega)
      obtain ⟨y, hy⟩ : ∃ y, L[i]? = some y := ⟨_, List.getElem?_eq_getElem (by omega)⟩
      have hyp := HLp.out y (List.mem_of_getElem? hy)
      have c2 : wr.cell? ⟨b, off + i * 5 + 2, none⟩ = some (.int .i64 (y.slot : Int)) := by rw [Nat.add_assoc]; exact hcs i y hy 2 _ rfl
      have c1 : wr.cell? ⟨b, off + i * 5 + 1, none⟩ = some (.int .u64 (y.pl : Int)) := by rw [Nat.add_assoc]; exact hcs i y hy 1 _ rfl
      have hw : (k : Int) + 1 ≤ 18446744073709551615 := by omega
      clear hcs hy
      rcases he : (((y.slot : Int)) == (S : Int)) with _ | _
      · go_wp2_with fail
        go_roundw
        case rel => exact ⟨k, q, i + 1, rfl, rfl, by congr 1, by omega, by omega, hkq, hq, trivial⟩
        case measure => simp [intOf]; omega
      · go_wp2_with fail
        go_roundw
        case rel => exact ⟨k + 1, y.pl, i + 1, by congr 1, rfl, by congr 1, by omega, by omega, .inr hyp, by omega, trivial⟩
        case measure => simp [intOf]; omega
    · obtain rfl : i = ln := by omega
      have hge : ¬ ((i : Int) < (i : Int)) := by omega
      have hw1 : IntKind.u64.wrap (16 * (S : Int)) = 16 * (S : Int) := by rw [IntKind.wrap_u64]; omega
      have hw2 : IntKind.u64.wrap ((T : Int) + 16 * (S : Int)) = (T : Int) + 16 * (S : Int) := by rw [IntKind.wrap_u64]; omega
      have hw3 : IntKind.i64.wrap (16 * (S : Int)) = 16 * (S : Int) := by rw [IntKind.wrap_i64]; omega
      have hw4 : IntKind.u64.wrap ((T : Int) + 16 * (S : Int) + 8) = (T : Int) + 16 * (S : Int) + 8 := by rw [IntKind.wrap_u64]; omega
      have hw5 : IntKind.u64.wrap ((q : Int) + 24) = (q : Int) + 24 := by rw [IntKind.wrap_u64]; omega
      have e1 : ((T + 16 * S : Nat) : Int) = (T : Int) + 16 * (S : Int) := by omega
      have e2 : ((T + 16 * S + 8 : Nat) : Int) = (T : Int) + 16 * (S : Int) + 8 := by omega
      have e3 : ((q + 24 : Nat) : Int) = (q : Int) + 24 := by omega
      have HP2 := Lib.hid (fun (l' : List Int) (w' : World) (hl' : l'.length = x.bl.length) (hm : MI base M D F kd E { x with bl := l' } w') => put_lo hm (T + 16 * S + 8) v (by simp only [hl']; omega) (by simp only [hl']; omega) hv)
      rw [e2] at HP2
      by_cases hk0 : k = 0
      · have hk1 : ((k : Int) == 0) = true := by subst hk0; rfl
        have hk2 : (k == 0) = true := by subst hk0; rfl
        have HP1 := Lib.hid (put_lo H.out (T + 16 * S) v (by omega) hl hv)
        rw [e1] at HP1
        clear e1 e2 e3
        go_wp2_with fail
        refine HP1.out.mono ?_
        rintro e w2 ⟨rfl, l2, hl2, hm2, hu2⟩
        go_wp2_with fail
        refine (HP2.out l2 w2 hl2 hm2).mono ?_
        rintro e w3 ⟨rfl, l3, hl3, hm3, hu3⟩
        go_wp2_with fail
        go_ret
        exact ⟨0, rfl, by omega, l3, by rw [hl3]; exact hl2, hm3, hu2.trans hu3 (fun _ _ h => h)⟩
      · have hk1 : ((k : Int) == 0) = false := by simp; omega
        have hk2 : (k == 0) = false := by simpa using hk0
        have HP1 := Lib.hid (put_lo H.out (q + 24) v (by omega) hl hv)
        rw [e3] at HP1
        clear e1 e2 e3
        go_wp2_with fail
        refine HP1.out.mono ?_
        rintro e w2 ⟨rfl, l2, hl2, hm2, hu2⟩
        go_wp2_with fail
        refine (HP2.out l2 w2 hl2 hm2).mono ?_
        rintro e w3 ⟨rfl, l3, hl3, hm3, hu3⟩
        go_wp2_with fail
        go_ret
        exact ⟨k, rfl, hk, l3, by rw [hl3]; exact hl2, hm3, hu2.trans hu3 (fun _ _ h => h)⟩
end Go.Proofs.Ytpkmdnfkeebgbaa

/- The plain words of entries, tables, arrays, datas. No program in sight; no condition. Printed by gen_glue.py. -/
namespace Go.Proofs.Ytpkmdnfkeebgbaa
open Go.ChangeShapes Go.WideShapes Go.ChangeAt Go.RowKit
set_option linter.unusedVariables false
set_option linter.unusedSimpArgs false

def tableF (k : Int) : Bool := decide (k = 4) || decide (k = 5)

theorem Rd.two {α : Type} (enc : α → Value) (e : TypeId) (w : World) (x y : α) : Rd enc (w.alloc (.cells #[enc x, enc y] e)) (some ⟨w.heap.size, 0, none⟩) 2 2 [x, y] :=
  (Own.lit (base := 0) (e := e) [x, y] #[enc x, enc y] 2 rfl rfl (Nat.zero_le _) (by unfold maxLen; omega)).rd
def flatN (ps : List PR) : List Int := ps.flatMap fun p => [p.1, p.2]
theorem flatN_length (ps : List PR) : (flatN ps).length = 2 * ps.length := by
  induction ps with
  | nil => rfl
  | cons p t ih => simp only [flatN, List.flatMap_cons, List.length_append, List.length_cons, List.length_nil] at ih ⊢; omega
theorem flatN_snoc (ps : List PR) (k : Nat) (p : PR) (h : ps[k]? = some p) : flatN (ps.take (k + 1)) = flatN (ps.take k) ++ [p.1, p.2] := by
  unfold flatN
  rw [List.take_add_one, h, List.flatMap_append]; rfl
theorem numsL_append (a b : List Int) : numsL (a ++ b) = numsL a ++ numsL b := List.flatMap_append
def putTabL (kind : Int) (ps : List PR) : List Int := if tableF kind = true then putO kind (numsL (flatN ps)) else []

def putArrL (next : Int) (vs : List Int) : List Int := putO 6 (numsL (next :: vs))
set_option linter.unusedSimpArgs false

/-- The cells of an entry. -/
def entV (s r m : Int) (B : List Int) (x : Int) (a : Option Addr) (n c : Nat) : Value := .agg ([Value.int .u64 s, Value.int .u64 r, Value.int .u64 m] ++ B.map (Value.int .u8) ++ [Value.int .u64 x, Value.slice a n c]).toArray
/-- The cells of an entry, as a list. -/
def entL (s r m : Int) (B : List Int) (x : Int) (a : Option Addr) (n c : Nat) : List Value := [Value.int .u64 s, Value.int .u64 r, Value.int .u64 m] ++ (B.map (Value.int .u8) ++ [Value.int .u64 x, Value.slice a n c])
theorem entV_eq (s r m : Int) (B : List Int) (x : Int) (a : Option Addr) (n c : Nat) : entV s r m B x a n c = .agg (entL s r m B x a n c).toArray := by unfold entV entL; rw [List.append_assoc]
theorem entL_length {s r m : Int} {B : List Int} {x : Int} {a : Option Addr} {n c : Nat} (hB : B.length = 16) : (entL s r m B x a n c).length = 21 := by simp [entL, hB]
theorem entL_size {s r m : Int} {B : List Int} {x : Int} {a : Option Addr} {n c : Nat} (hB : B.length = 16) : (entL s r m B x a n c).toArray.size = 21 := by simp [entL, hB]
theorem entL_one {s r m : Int} {B : List Int} {x : Int} {a : Option Addr} {n c : Nat} : (entL s r m B x a n c).toArray.all (·.oneCell') = true := by
  rw [Array.all_eq_true_iff_forall_mem]
  intro v hv
  simp only [entL, List.mem_toArray, List.mem_append, List.mem_cons, List.mem_map, List.not_mem_nil, or_false] at hv
  rcases hv with (rfl | rfl | rfl) | ⟨y, _, rfl⟩ | rfl | rfl <;> rfl
theorem entL_20 {s r m : Int} {B : List Int} {x : Int} {a : Option Addr} {n c : Nat} (hB : B.length = 16) : (entL s r m B x a n c).toArray[20]? = some (.slice a n c) := by
  simp only [entL, List.getElem?_toArray]
  rw [List.getElem?_append_right (by simp), List.getElem?_append_right (by simp [hB])]
  simp [hB]
theorem entL_19 {s r m : Int} {B : List Int} {x : Int} {a : Option Addr} {n c : Nat} (hB : B.length = 16) : (entL s r m B x a n c).toArray[19]? = some (.int .u64 x) := by
  simp only [entL, List.getElem?_toArray]
  rw [List.getElem?_append_right (by simp), List.getElem?_append_right (by simp [hB])]
  simp [hB]
theorem entL_boots {s r m : Int} {B : List Int} {x : Int} {a : Option Addr} {n c : Nat} (j : Nat) (v : Value) (h : (B.map (Value.int .u8))[j]? = some v) : (entL s r m B x a n c).toArray[3 + j]? = some v := by
  have hl : j < B.length := by have := (List.getElem?_eq_some_iff.1 h).1; simpa using this
  simp only [entL, List.getElem?_toArray]
  rw [List.getElem?_append_right (by simp), List.getElem?_append_left (by simp; omega), ← h]
  simp
set_option linter.unusedSimpArgs false

def entH (s r m : Int) (B : List Int) (x : Int) : List Int := numsL [s, r, m] ++ B ++ numsL [x]
def putEntL (s r m : Int) (B : List Int) (x : Int) (ps : List PR) : List Int := putO 3 (entH s r m B x ++ numsL (flatN ps))
theorem entH_length {s r m : Int} {B : List Int} {x : Int} (h : B.length = 16) : (entH s r m B x).length = 48 := by
  unfold entH; simp only [List.length_append, numsL_length, h, List.length_cons, List.length_nil]

/-- A number of eight bytes. -/
def U8 (v : Int) : Prop := 0 ≤ v ∧ v ≤ 18446744073709551615
theorem U8.nil : ∀ v ∈ ([] : List Int), U8 v := fun v h => by cases h
theorem U8.cons {x : Int} {l : List Int} (h : U8 x) (hl : ∀ v ∈ l, U8 v) : ∀ v ∈ x :: l, U8 v := fun v hv => by
  rcases List.mem_cons.1 hv with rfl | hv
  · exact h
  · exact hl v hv
/-- A slice literal of numbers. -/
theorem Rd.lit {α : Type} (enc : α → Value) (e : TypeId) (w : World) (l : List α) (cs : Array Value) (n : Nat) (hcs : cs = (l.map enc).toArray) (hn : l.length = n) (hm : n ≤ maxLen) : Rd enc (w.alloc (.cells cs e)) (some ⟨w.heap.size, 0, none⟩) n n l :=
  (Own.lit (base := w.heap.size) l cs n hcs hn (Nat.le_refl _) hm).rd
end Go.Proofs.Ytpkmdnfkeebgbaa
