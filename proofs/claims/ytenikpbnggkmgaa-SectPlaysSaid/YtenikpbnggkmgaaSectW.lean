/- What New, Len, Write of sect.File compute. Conditions stand as premises. -/
import Derived.Test.YtenikpbnggkmgaaSectI
import Derived.Test.YtenikpbnggkmgaaZerosAt
import Derived.Deep.Cut
import Derived.Outline
namespace Go.Proofs.Ytenikpbnggkmgaa
open Go.ChangeShapes Go.WideShapes Go.ChangeAt Go.RowKit
set_option linter.unusedVariables false

theorem FileS.new {w : World} {base p : Nat} {T : TypeId} (hb : base ≤ p) (h : w.heap[p]? = some (.cells #[.slice none 0 0, .slice none 0 0] T)) : FileS w base p [] [] (· = p) := by
  refine ⟨none, 0, 0, none, 0, 0, ⟨hb, lt_of_heap h, cell_of_heap h 0 _ rfl, cell_of_heap h 1 _ rfl, free_of_heap h _, free_of_heap h _, ⟨IsB.nil, Own.nil _ _ _ _⟩, ⟨IsB.nil, Own.nil _ _ _ _⟩, by simp [blk], by simp, by simp⟩, fun j => by simp [blk]⟩

theorem sectnew (w : World) : Calls Try.prog 8 #[] w fun e w' => e = .returned (.pointer (some ⟨w.heap.size, 0, none⟩)) ∧ FileS w' w.heap.size w.heap.size [] [] (· = w.heap.size) ∧ Below w.heap.size w w' := by
  go_enter Try.func8, Try.ntmps8
  go_wp2
  go_ret
  exact ⟨rfl, FileS.new (Nat.le_refl _) (heap_alloc_new w _), below_alloc _ _⟩

theorem sectlen (base p : Nat) (b s : List Int) (F : Nat → Prop) (w : World) (h : FileS w base p b s F) :
    Calls Try.prog 11 #[.pointer (some ⟨p, 0, none⟩)] w fun e w' => e = .returned (.int .i64 b.length) ∧ w = w' := by
  obtain ⟨a, n, c, a', n', c', h1, h2⟩ := h
  have hc := h1.c0
  obtain rfl : b.length = n := h1.x.len
  clear h1 h2
  go_enter Try.func11, Try.ntmps11
  go_wp2
  go_ret
  exact ⟨rfl, rfl⟩

theorem sectwrite_no (v : Value) (p : Int) (a : Option Addr) (n c : Nat) (w : World) (hp : -9223372036854775808 ≤ p ∧ p ≤ 9223372036854775807) (hn : n ≤ 140737488351232) (h : writeC p n ≠ 0) :
    Calls Try.prog 10 #[v, .int .i64 p, .slice a n c] w fun e w' => e = .returned (.int .i64 (writeC p n)) ∧ w = w' := by
  unfold writeC at h ⊢
  by_cases h1 : p < 0
  · rw [if_pos h1]
    clear h
    go_enter Try.func10, Try.ntmps10
    go_wp2
    go_ret
    exact ⟨rfl, rfl⟩
  · rw [if_neg h1] at h ⊢
    by_cases h2 : 32768 < p
    · rw [if_pos (.inl h2)]
      have h1' : 0 ≤ p := by omega
      clear h h1
      go_enter Try.func10, Try.ntmps10
      go_wp2
      go_ret
      exact ⟨rfl, rfl⟩
    · by_cases h3 : 32768 - p < n
      · rw [if_pos (.inr h3)]
        have h1' : 0 ≤ p := by omega
        have h2' : p ≤ 32768 := by omega
        clear h h1 h2
        go_enter Try.func10, Try.ntmps10
        go_wp2
        go_ret
        exact ⟨rfl, rfl⟩
      · rw [if_neg (by omega)] at h
        exact absurd rfl h

theorem sectwrite_nil (v : Value) (p : Int) (a : Option Addr) (c : Nat) (w : World) (h1 : 0 ≤ p) (h2 : p ≤ 32768) :
    Calls Try.prog 10 #[v, .int .i64 p, .slice a 0 c] w fun e w' => e = .returned (.int .i64 0) ∧ w = w' := by
  have h3 : 0 ≤ 32768 - p := by omega
  go_enter Try.func10, Try.ntmps10
  go_wp2
  go_ret
  exact ⟨rfl, rfl⟩

set_option maxHeartbeats 4000000 in
theorem sectwrite_yes (base p q : Nat) (af : Option Addr) (nf cf : Nat) (bf : List Int) (a2 : Option Addr) (ns cs : Nat) (sf : List Int) (a : Option Addr) (n c : Nat) (l : List Int) (w : World)
    (h : FileAt w base p af nf cf bf a2 ns cs sf) (hr : RdB w a n c l) (hd : ∀ x, a = some x → x.block ∉ p :: (blk af ++ blk a2)) (h1 : q + n ≤ 32768) (h0 : 0 < n) :
    Calls Try.prog 10 #[.pointer (some ⟨p, 0, none⟩), .int .i64 q, .slice a n c] w fun e w' => e = .returned (.int .i64 0) ∧
      ∃ a1 n1 c1, FileAt w' base p a1 n1 c1 (putIn bf q l) a2 ns cs sf ∧ Upd (· ∈ p :: (blk af ++ blk a2)) w w' ∧ ∀ j ∈ p :: (blk a1 ++ blk a2), j ∈ p :: (blk af ++ blk a2) ∨ w.heap.size ≤ j := by
  have hcap := hr.2.2.1
  have hc0 := h.c0
  have hf0 := h.f0
  have hlt := h.lt
  have hle := h.le
  have hbl := h.x.len
  have hlb := h.lb
  have hrl := hr.len
  have t1 : (q : Int) ≤ 32768 := by omega
  have t2 : (n : Int) ≤ 32768 - (q : Int) := by omega
  have t3 : ((n : Int) == 0) = false := by rw [beq_eq_false_iff_ne]; omega
  have hxcap := h.x.2.rd.2.1
  have hxcap2 := h.x.2.rd.2.2.1
  unfold maxLen at hxcap2
  by_cases hg : nf < q + n
  · obtain ⟨m, hm⟩ : ∃ m : Nat, q + n = nf + m := ⟨q + n - nf, by omega⟩
    have t4 : 0 < (q : Int) + (n : Int) - (nf : Int) := by omega
    have HM := Lib.hid (show (q : Int) + (n : Int) - (nf : Int) = (m : Int) by omega)
    have HPn := Lib.hid hm
    have h1' : nf + m ≤ 32768 := by omega
    have hqn : q + n ≤ nf + m := by omega
    have hm0 : 0 < m := by omega
    have HBL := Lib.hid hbl
    have HRL := Lib.hid hrl
    have H := Lib.hid h
    have HR := Lib.hid hr
    have HD := Lib.hid hd
    have hown := h.x.2
    have HP := Lib.hid (nd_parts h.nd).1
    clear hbl hrl h hr hd hm
    go_enter Try.func10, Try.ntmps10
    go_upto_region 10 with (at_builtin; go_must (refine wpList_appZerosAt (0 : Int) rfl rfl Try.underlying3 Try.oneB Try.zeroB rfl rfl rfl rfl HM.out hown (by omega) (by omega) (by omega) ?_); intro a1 c1 w1 ho1 hu1 hk1; have q0 := ucell hu1 HP.out hc0; have q1 := ufree hu1 hlt HP.out hf0)
    obtain ⟨g, rfl, hg1, hg2⟩ := ho1.at (by omega)
    have hT := H.out.turn0 hu1 ⟨H.out.x.1.append (IsB.replicate _), ho1⟩ hk1 (by rw [List.length_append, List.length_replicate]; have := HBL.out; omega)
    have hT1 := Lib.hid hT
    have hr2 := (HR.out.upd hT.2.1 HD.out).2
    have hown2 := hT.1.x.2
    have hcap1 := ho1.rd.2.1
    have hc2 := hT.1.c0
    clear hT ho1 hu1 hk1 q0 q1 hown
    generalize w1.setCell ⟨p, 0, none⟩ (.slice (some ⟨g, 0, none⟩) (nf + m) c1) = w2 at *
    go_wp2_with (first | (with_reducible refine wpList_cutAt rfl rfl Try.oneB rfl rfl (by omega) (by omega) (by omega) ?_) | (with_reducible refine wpList_copyAt rfl rfl Try.oneB rfl rfl hown2 hr2 (by omega) (by omega) (fun _ => rfl) ?_; intro w3 ho3 hu3))
    go_ret
    have hpad : bf ++ List.replicate m 0 = padTo bf (q + l.length) := by unfold padTo; rw [HBL.out, HRL.out]; congr 2; have := HPn.out; omega
    obtain ⟨hA, hU, hK⟩ := hT1.out
    have hlen : (putIn bf q l).length ≤ 32768 := by rw [putIn_len]; have := HBL.out; have := HRL.out; omega
    have hI : OwnB 5 w3 base (some ⟨g, 0, none⟩) (nf + m) c1 (putIn bf q l) := ⟨putIn_isB H.out.x.1 HR.out.1 _, by rw [hpad] at ho3; exact ho3⟩
    exact ⟨rfl, _, _, _, hA.inPlace (hu3.mono (fun k _ hk => by rw [hk]; exact List.mem_singleton.2 rfl)) hI hlen, hU.trans hu3 (fun j hj hg => by
      rcases hK j (by rw [hg]; exact List.mem_cons_of_mem _ (List.mem_append_left _ (List.mem_singleton.2 rfl))) with h' | h'
      · exact h'
      · omega), hK⟩
  · obtain ⟨g, rfl, hg1, hg2⟩ := h.x.2.at (show 0 < nf by omega)
    have t4 : (q : Int) + (n : Int) - (nf : Int) ≤ 0 := by omega
    have HBL := Lib.hid hbl
    have HRL := Lib.hid hrl
    have H := Lib.hid h
    have HR := Lib.hid hr
    have hr2 := hr.2
    have hown2 := h.x.2
    have hgq : q + n ≤ nf := by omega
    clear hbl hrl h hr hd hg
    go_enter Try.func10, Try.ntmps10
    go_wp2_with (first | (with_reducible refine wpList_cutAt rfl rfl Try.oneB rfl rfl (by omega) (by omega) (by omega) ?_) | (with_reducible refine wpList_copyAt rfl rfl Try.oneB rfl rfl hown2 hr2 (by omega) (by omega) (fun _ => rfl) ?_; intro w3 ho3 hu3))
    go_ret
    have hpad : bf = padTo bf (q + l.length) := by rw [padTo_ge]; rw [HBL.out, HRL.out]; omega
    have hlen : (putIn bf q l).length ≤ 32768 := by rw [putIn_len]; have := HBL.out; have := HRL.out; omega
    have hI : OwnB 5 w3 base (some ⟨g, 0, none⟩) nf cf (putIn bf q l) := ⟨putIn_isB H.out.x.1 HR.out.1 _, by rw [hpad] at ho3; exact ho3⟩
    exact ⟨rfl, _, _, _, H.out.inPlace (hu3.mono (fun k _ hk => by rw [hk]; exact List.mem_singleton.2 rfl)) hI hlen, hu3.mono (fun k _ hk => by rw [hk]; exact List.mem_cons_of_mem _ (List.mem_append_left _ (List.mem_singleton.2 rfl))), fun j hj => .inl hj⟩

theorem sectwrite_any (base p : Nat) (b s : List Int) (F : Nat → Prop) (q : Int) (a : Option Addr) (n c : Nat) (l : List Int) (w : World) (h : FileS w base p b s F) (hr : RdB w a n c l) (hd : 0 < n → ∀ x, a = some x → ¬ F x.block)
    (hq : -9223372036854775808 ≤ q ∧ q ≤ 9223372036854775807) (hn : n ≤ 140737488351232) :
    Calls Try.prog 10 #[.pointer (some ⟨p, 0, none⟩), .int .i64 q, .slice a n c] w fun e w' => e = .returned (.int .i64 (writeC q l.length)) ∧ FileStep w base p F (writeL b q l) s w' := by
  obtain rfl : l.length = n := hr.len
  by_cases h0 : writeC q l.length = 0
  · have h1 := writeC_ok h0
    obtain ⟨k, rfl⟩ : ∃ k : Nat, q = k := ⟨q.toNat, by omega⟩
    rw [h0]
    by_cases hl : l = []
    · subst hl
      refine (sectwrite_nil _ _ a c w h1.1 (by omega)).mono ?_
      rintro e w' ⟨rfl, rfl⟩
      refine ⟨rfl, ?_⟩
      unfold writeL
      rw [if_neg (by simp)]
      exact FileStep.refl h
    · have hpos : 0 < l.length := List.length_pos_iff.2 hl
      obtain ⟨af, nf, cf, a2, ns, cs, hA, hF⟩ := h
      refine (sectwrite_yes base p k af nf cf b a2 ns cs s a _ c l w hA hr (fun x hx hm => hd hpos x hx ((hF _).2 hm)) (by omega) hpos).mono ?_
      rintro e w' ⟨rfl, a1, n1, c1, g1, g2, g3⟩
      refine ⟨rfl, _, ⟨a1, n1, c1, a2, ns, cs, ?_, fun j => Iff.rfl⟩, g2.mono (fun k _ hk => (hF _).2 hk), fun j hj => (g3 j hj).imp (hF j).2 id⟩
      unfold writeL
      rw [if_pos ⟨h0, hl⟩, Int.toNat_natCast]
      exact g1
  · refine (sectwrite_no _ q a _ c w hq hn h0).mono ?_
    rintro e w' ⟨rfl, rfl⟩
    refine ⟨rfl, ?_⟩
    unfold writeL
    rw [if_neg (fun hh => h0 hh.1)]
    exact FileStep.refl h
end Go.Proofs.Ytenikpbnggkmgaa
