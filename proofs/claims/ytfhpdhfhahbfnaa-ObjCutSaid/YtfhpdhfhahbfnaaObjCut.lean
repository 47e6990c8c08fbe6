/- The walk of ObjCut. Conditions stand as premises. -/
import Derived.Test.YtfhpdhfhahbfnaaObjHdr
import Derived.Test.YtfhpdhfhahbfnaaObjF
import Derived.Test.YtfhpdhfhahbfnaaNum
import Derived.Test.YtfhpdhfhahbfnaaBytes
namespace Go.Proofs.Ytfhpdhfhahbfnaa
open Go.ChangeShapes Go.WideShapes Go.ChangeAt Go.RowKit
set_option linter.unusedVariables false

theorem IsB.set {l : List Int} (h : IsB l) (i : Nat) (x : Int) (hx : 0 ≤ x ∧ x ≤ 255) : IsB (l.set i x) := fun y hy => by
  rcases List.mem_or_eq_of_mem_set hy with h1 | h1
  · exact h y h1
  · rw [h1]; exact hx

theorem OwnB.mk2 {e : TypeId} {w : World} {base : Nat} {a : Option Addr} {n c : Nat} {l : List Int} (h : Own (Value.int .u8) e w base a n c l) (hb : IsB l) : OwnB e w base a n c l := ⟨hb, h⟩

theorem Own.far {e : TypeId} {w : World} {base g n c : Nat} {l : List Int} (h : Own (Value.int .u8) e w base (some ⟨g, 0, none⟩) n c l) {S j : Nat} {v : Value} (hne : g ≠ S) : Own (Value.int .u8) e (w.setCell ⟨S, j, none⟩ v) base (some ⟨g, 0, none⟩) n c l :=
  h.grown (grown_setCell w S j v) (by rintro x hx hh; cases hx; cases hh; exact hne rfl)

/-- Read's answer, its frame under names. -/
theorem read_ex (p : Int) (a : Option Addr) (n c : Nat) (l : List Int) (w : World) (hr : RdB w a n c l) (hn : n ≤ 140737488351232) (h0 : 0 ≤ p) (h1 : p ≤ 18446744073709551615) :
    Calls Try.prog 17 #[.slice a n c, .int .u64 p] w fun e w' => ∃ k s, e = .returned (.tuple #[.agg #[.int .i64 k, .int .i64 0, .int .u64 s], .int .i64 (readC l p)]) ∧ Below w.heap.size w w' := by
  refine (objread_any p a n c l w hr hn h0 h1).mono fun e w' h => ?_
  obtain ⟨rfl, hb⟩ := h
  by_cases q : readC l p = 0
  · rw [readV, if_pos q]; exact ⟨_, _, rfl, hb⟩
  · rw [readV_no q]; exact ⟨_, _, rfl, hb⟩

set_option maxRecDepth 100000 in
set_option maxHeartbeats 4000000 in
theorem objcut_law (cut off kind flags : Int) (a : Option Addr) (n c : Nat) (l : List Int) (w : World) (hr : RdB w a n c l) (hf : 0 ≤ flags ∧ flags ≤ 255) :
    Calls Try.prog 5 #[.slice a n c, .int .i64 cut, .int .i64 off, .int .i64 kind, .int .u8 flags] w fun e w' => e = .returned (.bool true) ∧ Below w.heap.size w w' := by
  obtain rfl : l.length = n := hr.len
  have Hr := Lib.hid hr
  clear hr
  go_enter Try.func5, Try.ntmps5
  go_wp2_with fail
  refine (ofirst_any _).mono ?_
  rintro e w1 ⟨rfl, hB1⟩
  by_cases h200 : (200 : Int) < (l.length : Int)
  · go_wp2_with fail
    go_ret
    exact ⟨rfl, hB1⟩
  have q1 : (l.length : Int) ≤ 200 := by omega
  clear h200
  go_wp2_with fail
  refine (put_obj a l.length c 3 l w1 (Hr.out.mono hB1) (by omega)).mono ?_
  rintro e w2 ⟨a2, c2, rfl, ho2, hb2⟩
  rw [show putO 3 l = objL 3 l from if_pos (by decide), objL_hdr] at ho2 ⊢
  rw [hdr_length] at ho2 ⊢
  have hB2 := hB1.trans (hb2.mono hB1.size)
  have hP : (l ++ List.replicate ((8 - l.length % 8) % 8) 0).length = l.length + (8 - l.length % 8) % 8 := by simp
  have hP8 : (8 - l.length % 8) % 8 < 8 := Nat.mod_lt _ (by decide)
  have hPB : IsB (l ++ List.replicate ((8 - l.length % 8) % 8) 0) := Hr.out.1.append (IsB.replicate _)
  generalize l ++ List.replicate ((8 - l.length % 8) % 8) 0 = R at *
  generalize (8 - l.length % 8) % 8 = P at *
  generalize hS : (16 : Int) + (l.length : Int) = S at *
  have hSb : 0 ≤ S ∧ S ≤ 255 := by omega
  have hS64 : 0 ≤ S ∧ S ≤ 18446744073709551615 := by omega
  have hRl : (S : Int) ≤ 16 + (R.length : Int) := by omega
  have hRn : 16 + R.length ≤ 1000 := by omega
  have hSp : 1 ≤ S := by omega
  have hg1 : ¬ ((16 : Int) + (R.length : Int) < S) := by omega
  obtain ⟨N, hN⟩ : ∃ N, 16 + R.length = N := ⟨_, rfl⟩
  rw [hN] at ho2 ⊢
  have hNn : N ≤ 1000 := by omega
  have hSN : S ≤ (N : Int) := by omega
  have hN16 : 16 ≤ N := by omega
  have hgg : ¬ ((N : Int) < S) := by omega
  have HN := Lib.hid hN
  have HP := Lib.hid hP
  have HSl := Lib.hid hS
  clear hb2 hB1 hP hN hP8 hg1 hRn
  obtain ⟨q, hq, hqlt⟩ := mod_nat cut S hSp
  obtain ⟨m, hm, hm0, hm7⟩ := mod_int off 7 (by decide)
  obtain ⟨k1, hk1, hk10, hk200⟩ := mod_int kind 200 (by decide)
  obtain ⟨k2, hk2, hk20, hk16⟩ := mod_int kind 16 (by decide)
  have hS4 : S ≤ 4000000000000000000 := by omega
  have hBB : IsB (hdr 3 0 S R) := ho2.1
  have hq0 : (0 : Int) ≤ (q : Int) := by omega
  have hqN : (q : Int) ≤ (N : Int) := by omega
  go_wp2_with fail
  refine (number_nat cut S q hq hSp hS4 _).mono ?_
  rintro e w' ⟨rfl, rfl⟩
  have hr2 := ho2.rd
  have HO2 := Lib.hid ho2
  clear ho2
  go_wp2_with (with_reducible refine wpList_cutH rfl rfl Try.oneB rfl rfl hr2.raw hq0 hqN ?_; intro a3 hr3 hs3)
  rw [Int.toNat_natCast] at hr3
  refine (read_ex 0 a3 q c2 _ w2 ⟨hBB.take q, hr3⟩ (by omega) (by decide) (by decide)).mono ?_
  rintro e w3 ⟨k3, s3, rfl, hb3⟩
  rw [readC_cut 3 S R q (by decide) hS64 hqlt hRl]
  have hB3 := hB2.trans (hb3.mono hB2.size)
  have hr4 := hr2.mono hb3
  have hbx := (below_alloc w3 (.cells #[.int .i64 k3, .int .i64 0, .int .u64 s3] 42))
  have hr4 := hr4.mono hbx
  have hB4 := hB3.trans (hbx.mono hB3.size)
  clear hr2 hr3 hs3 hb3 hbx hB3 HO2
  go_wp2_with fail
  generalize (w3.alloc (.cells #[.int .i64 k3, .int .i64 0, .int .u64 s3] 42)) = w4 at *
  refine (number_int off 7 m hm (by decide) (by decide) _).mono ?_
  rintro e w' ⟨rfl, rfl⟩
  go_wp2_with fail
  refine (read_ex (1 + m) a2 N c2 _ w4 hr4 (by omega) (by omega) (by omega)).mono ?_
  rintro e w5 ⟨k5, s5, rfl, hb5⟩
  rw [readC_align (show ((1 + m) % 8 != 0) = true by rw [bne_iff_ne]; omega)]
  have hB5 := hB4.trans (hb5.mono hB4.size)
  have hr5 := hr4.mono hb5
  have hbx := (below_alloc w5 (.cells #[.int .i64 k5, .int .i64 0, .int .u64 s5] 42))
  have hr6 := hr5.mono hbx
  have hB6 := hB5.trans (hbx.mono hB5.size)
  clear hr5 hr4 hb5 hbx hB5 hB4
  go_wp2_with fail
  generalize (w5.alloc (.cells #[.int .i64 k5, .int .i64 0, .int .u64 s5] 42)) = w6 at *
  refine (bytes_any a2 N c2 _ w6 hr6 (by omega)).mono ?_
  rintro e w7 ⟨a7, c7, rfl, ho7, hb7⟩
  have hlen : (hdr 3 0 S R).length = N := by rw [hdr_length]; exact HN.out
  rw [hlen] at ho7 ⊢
  obtain ⟨g7, rfl, hg7, hl7⟩ := ho7.2.at (by omega)
  have hr7 := hr6.mono hb7
  have hB7 := hB6.trans (hb7.mono hB6.size)
  go_wp2_with fail
  refine (bytes_any a2 N c2 _ w7 hr7 (by omega)).mono ?_
  rintro e w8 ⟨a8, c8, rfl, ho8, hb8⟩
  rw [hlen] at ho8 ⊢
  obtain ⟨g8, rfl, hg8, hl8⟩ := ho8.2.at (by omega)
  have hr8 := hr7.mono hb8
  have ho7 := ho7.mono hb8
  have hB8 := hB7.trans (hb8.mono hB7.size)
  go_wp2_with fail
  refine (bytes_any a2 N c2 _ w8 hr8 (by omega)).mono ?_
  rintro e w9 ⟨a9, c9, rfl, ho9, hb9⟩
  rw [hlen] at ho9 ⊢
  have ho7 := ho7.mono hb9
  have ho8 := ho8.mono hb9
  have hB9 := hB8.trans (hb9.mono hB8.size)
  obtain ⟨g9, rfl, hg9, hl9⟩ := ho9.2.at (by omega)
  have z6 := hB6.size
  have z7 := hb7.size
  have z8 := hb8.size
  have z9 := hb9.size
  clear hr6 hr7 hr8 hb7 hb8 hb9 hB7 hB8
  have n78 : g7 ≠ g8 := by omega
  have n79 : g7 ≠ g9 := by omega
  have n89 : g8 ≠ g9 := by omega
  have k8a : 0 ≤ 8 + k1 ∧ 8 + k1 ≤ 255 := by omega
  have hwk : IntKind.u8.wrap (8 + k1) = 8 + k1 := by rw [IntKind.wrap_u8]; omega
  have hwk2 : IntKind.u8.wrap k2 = k2 := by rw [IntKind.wrap_u8]; omega
  have n87 := n78.symm
  have n97 := n79.symm
  have n98 := n89.symm
  have x0 : w9.cell? ⟨g7, 0, none⟩ = some (.int .u8 3) := ho7.2.cell 0 3 rfl
  have y0 : w9.frozen? ⟨g7, 0, none⟩ = false := ho7.2.free 0
  have x1 : w9.cell? ⟨g8, 1, none⟩ = some (.int .u8 0) := ho8.2.cell 1 0 rfl
  have y1 : w9.frozen? ⟨g8, 1, none⟩ = false := ho8.2.free 1
  have x2 : w9.cell? ⟨g9, 8, none⟩ = some (.int .u8 S) := ho9.2.cell 8 S (by unfold hdr; rw [digs_small S hSb]; rfl)
  have y2 : w9.frozen? ⟨g9, 8, none⟩ = false := ho9.2.free 8
  have x3 : w9.cell? ⟨g9, 9, none⟩ = some (.int .u8 0) := ho9.2.cell 9 0 (by unfold hdr; rw [digs_small S hSb]; rfl)
  have y3 : w9.frozen? ⟨g9, 9, none⟩ = false := ho9.2.free 9
  have hb0 : w.heap.size ≤ g7 := by omega
  have hb1 : w.heap.size ≤ g8 := by omega
  have hb2 : w.heap.size ≤ g9 := by omega
  have i0 : (0 : Int) < (N : Int) := by omega
  have i1 : (1 : Int) < (N : Int) := by omega
  have i8 : (8 : Int) < (N : Int) := by omega
  have i9 : (9 : Int) < (N : Int) := by omega
  have HO7 := Lib.hid ho7
  have HO8 := Lib.hid ho8
  have HO9 := Lib.hid ho9
  clear ho7 ho8 ho9 z6 z7 z8 z9 hg7 hg8 hg9 hl7 hl8 hl9
  go_wp2_with fail
  refine (number_int kind 200 k1 hk1 (by decide) (by decide) _).mono ?_
  rintro e w' ⟨rfl, rfl⟩
  go_wp2_with fail
  refine (number_int kind 16 k2 hk2 (by decide) (by decide) _).mono ?_
  rintro e w' ⟨rfl, rfl⟩
  go_wp2_with fail
  have k7 : RdB _ (some ⟨g7, 0, none⟩) N c7 _ := ⟨HO7.out.1.set 0 (8 + k1) k8a, ((((HO7.out.2.set 0 (8 + k1)).far (v := .int .u8 flags) (j := 1) n78).far (v := .int .u8 k2) (j := 8) n79).far (v := .int .u8 0) (j := 9) n79).rd⟩
  have k8 : RdB _ (some ⟨g8, 0, none⟩) N c8 _ := ⟨HO8.out.1.set 1 flags hf, ((((HO8.out.2.far (v := .int .u8 (8 + k1)) (j := 0) n87).set 1 flags).far (v := .int .u8 k2) (j := 8) n89).far (v := .int .u8 0) (j := 9) n89).rd⟩
  have k9 : RdB _ (some ⟨g9, 0, none⟩) N c9 _ := ⟨(HO9.out.1.set 8 k2 (by omega)).set 9 0 (by omega), ((((HO9.out.2.far (v := .int .u8 (8 + k1)) (j := 0) n97).far (v := .int .u8 flags) (j := 1) n98).set 8 k2).set 9 0).rd⟩
  have hBB := (((hB9.setCell (p := ⟨g7, 0, none⟩) hb0 (.int .u8 (8 + k1))).setCell (p := ⟨g8, 1, none⟩) hb1 (.int .u8 flags)).setCell (p := ⟨g9, 8, none⟩) hb2 (.int .u8 k2)).setCell (p := ⟨g9, 9, none⟩) hb2 (.int .u8 0)
  rw [hdr_set0] at k7
  rw [hdr_set1] at k8
  rw [hdr_set8 _ _ _ _ _ hSb (by omega)] at k9
  clear x0 y0 x1 y1 x2 y2 x3 y3
  generalize (((w9.setCell ⟨g7, 0, none⟩ (.int .u8 (8 + k1))).setCell ⟨g8, 1, none⟩ (.int .u8 flags)).setCell ⟨g9, 8, none⟩ (.int .u8 k2)).setCell ⟨g9, 9, none⟩ (.int .u8 0) = X at *
  have r7 : readC (hdr (8 + k1) 0 S R) 0 = 4 := by rw [readC_hdr _ _ _ _ hS64, if_pos (.inr (by omega))]
  have r8 : readC (hdr 3 flags S R) 0 = if flags ≠ 0 then 7 else 0 := by rw [readC_hdr _ _ _ _ hS64, if_neg (by omega), if_neg (show ¬ S < 16 by have := HSl.out; omega), if_neg (show ¬ ((16 : Int) + (R.length : Int) < S) by omega)]
  have r9 : readC (hdr 3 0 k2 R) 0 = 5 := by rw [readC_hdr _ _ _ _ (by omega), if_neg (by omega), if_neg (by simp), if_pos (by omega)]
  refine (read_ex 0 (some ⟨g7, 0, none⟩) N c7 _ X k7 (by omega) (by decide) (by decide)).mono ?_
  rintro e y7 ⟨kk7, ss7, rfl, hb⟩
  rw [r7]
  have hBB := hBB.trans (hb.mono hBB.size)
  have hbx := (below_alloc y7 (.cells #[.int .i64 kk7, .int .i64 0, .int .u64 ss7] 42))
  have k8 := (k8.mono hb).mono hbx
  have k9 := (k9.mono hb).mono hbx
  have hBB := hBB.trans (hbx.mono hBB.size)
  clear hb hbx
  go_wp2_with fail
  generalize (y7.alloc (.cells #[.int .i64 kk7, .int .i64 0, .int .u64 ss7] 42)) = y7a at *
  generalize hcd : readC (hdr 3 flags S R) 0 = D at *
  have R8 := Lib.hid r8
  clear r8
  refine (read_ex 0 (some ⟨g8, 0, none⟩) N c8 _ y7a k8 (by omega) (by decide) (by decide)).mono ?_
  rintro e y8 ⟨kk8, ss8, rfl, hb⟩
  rw [hcd]
  have hBB := hBB.trans (hb.mono hBB.size)
  have hbx := (below_alloc y8 (.cells #[.int .i64 kk8, .int .i64 0, .int .u64 ss8] 42))
  have k9 := (k9.mono hb).mono hbx
  have hBB := hBB.trans (hbx.mono hBB.size)
  clear hb hbx
  go_wp2_with fail
  generalize (y8.alloc (.cells #[.int .i64 kk8, .int .i64 0, .int .u64 ss8] 42)) = y8a at *
  refine (read_ex 0 (some ⟨g9, 0, none⟩) N c9 _ y8a k9 (by omega) (by decide) (by decide)).mono ?_
  rintro e y9 ⟨kk9, ss9, rfl, hb⟩
  rw [r9]
  have hBB := hBB.trans (hb.mono hBB.size)
  have hbx := (below_alloc y9 (.cells #[.int .i64 kk9, .int .i64 0, .int .u64 ss9] 42))
  have hBB := hBB.trans (hbx.mono hBB.size)
  clear hb hbx
  have r8 := R8.out
  clear R8
  by_cases qf : flags = 0
  · subst qf
    rw [if_neg (by simp)] at r8
    subst r8
    go_wp2_with fail
    go_ret
    exact ⟨rfl, hBB⟩
  · rw [if_pos qf] at r8
    subst r8
    have qf2 : (flags != 0) = true := by simpa using qf
    go_wp2_with fail
    go_ret
    exact ⟨rfl, hBB⟩
end Go.Proofs.Ytfhpdhfhahbfnaa
