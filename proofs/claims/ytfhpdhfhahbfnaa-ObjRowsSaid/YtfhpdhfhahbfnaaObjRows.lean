/- The walk of ObjRows. Conditions stand as premises. -/
import Derived.Test.YtfhpdhfhahbfnaaObjRowsN
import Derived.Test.YtfhpdhfhahbfnaaObjSame
import Derived.Test.YtfhpdhfhahbfnaaObjF
import Derived.Test.YtfhpdhfhahbfnaaNum
namespace Go.Proofs.Ytfhpdhfhahbfnaa
open Go.ChangeShapes Go.WideShapes Go.ChangeAt Go.RowKit
set_option linter.unusedVariables false

def kindOf (k : Int) : Int := 1 + k % 7

theorem readRow_any (p : Int) (a : Option Addr) (n c : Nat) (l : List Int) (k s C : Int) (w : World) (hr : RdB w a n c l) (hn : n ≤ 140737488351232) (h0 : 0 ≤ p) (h1 : p ≤ 18446744073709551615) (hC : readC l p = C) (hV : readV l p = frameV k s) :
    Calls Try.prog 17 #[.slice a n c, .int .u64 p] w fun e w' => e = .returned (.tuple #[.agg #[.int .i64 k, .int .i64 0, .int .u64 s], .int .i64 C]) ∧ Below w.heap.size w w' := by
  have := objread_any p a n c l w hr hn h0 h1
  rw [hC, hV] at this
  exact this

set_option maxRecDepth 100000 in
set_option maxHeartbeats 4000000 in
theorem objrows_law (a : Option Addr) (n c : Nat) (ks : List Int) (a' : Option Addr) (n' c' : Nat) (bs : List (List Int)) (w : World) (hk : Rd (Value.int .i64) w a n c ks) (hb : RdBB w a' n' c' bs) :
    Calls Try.prog 4 #[.slice a n c, .slice a' n' c'] w fun e w' => e = .returned (.bool true) ∧ Below w.heap.size w w' := by
  obtain rfl : ks.length = n := hk.1
  obtain rfl : bs.length = n' := hb.len
  have Hk := Lib.hid hk
  have Hb := Lib.hid hb
  clear hk hb
  by_cases h20 : (20 : Int) < (bs.length : Int)
  · skip
    go_enter Try.func4, Try.ntmps4
    go_wp2_with fail
    refine (ofirst_any _).mono ?_
    rintro e w1 ⟨rfl, hB1⟩
    go_wp2_with fail
    go_ret
    exact ⟨rfl, hB1⟩
  have q1 : (bs.length : Int) ≤ 20 := by omega
  clear h20
  by_cases hlk : (ks.length : Int) < (bs.length : Int)
  · skip
    go_enter Try.func4, Try.ntmps4
    go_wp2_with fail
    refine (ofirst_any _).mono ?_
    rintro e w1 ⟨rfl, hB1⟩
    go_wp2_with fail
    go_ret
    exact ⟨rfl, hB1⟩
  have q2 : (bs.length : Int) ≤ (ks.length : Int) := by omega
  clear hlk
  have hd1 : decide ((20 : Int) < (bs.length : Int)) = false := by simp; omega
  have hd3 : decide (ks.length < bs.length) = false := by simp; omega
  have hd2 : decide ((ks.length : Int) < (bs.length : Int)) = false := by simp; omega
  go_enter Try.func4, Try.ntmps4
  go_wp2_with fail
  refine (ofirst_any _).mono ?_
  rintro e w1 ⟨rfl, hB1⟩
  have HB1 := Lib.hid hB1
  obtain ⟨Ks, hKs⟩ : ∃ Ks, ks.map kindOf = Ks := ⟨_, rfl⟩
  have hKl : Ks.length = ks.length := by rw [← hKs, List.length_map]
  have hK7 : ∀ k ∈ Ks, 1 ≤ k ∧ k ≤ 7 := fun k hk => by rw [← hKs] at hk; obtain ⟨x, _, rfl⟩ := List.mem_map.1 hk; unfold kindOf; omega
  have hKg : ∀ j, j < bs.length → Ks[j]?.getD 0 = kindOf (ks[j]?.getD 0) := fun j hj => by rw [← hKs]; simp [show j < ks.length by omega]
  have HKl := Lib.hid hKl
  have HK7 := Lib.hid hK7
  have HKg := Lib.hid hKg
  clear hKs hKl hK7 hKg hB1
  go_wp2_with fail
  go_loopw [6, 7] (fun s i wr => ∃ (j : Nat) (a2 : Option Addr) (n2 c2 : Nat), j ≤ bs.length ∧ i = .int .i64 j ∧ s = .slice a2 n2 c2 ∧ OwnB 5 wr w1.heap.size a2 n2 c2 (rowL (Ks.take j) (bs.take j)) ∧ Below w1.heap.size w1 wr ∧ ∀ b ∈ bs.take j, b.length ≤ 60) (fun _ i _ => bs.length - (intOf i).toNat)
  case atStart => exact ⟨0, none, 0, 0, Nat.zero_le _, rfl, rfl, ⟨IsB.nil, Own.nil _ _ _ _⟩, Below.refl _ _, fun b hb => by cases hb⟩
  case round =>
    obtain ⟨j, a2, n2, c2, hj, rfl, rfl, ho, hB, h60⟩ := hrel
    have hsz := hB.size
    have hWB := HB1.out.trans (hB.mono HB1.out.size)
    by_cases hlt : j < bs.length
    · have hbB := Hb.out.mono hWB
      have hkB := Hk.out.mono hWB
      obtain ⟨vs, hvs, hvl, hvr⟩ := hbB
      obtain ⟨kb, ko, rfl, hkl0, _⟩ := Hk.out.at (by omega)
      obtain ⟨_, _, e1, hkl, hkc⟩ := hkB.at (by omega)
      cases e1
      obtain ⟨vs0, hvs0, _, _⟩ := Hb.out
      obtain ⟨bb, bo, rfl, hbl0, _⟩ := hvs0.at (by omega)
      obtain ⟨_, _, e2, hbl, hbc⟩ := hvs.at (by omega)
      cases e2
      have hkl1 := Nat.lt_of_lt_of_le hkl0 HB1.out.size
      have hbl1 := Nat.lt_of_lt_of_le hbl0 HB1.out.size
      have cK := cellInt hkc j (by omega)
      have hjv : j < vs.length := by omega
      have cB := hbc j vs[j] (List.getElem?_eq_getElem hjv)
      have hrb := hvr j vs[j] (bs[j]) (List.getElem?_eq_getElem hjv) (List.getElem?_eq_getElem hlt)
      obtain ⟨⟨va, vn, vc⟩, hv⟩ : ∃ v, vs[j] = v := ⟨_, rfl⟩
      rw [hv] at cB hrb
      have hbj : bs[j]?.getD [] = bs[j] := by simp [hlt]
      have HS := Lib.hid (rowL_snoc Ks bs j hlt (by rw [HKl.out]; omega))
      rw [hbj, HKg.out j hlt] at HS
      have HIN := Lib.hid (show ∀ x ∈ bs.take (j + 1), x ∈ bs.take j ∨ x = bs[j] from fun x hx => by
        rw [List.take_add_one, List.getElem?_eq_getElem hlt] at hx
        rcases List.mem_append.1 hx with h | h
        · exact .inl h
        · exact .inr (by simpa using h))
      generalize ks[j]?.getD 0 = kv at *
      generalize bs[j] = bl at *
      have hvn : bl.length = vn := hrb.len
      have hcell : encS (va, vn, vc) = .slice va vn vc := rfl
      rw [hcell] at cB
      obtain ⟨m, hm, hm0, hm7⟩ := mod_int kv 7 (by decide)
      have hkv : kindOf kv = 1 + m := by unfold kindOf; rw [hm]
      rw [hkv] at HS
      have hlen2 := rowL_len (Ks.take j) (bs.take j) h60
      have hn2 : n2 ≤ 2000 := by have := ho.len; have h3 : (bs.take j).length ≤ 20 := by simp; omega
                                 omega
      have H60 := Lib.hid h60
      have HO := Lib.hid ho
      have Hrb := Lib.hid hrb
      by_cases h61 : (60 : Int) < (vn : Int)
      · clear ho hrb h60 hkc hbc hvr hvs hkB hlen2
        go_wp2_with fail
        go_ret
        exact ⟨rfl, hWB⟩
      have h60' : (vn : Int) ≤ 60 := by omega
      have kd := bcell (below_drew wr) hkl cK
      have bd := bcell (below_drew wr) hbl cB
      clear ho hrb h60 hkc hbc hvr hvs hkB hlen2 h61 hkv hvn hcell hvs0 hkl0 hbl0
      have hkd : kb < wr.drew.heap.size := hkl
      have hbd : bb < wr.drew.heap.size := hbl
      have hod := HO.out.mono (below_drew wr)
      have hrd := Hrb.out.drewd
      have hszd : w1.heap.size ≤ wr.drew.heap.size := hsz
      have hBd := hB.trans ((below_drew wr).mono hsz)
      have hvn2 : vn ≤ 140737488350000 := by omega
      have ij0 : (0 : Int) ≤ (j : Int) := by omega
      have ijk : (j : Int) < (ks.length : Int) := by omega
      have ijb : (j : Int) < (bs.length : Int) := by omega
      have hw1 : IntKind.i64.wrap (1 + m) = 1 + m := IntWalk.i64_in _ (by omega)
      have hol : (objL (1 + m) bl).length ≤ 2000 := by
        rw [objL_length]
        have hv1 : bl.length = vn := Hrb.out.len
        have h8 := Nat.mod_lt (8 - bl.length % 8) (show 8 > 0 by decide)
        generalize (8 - bl.length % 8) % 8 = z at *
        omega
      have hft : (n2 + (objL (1 + m) bl).length) * 1 ≤ 140737488355328 := by omega
      have hft2 : n2 + (objL (1 + m) bl).length ≤ 140737488355328 := by omega
      have hP7 : 1 ≤ 1 + m ∧ 1 + m ≤ 7 := by omega
      go_wp2_with fail
      go_region_held3 (fun w' : World => w'.cell? ⟨kb, ko + j, none⟩ = some (.int .i64 kv) ∧ w'.cell? ⟨bb, bo + j, none⟩ = some (.slice va vn vc)) (exact ⟨kd, bd⟩) ((first | (go_at_call 16; refine (number_int kv 7 m hm (by decide) (by decide) _).mono ?_; rintro e w' ⟨rfl, rfl⟩) | (go_at_call 10; refine (put_obj va vn vc (1 + m) bl _ hrd hvn2).mono ?_; rintro e w3 ⟨a3, c3, rfl, ho3, hb3⟩; rw [show putO (1 + m) bl = objL (1 + m) bl from if_pos hP7] at ho3 ⊢; have hod3 := hod.mono hb3; have hz3 := hb3.size; have hsz3 := Nat.le_trans hszd hz3; have kd := bcell hb3 hkd kd; have bd := bcell hb3 hbd bd; have hkd := Nat.lt_of_lt_of_le hkd hz3; have hbd := Nat.lt_of_lt_of_le hbd hz3; have hB3 := hBd.trans (hb3.mono hszd)) | (refine step_appOwn (s := .tmp 40) (x := .tmp 51) rfl rfl Try.oneB rfl rfl hod3.2 ho3.rd.raw (fun _ => rfl) hft hft2 hsz3 ?_; intro a4 c4 w4 ho4 hb4 _ hgr4; have kd := bcell hb4 hkl1 kd; have bd := bcell hb4 hbl1 bd)))
      go_wp2_with fail
      go_roundw
      case rel =>
        refine ⟨j + 1, a4, _, c4, by omega, by go_num, rfl, ⟨?_, ?_⟩, (hB.trans ((below_drew wr).mono hsz)).trans ((hb3.mono hszd).trans hb4), ?_⟩
        · rw [HS.out]; exact HO.out.1.append (objL_isB hP7 Hrb.out.1)
        · rw [HS.out]; exact ho4
        · intro b hb
          have hv1 : bl.length = vn := Hrb.out.len
          rcases HIN.out b hb with hb | rfl
          · exact H60.out b hb
          · omega
      case measure => simp [intOf]; omega
    · have hj2 : j = bs.length := by omega
      subst hj2
      rw [List.take_length, rowL_takeK] at ho
      rw [List.take_length] at h60
      have hl2 := ho.len
      have hn2 : n2 ≤ 1600 := by have := rowL_len Ks bs h60; omega
      have HRD := Lib.hid (fun (j : Nat) (hj : j < bs.length) (w' : World) (hr : RdB w' a2 n2 c2 (rowL Ks bs)) => show Calls Try.prog 17 #[.slice a2 n2 c2, .int .u64 ((rowL (Ks.take j) (bs.take j)).length : Int)] w' fun e w2 => e = .returned (.tuple #[.agg #[.int .i64 (kindOf (ks[j]?.getD 0)), .int .i64 0, .int .u64 (16 + ((bs[j]?.getD []).length : Int))], .int .i64 0]) ∧ Below w'.heap.size w' w2 by
        obtain ⟨rest, hsp⟩ := rowL_split Ks bs (by rw [HKl.out]; omega) j hj
        have hm := rowL_mod (Ks.take j) (bs.take j)
        have hb6 : (bs[j]?.getD []).length ≤ 60 := by rw [List.getElem?_eq_getElem hj]; exact h60 _ (List.getElem_mem hj)
        have hk7 : 1 ≤ kindOf (ks[j]?.getD 0) ∧ kindOf (ks[j]?.getD 0) ≤ 7 := by unfold kindOf; omega
        have hle : (rowL (Ks.take j) (bs.take j)).length ≤ n2 := by rw [← hl2, hsp]; simp
        obtain ⟨r1, r2⟩ := read_row (rowL (Ks.take j) (bs.take j)) rest (kindOf (ks[j]?.getD 0)) (bs[j]?.getD []) hm hk7 hb6
        rw [HKg.out j hj] at hsp
        rw [← hsp] at r1 r2
        exact readRow_any _ a2 n2 c2 (rowL Ks bs) _ _ 0 w' hr (by omega) (by omega) (by omega) r1 r2)
      have HRE := Lib.hid (fun (w' : World) (hr : RdB w' a2 n2 c2 (rowL Ks bs)) => show Calls Try.prog 17 #[.slice a2 n2 c2, .int .u64 (n2 : Int)] w' fun e w2 => e = .returned (.tuple #[.agg #[.int .i64 0, .int .i64 0, .int .u64 0], .int .i64 2]) ∧ Below w'.heap.size w' w2 by
        have r1 : readC (rowL Ks bs) (n2 : Int) = 2 := by rw [← hl2]; exact read_end _ (rowL_mod _ _)
        exact readRow_any _ a2 n2 c2 (rowL Ks bs) 0 0 2 w' hr (by omega) (by omega) (by omega) r1 (readV_no (by rw [r1]; decide)))
      have HPS := Lib.hid (fun (j : Nat) (hj : j < bs.length) => show (rowL (Ks.take (j + 1)) (bs.take (j + 1))).length = (rowL (Ks.take j) (bs.take j)).length + (16 + (bs[j]?.getD []).length + 7) / 8 * 8 by
        rw [rowL_snoc Ks bs j hj (by rw [HKl.out]; omega), List.length_append, (objL_mod _ _).2])
      have HPl := Lib.hid (fun (j : Nat) (hj : j ≤ bs.length) => show (rowL (Ks.take j) (bs.take j)).length ≤ 1600 by
        have := rowL_len (Ks.take j) (bs.take j) (fun b hb => h60 b (List.mem_of_mem_take hb))
        simp at this; omega)
      have HPe : Hid ((rowL (Ks.take bs.length) (bs.take bs.length)).length = n2) := Lib.hid (by rw [List.take_length, rowL_takeK]; exact hl2)
      obtain ⟨P, hP⟩ : ∃ P : Nat → Nat, P = fun j => (rowL (Ks.take j) (bs.take j)).length := ⟨_, rfl⟩
      have hP' : ∀ j, (rowL (Ks.take j) (bs.take j)).length = P j := fun j => by rw [hP]
      simp only [hP'] at HRD HPS HPl HPe
      have hP0 : P 0 = 0 := by rw [hP]; simp [rowL]
      have HP0 := Lib.hid hP0
      have HO := Lib.hid ho
      have H60 := Lib.hid h60
      clear hP hP' hP0 ho h60 hl2
      go_wp2_with fail
      go_loopw [8, 9] (fun t i wq => ∃ j : Nat, j ≤ bs.length ∧ i = .int .i64 j ∧ t = .int .u64 (P j : Nat) ∧ Below wr.heap.size wr wq) (fun _ i _ => bs.length - (intOf i).toNat)
      case atStart => exact ⟨0, Nat.zero_le _, rfl, by rw [HP0.out]; rfl, Below.refl _ _⟩
      case round =>
        obtain ⟨j, hj, rfl, rfl, hQ⟩ := hrel
        have hWQ := hWB.trans (hQ.mono hWB.size)
        have hoq := HO.out.rd.mono hQ
        by_cases hlt : j < bs.length
        · have hd5 : (0 : Nat) ≤ j := Nat.zero_le _
          have hbB := Hb.out.mono hWQ
          have hkB := Hk.out.mono hWQ
          obtain ⟨vs, hvs, hvl, hvr⟩ := hbB
          obtain ⟨kb, ko, rfl, hkl0, _⟩ := Hk.out.at (by omega)
          obtain ⟨_, _, e1, hkl, hkc⟩ := hkB.at (by omega)
          cases e1
          obtain ⟨vs0, hvs0, _, _⟩ := Hb.out
          obtain ⟨bb, bo, rfl, hbl0, _⟩ := hvs0.at (by omega)
          obtain ⟨_, _, e2, hbl, hbc⟩ := hvs.at (by omega)
          cases e2
          have cK := cellInt hkc j (by omega)
          have hjv : j < vs.length := by omega
          have cB := hbc j vs[j] (List.getElem?_eq_getElem hjv)
          have hrb := hvr j vs[j] (bs[j]) (List.getElem?_eq_getElem hjv) (List.getElem?_eq_getElem hlt)
          obtain ⟨⟨va, vn, vc⟩, hv⟩ : ∃ v, vs[j] = v := ⟨_, rfl⟩
          rw [hv] at cB hrb
          have hbj : bs[j]?.getD [] = bs[j] := by simp [hlt]
          have HR1 := Lib.hid (HRD.out j hlt)
          have HS1 := Lib.hid (HPS.out j hlt)
          have hPl := HPl.out j hj
          rw [hbj] at HR1 HS1
          generalize ks[j]?.getD 0 = kv at *
          have hvn : (bs[j]).length = vn := hrb.len
          have hv60 : vn ≤ 60 := by rw [← hvn]; exact H60.out _ (List.getElem_mem hlt)
          rw [hvn] at HR1 HS1
          have hcell : encS (va, vn, vc) = .slice va vn vc := rfl
          rw [hcell] at cB
          obtain ⟨m, hm, hm0, hm7⟩ := mod_int kv 7 (by decide)
          have hkv : kindOf kv = 1 + m := by unfold kindOf; rw [hm]
          rw [hkv] at HR1
          have ij0 : (0 : Int) ≤ (j : Int) := by omega
          have ijk : (j : Int) < (ks.length : Int) := by omega
          have ijb : (j : Int) < (bs.length : Int) := by omega
          have hw1 : IntKind.i64.wrap (1 + m) = 1 + m := IntWalk.i64_in _ (by omega)
          clear hkc hbc hvr hvs hkB hkv hvn hcell hvs0 hkl0 hbl0 hrb hv hbj hvl hjv
          go_wp2_with fail
          refine (HR1.out _ hoq).mono ?_
          rintro e w5 ⟨rfl, hb5⟩
          have hba := below_alloc w5 (.cells #[.int .i64 (1 + m), .int .i64 0, .int .u64 (16 + (vn : Int))] 42)
          have hQ5 := hQ.trans (hb5.mono hQ.size)
          have hQ6 := hQ5.trans (hba.mono hQ5.size)
          have kd := bcell hba (Nat.lt_of_lt_of_le hkl hb5.size) (bcell hb5 hkl cK)
          have bd := bcell hba (Nat.lt_of_lt_of_le hbl hb5.size) (bcell hb5 hbl cB)
          have hF := FrameB.new w5 42 (1 + m) 0 (16 + (vn : Int))
          have hz6 := Nat.le_trans hb5.size hba.size
          clear cK cB hba hb5 hQ5
          go_wp2_with fail
          generalize w5.heap.size = G at *
          generalize w5.alloc (.cells #[.int .i64 (1 + m), .int .i64 0, .int .u64 (16 + (vn : Int))] 42) = w6 at *
          have kd := bcell (below_drew w6) (Nat.lt_of_lt_of_le hkl hz6) kd
          have bd := bcell (below_drew w6) (Nat.lt_of_lt_of_le hbl hz6) bd
          have hF := hF.mono (below_drew w6) hF.lt
          have f0 := hF.d0
          have f1 := hF.d1
          have f2 := hF.d2
          have hQ7 := hQ6.trans ((below_drew w6).mono hQ6.size)
          have hwi : IntKind.i64.wrap (16 + (vn : Int)) = 16 + (vn : Int) := IntWalk.i64_in _ (by omega)
          have hwv : IntKind.u64.wrap (16 + (vn : Int)) = 16 + (vn : Int) := by rw [IntKind.wrap_u64]; omega
          clear hF hQ6
          go_region_held3 (fun w' : World => w'.cell? ⟨kb, ko + j, none⟩ = some (.int .i64 kv) ∧ w'.cell? ⟨bb, bo + j, none⟩ = some (.slice va vn vc) ∧ w'.cell? ⟨G, 0, none⟩ = some (.int .i64 (1 + m)) ∧ w'.cell? ⟨G, 1, none⟩ = some (.int .i64 0) ∧ w'.cell? ⟨G, 2, none⟩ = some (.int .u64 (16 + (vn : Int)))) (exact ⟨kd, bd, f0, f1, f2⟩) ((first | (go_at_call 16; refine (number_int kv 7 m hm (by decide) (by decide) _).mono ?_; rintro e w' ⟨rfl, rfl⟩)))
          go_wp2_with fail
          refine ⟨⟨j + 1, by omega, by go_num, ?_, hQ7⟩, by simp [intOf]; omega⟩
          rw [HS1.out]
          congr 1
        · obtain rfl : j = bs.length := by omega
          rw [HPe.out]
          go_wp2_with fail
          refine (HRE.out _ hoq).mono ?_
          rintro e w5 ⟨rfl, hb5⟩
          go_wp2_with fail
          go_ret
          exact ⟨rfl, (hWQ.trans (hb5.mono hWQ.size)).alloc (Nat.le_trans hWQ.size hb5.size) _⟩
end Go.Proofs.Ytfhpdhfhahbfnaa
