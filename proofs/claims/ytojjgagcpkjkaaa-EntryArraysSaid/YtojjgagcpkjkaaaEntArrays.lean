/- The walk of EntryArrays. Conditions stand as premises. -/
import Derived.Test.YtojjgagcpkjkaaaEntArrN
import Derived.Test.YtojjgagcpkjkaaaRefPlaces
import Derived.Test.YtojjgagcpkjkaaaEntXor
import Derived.Test.YtojjgagcpkjkaaaNum
import Derived.Deep.CutBlock
namespace Go.Proofs.Ytojjgagcpkjkaaa
open Go.ChangeShapes Go.WideShapes Go.ChangeAt Go.RowKit
set_option linter.unusedVariables false

def slotsL (vs : List Int) (next : Int) : List PR := vs.map fun v => (v, next)
theorem slotsL_length (vs : List Int) (next : Int) : (slotsL vs next).length = vs.length := by simp [slotsL]
theorem slotsL_bd {vs : List Int} {next : Int} (hx : U64 next) (hv : ∀ v ∈ vs, U64 v) : ∀ p ∈ slotsL vs next, U64 p.1 ∧ U64 p.2 := by
  intro p hp
  obtain ⟨v, hv', rfl⟩ := List.mem_map.1 hp
  exact ⟨hv v hv', hx⟩
theorem slotsL_snoc (vs : List Int) (next : Int) (k : Nat) (h : k < vs.length) : (slotsL vs next).take (k + 1) = (slotsL vs next).take k ++ [(vs[k], next)] := by
  rw [List.take_add_one, show (slotsL vs next)[k]? = some (vs[k], next) by simp [slotsL, h]]; rfl

set_option maxRecDepth 100000 in
set_option maxHeartbeats 1000000 in
theorem entryarrays_law (next : Int) (a : Option Addr) (n c : Nat) (vs : List Int) (kind : Int) (w0 : World) (hr0 : Rd (Value.int .u64) w0 a n c vs) (hx : U64 next) (hv : ∀ v ∈ vs, U64 v) :
    Calls Try.prog 7 #[.int .u64 next, .slice a n c, .int .i64 kind] w0 fun e w' => e = .returned (.bool true) ∧ Below w0.heap.size w0 w' := by
  obtain rfl : vs.length = n := hr0.1
  have hlen : vs.length ≤ 9223372036854775807 := by have h1 := hr0.2.1; have h2 := hr0.2.2.1; unfold maxLen at h2; omega
  have HX := Lib.hid hx
  obtain ⟨x0, x1⟩ := hx
  have HR0 := Lib.hid hr0
  have HV := Lib.hid hv
  clear hr0 hv
  by_cases hbig : 60 < vs.length
  · have hbig' : decide (60 < (vs.length : Int)) = true := by simp; omega
    go_enter Try.func7, Try.ntmps7
    go_wp2_with fail
    refine (first_any _).mono ?_
    rintro e w1 ⟨rfl, hb1⟩
    go_wp2_with fail
    go_ret
    exact ⟨rfl, hb1⟩
  have hd1 : decide (60 < (vs.length : Int)) = false := by simp; omega
  by_cases hz : vs.length = 0
  · have hz' : ((vs.length : Int) == 0) = true := by rw [hz]; rfl
    go_enter Try.func7, Try.ntmps7
    go_wp2_with fail
    refine (first_any _).mono ?_
    rintro e w1 ⟨rfl, hb1⟩
    go_wp2_with fail
    go_ret
    exact ⟨rfl, hb1⟩
  have hz' : ((vs.length : Int) == 0) = false := beq_eq_false_iff_ne.2 (by omega)
  have hne : vs ≠ [] := fun h => hz (by rw [h]; rfl)
  have hn60 : vs.length ≤ 60 := by omega
  have HAB := Lib.hid (arr_back next vs hne hn60 HX.out HV.out)
  have HNE := Lib.hid hne
  have HZ := Lib.hid hz
  clear hbig hz hne
  go_enter Try.func7, Try.ntmps7
  go_wp2_with fail
  refine (first_any _).mono ?_
  rintro e w ⟨rfl, hb1⟩
  have HR := Lib.hid (HR0.out.mono hb1)
  have HB0 := Lib.hid hb1
  clear hb1 HR0
  go_wp2_with fail
  refine (putarray_any next a vs.length c vs w HR.out HX.out HV.out (by omega)).mono ?_
  rintro e w1 ⟨a1, c1, rfl, ho1, hb1⟩
  have hBl : (putArrL next vs).length ≤ 1000 := by
    have e : putArrL next vs = objL 6 (numsL (next :: vs)) := by unfold putArrL putO; rw [if_pos (by omega)]
    rw [e, objL_length, numsL_length]; simp; omega
  obtain ⟨B, hB⟩ : ∃ B, putArrL next vs = B := ⟨_, rfl⟩
  rw [hB] at HAB hBl ho1 ⊢
  clear hB
  have HB1 := Lib.hid hb1
  have hr1 := ho1.rd
  clear ho1 hb1
  go_wp2_with fail
  refine (readarray_any 0 a1 B.length c1 B w1 hr1 (by omega) (by omega) (by omega)).mono ?_
  rw [HAB.out.1]
  rintro e w2 ⟨x, a2, n2, c2, rfl, hok, -, hb2⟩
  obtain ⟨t, hno, hr2⟩ := hok rfl
  rw [HAB.out.2] at hno
  obtain ⟨rfl, rfl⟩ := List.cons.inj hno
  obtain rfl : vs.length = n2 := hr2.1
  have HB2 := Lib.hid (HB1.out.trans (hb2.mono HB1.out.size))
  have HR2 := Lib.hid hr2
  clear hok hno hr2 hb2
  go_upto_region 8 with fail
  have hX3 := heap_alloc_new w2 (.cells #[.int .u64 next, .slice a2 vs.length c2] 35)
  have HB3 := Lib.hid (HB2.out.alloc HB2.out.size (.cells #[.int .u64 next, .slice a2 vs.length c2] 35))
  have HR3 := Lib.hid (HR2.out.mono (below_alloc w2 (.cells #[.int .u64 next, .slice a2 vs.length c2] 35)))
  have HK0 := Lib.hid (cell_of_heap hX3 0 _ rfl)
  have HK1 := Lib.hid (cell_of_heap hX3 1 _ rfl)
  have HLT := Lib.hid (lt_of_heap hX3)
  have HRB := Lib.hid (HR.out.mono HB3.out)
  clear hX3 hr1
  generalize w2.alloc (.cells #[.int .u64 next, .slice a2 vs.length c2] 35) = w3 at HB3 HR3 HK0 HK1 HLT HRB ⊢
  obtain ⟨P9, hP9⟩ : ∃ P9, w2.heap.size = P9 := ⟨_, rfl⟩
  have HP9 := Lib.hid hP9
  rw [hP9] at HK0 HK1 HLT ⊢
  clear hP9
  go_wp2_with fail
  go_loopw [11, 12] (fun s i wr => ∃ (k : Nat) (a' : Option Addr) (c' : Nat), k ≤ vs.length ∧ i = .int .i64 (k : Int) ∧ s = .slice a' k c' ∧ OwnP 45 wr w3.heap.size a' k c' ((slotsL vs next).take k) ∧ Below w3.heap.size w3 wr) (fun _ i _ => vs.length - (match i with | .int _ x => x.toNat | _ => 0))
  case atStart => exact ⟨0, none, 0, Nat.zero_le _, rfl, rfl, OwnP.nil _ _ _, Below.refl _ _⟩
  case round =>
    obtain ⟨k, a', c', hk, rfl, rfl, hown, hB⟩ := hrel
    have HO := Lib.hid hown
    have HB := Lib.hid hB
    clear hown hB
    by_cases hlt : k < vs.length
    · have hlt' : (k : Int) < (vs.length : Int) := by omega
      obtain ⟨b, off, rfl, hc⟩ := cellAt (HRB.out.mono HB.out) k hlt
      have hb := HV.out vs[k] (List.getElem_mem hlt)
      have HS := Lib.hid (slotsL_snoc vs next k hlt)
      generalize hz : vs[k] = z at hc hb HS
      clear hz
      obtain ⟨z0, z1⟩ := hb
      have hB3 := below_alloc wr (.cells #[.int .u64 z, .int .u64 next] 45)
      have HOW := Lib.hid (HO.out.mono hB3)
      have HS0 := Lib.hid (cell_of_heap (heap_alloc_new wr (.cells #[.int .u64 z, .int .u64 next] 45)) 0 _ rfl)
      have HS1 := Lib.hid (cell_of_heap (heap_alloc_new wr (.cells #[.int .u64 z, .int .u64 next] 45)) 1 _ rfl)
      have hf1 : (k + 1) * 16 ≤ 140737488355328 := by omega
      have hf2 : k + 1 ≤ 140737488355328 := by omega
      have hz3 := Nat.le_trans HB.out.size hB3.size
      have HB3' := Lib.hid hB3
      clear hB3
      go_wp2_with (at_builtin; go_must (refine wpList_appP (p := (z, next)) rfl rfl Try.twoS rfl rfl HOW.out HS0.out HS1.out hf1 hf2 hz3 ?_); intro a5 c5 w5 ho5 hu5 _)
      have hlow : ∀ j ∈ blk a', w3.heap.size ≤ j := fun j hj => by obtain ⟨z, hz, rfl⟩ := mem_blk.1 hj; exact (HO.out.lt z hz).1
      have hB5 := HB.out.trans ((HB3'.out.mono HB.out.size).trans (hu5.below hz3 hlow))
      go_roundw
      case rel => exact ⟨k + 1, a5, c5, by omega, by congr 1, rfl, by rw [HS.out]; exact ho5, hB5⟩
      case measure => show vs.length - ((k : Int) + 1).toNat < vs.length - (k : Int).toNat; omega
    · obtain rfl : k = vs.length := by omega
      have hge : ¬ ((vs.length : Int) < (vs.length : Int)) := by omega
      have hot := HO.out
      rw [← slotsL_length vs next, List.take_length, slotsL_length] at hot
      have HOT := Lib.hid hot
      clear hot hlt
      go_wp2_with fail
      refine (number_yes kind 2 (by omega) (by omega) _).mono ?_
      rintro e w4 ⟨rfl, rfl⟩
      obtain ⟨q, hq⟩ : ∃ q : Nat, kind % 2 = (q : Int) := ⟨(kind % 2).toNat, by omega⟩
      have hq2 : q < 2 := by omega
      rw [hq]
      obtain ⟨K, hK⟩ : ∃ K : Int, 4 + (q : Int) = K := ⟨_, rfl⟩
      have hK45 : K = 4 ∨ K = 5 := by omega
      have hX4 := heap_alloc_new wr (.cells #[.int .i64 4, .int .i64 5] 3)
      have hcq : (wr.alloc (.cells #[.int .i64 4, .int .i64 5] 3)).cell? ⟨wr.heap.size, q, none⟩ = some (.int .i64 K) := by
        rcases (by omega : q = 0 ∨ q = 1) with rfl | rfl
        · exact cell_of_heap hX4 0 _ (by rw [← hK]; rfl)
        · exact cell_of_heap hX4 1 _ (by rw [← hK]; rfl)
      have HB4 := Lib.hid (HB.out.alloc HB.out.size (.cells #[.int .i64 4, .int .i64 5] 3))
      have HOT4 := Lib.hid (HOT.out.mono (below_alloc wr (.cells #[.int .i64 4, .int .i64 5] 3)))
      clear hX4 hq hK
      generalize wr.alloc (.cells #[.int .i64 4, .int .i64 5] 3) = w4 at hcq HB4 HOT4 ⊢
      have hqi : (q : Int) < 2 := by omega
      have hKb : 4 ≤ K ∧ K ≤ 5 := by omega
      obtain ⟨hKb0, hKb1⟩ := hKb
      have hps : slotsL vs next ≠ [] := fun h => HNE.out (List.map_eq_nil_iff.1 h)
      have HTB := Lib.hid (tab_back K (slotsL vs next) hK45 hps (by rw [slotsL_length]; exact hn60) (slotsL_bd HX.out HV.out))
      have htl : (putTabL K (slotsL vs next)).length ≤ 2000 := by
        have ht : tableF K = true := by rcases hK45 with rfl | rfl <;> decide
        have e : putTabL K (slotsL vs next) = objL K (numsL (flatN (slotsL vs next))) := by unfold putTabL putO; rw [if_pos ht, if_pos (by omega)]
        rw [e, objL_length, numsL_length, flatN_length, slotsL_length]; omega
      have HTE := Lib.hid (show (putTabL K []).length ≤ 2000 by
        have ht : tableF K = true := by rcases hK45 with rfl | rfl <;> decide
        have e : putTabL K [] = objL K (numsL (flatN [])) := by unfold putTabL putO; rw [if_pos ht, if_pos (by omega)]
        rw [e, objL_length, numsL_length, flatN_length]; simp)
      clear hK45 hps
      go_upto_region 14 with fail
      go_wp2_with fail
      refine (puttable_any K a' vs.length c' (slotsL vs next) w4 HOT4.out.rd (slotsL_bd HX.out HV.out) (by omega)).mono ?_
      rintro e w5 ⟨a5, c5, rfl, ho5, hb5⟩
      have HR5 := Lib.hid ho5.rd
      obtain ⟨T, hT⟩ : ∃ T, putTabL K (slotsL vs next) = T := ⟨_, rfl⟩
      rw [hT] at HTB htl HR5 ⊢
      clear hT ho5
      have HB5 := Lib.hid (HB4.out.trans (hb5.mono HB4.out.size))
      have HOT5 := Lib.hid (HOT4.out.mono hb5)
      clear hb5
      go_wp2_with fail
      refine (readtab_any 0 K a5 T.length c5 T w5 HR5.out (by omega) (by omega) (by omega)).mono ?_
      rw [HTB.out.1]
      rintro e w6 ⟨a6, n6, c6, rfl, hok, -, hb6⟩
      have hoy := hok rfl
      rw [HTB.out.2.1] at hoy
      obtain rfl : vs.length = n6 := by have := hoy.1; rw [slotsL_length] at this; exact this
      have HB6 := Lib.hid (HB5.out.trans (hb6.mono HB5.out.size))
      have HOT6 := Lib.hid (HOT5.out.mono hb6)
      have HR6 := Lib.hid (HR5.out.mono hb6)
      have HOY6 := Lib.hid hoy.rd
      clear hok hoy hb6
      go_wp2_with fail
      refine (readtab_any 0 (9 - K) a5 T.length c5 T w6 HR6.out (by omega) (by omega) (by omega)).mono ?_
      rw [HTB.out.2.2.1]
      rintro e w7 ⟨a7, n7, c7, rfl, -, hno, hb7⟩
      obtain ⟨rfl, rfl, rfl⟩ := hno (by decide)
      have HB7 := Lib.hid (HB6.out.trans (hb7.mono HB6.out.size))
      have HOT7 := Lib.hid (HOT6.out.mono hb7)
      have HR7 := Lib.hid (HR6.out.mono hb7)
      have HOY7 := Lib.hid (HOY6.out.below hb7)
      clear hno hb7
      go_wp2_with fail
      refine (readarray_any 0 a5 T.length c5 T w7 HR7.out (by omega) (by omega) (by omega)).mono ?_
      rw [HTB.out.2.2.2.1]
      rintro e w8 ⟨x8, a8, n8, c8, rfl, -, hno, hb8⟩
      obtain ⟨rfl, rfl, rfl, rfl⟩ := hno (by decide)
      have hb8 := hb8.alloc hb8.size (.cells #[.int .u64 0, .slice none 0 0] 35)
      have HB8 := Lib.hid (HB7.out.trans (hb8.mono HB7.out.size))
      have HOT8 := Lib.hid (HOT7.out.mono hb8)
      have HR8 := Lib.hid (HR7.out.mono hb8)
      have HOY8 := Lib.hid (HOY7.out.below hb8)
      clear hno hb8
      go_upto_region 18 with fail
      generalize w8.alloc (.cells #[.int .u64 0, .slice none 0 0] 35) = w9 at HB8 HOT8 HR8 HOY8 ⊢
      go_wp2_with fail
      refine (readtab_any 0 6 a5 T.length c5 T w9 HR8.out (by omega) (by omega) (by omega)).mono ?_
      rw [HTB.out.2.2.2.2.1]
      rintro e w10 ⟨a10, n10, c10, rfl, -, hno, hb10⟩
      obtain ⟨rfl, rfl, rfl⟩ := hno (by decide)
      have HB10 := Lib.hid (HB8.out.trans (hb10.mono HB8.out.size))
      have HOT10 := Lib.hid (HOT8.out.mono hb10)
      have HOY10 := Lib.hid (HOY8.out.below hb10)
      clear hno hb10
      go_wp2_with fail
      refine (putarray_any next none 0 0 [] w10 ⟨rfl, Nat.le_refl _, Nat.zero_le _, fun _ => rfl, .inl rfl⟩ HX.out (by intro v hv; cases hv) (by omega)).mono ?_
      rintro e w11 ⟨a11, c11, rfl, ho11, hb11⟩
      have HR11 := Lib.hid ho11.rd
      have HE := Lib.hid (arr_empty next)
      have hel : (putArrL next []).length ≤ 1000 := by
        have e : putArrL next [] = objL 6 (numsL [next]) := by unfold putArrL putO; rw [if_pos (by omega)]
        rw [e, objL_length, numsL_length]; simp
      obtain ⟨E, hE⟩ : ∃ E, putArrL next [] = E := ⟨_, rfl⟩
      rw [hE] at HE hel HR11 ⊢
      have HB11 := Lib.hid (HB10.out.trans (hb11.mono HB10.out.size))
      have HOT11 := Lib.hid (HOT10.out.mono hb11)
      have HOY11 := Lib.hid (HOY10.out.below hb11)
      clear hE ho11 hb11
      go_wp2_with fail
      refine (readarray_any 0 a11 E.length c11 E w11 HR11.out (by omega) (by omega) (by omega)).mono ?_
      rw [HE.out]
      rintro e w12 ⟨x12, a12, n12, c12, rfl, -, hno, hb12⟩
      obtain ⟨rfl, rfl, rfl, rfl⟩ := hno (by decide)
      have hb12 := hb12.alloc hb12.size (.cells #[.int .u64 0, .slice none 0 0] 35)
      have HB12 := Lib.hid (HB11.out.trans (hb12.mono HB11.out.size))
      have HOT12 := Lib.hid (HOT11.out.mono hb12)
      have HOY12 := Lib.hid (HOY11.out.below hb12)
      clear hno hb12
      go_upto_region 20 with fail
      generalize w12.alloc (.cells #[.int .u64 0, .slice none 0 0] 35) = w13 at HB12 HOT12 HOY12 ⊢
      go_wp2_with fail
      refine (puttable_any K none 0 0 [] w13 (OwnP.nil 0 w13 0).rd (by intro v hv; cases hv) (by omega)).mono ?_
      rintro e w14 ⟨a14, c14, rfl, ho14, hb14⟩
      have HR14 := Lib.hid ho14.rd
      have HT5 := Lib.hid HTB.out.2.2.2.2.2
      have hel2 := HTE.out
      obtain ⟨G, hG⟩ : ∃ G, putTabL K [] = G := ⟨_, rfl⟩
      rw [hG] at HT5 hel2 HR14 ⊢
      have HB14 := Lib.hid (HB12.out.trans (hb14.mono HB12.out.size))
      have HOT14 := Lib.hid (HOT12.out.mono hb14)
      have HOY14 := Lib.hid (HOY12.out.below hb14)
      clear hG ho14 hb14
      go_wp2_with fail
      refine (readtab_any 0 K a14 G.length c14 G w14 HR14.out (by omega) (by omega) (by omega)).mono ?_
      rw [HT5.out]
      rintro e w15 ⟨a15, n15, c15, rfl, -, hno, hb15⟩
      obtain ⟨rfl, rfl, rfl⟩ := hno (by decide)
      have HB15 := Lib.hid (HB14.out.trans (hb15.mono HB14.out.size))
      have HOT15 := Lib.hid (HOT14.out.mono hb15)
      have HOY15 := Lib.hid (HOY14.out.below hb15)
      clear hno hb15
      go_wp2_with fail
      go_loopw [27] (fun i wz => ∃ k : Nat, k ≤ vs.length ∧ i = .int .i64 (k : Int) ∧ Below w15.heap.size w15 wz) (fun i _ => vs.length - (match i with | .int _ x => x.toNat | _ => 0))
      case atStart => exact ⟨0, Nat.zero_le _, rfl, Below.refl _ _⟩
      case round =>
        obtain ⟨k, hk, rfl, hBz⟩ := hrel
        have HBZ := Lib.hid hBz
        by_cases hlt : k < vs.length
        · have hlt' : (k : Int) < (vs.length : Int) := by omega
          obtain ⟨z, hz⟩ : ∃ z, vs[k]? = some z := ⟨_, List.getElem?_eq_getElem hlt⟩
          have hp : (slotsL vs next)[k]? = some (z, next) := by simp [slotsL, hz]
          obtain ⟨-, -, -, -, h5⟩ := HOY15.out.below hBz
          obtain ⟨b, off, rfl, hbk, hcs⟩ := h5.resolve_left (by omega)
          obtain ⟨hc0, hc1⟩ := hcs k _ hp
          obtain ⟨-, -, -, -, h6⟩ := (HOT15.out.mono hBz).rd
          obtain ⟨b2, off2, rfl, hbk2, hcs2⟩ := h6.resolve_left (by omega)
          obtain ⟨hd0, hd1⟩ := hcs2 k _ hp
          simp only at hc0 hc1 hd0 hd1
          rw [show off + 2 * k = off + k * 2 by omega] at hc0
          rw [show off + (2 * k + 1) = off + k * 2 + 1 by omega] at hc1
          rw [show off2 + 2 * k = off2 + k * 2 by omega] at hd0
          rw [show off2 + (2 * k + 1) = off2 + k * 2 + 1 by omega] at hd1
          clear hz hp h5 h6 hcs hcs2 hBz
          go_upto_region 26 with fail
          go_region_law fail
          all_goals
            go_wp2_with fail
            go_roundw
            case rel => exact ⟨k + 1, by omega, by congr 1, HBZ.out.drew⟩
            case measure => show vs.length - ((k : Int) + 1).toNat < vs.length - (k : Int).toNat; omega
        · obtain rfl : k = vs.length := by omega
          have hge : ¬ ((vs.length : Int) < (vs.length : Int)) := by omega
          have hBF := HB15.out.trans (hBz.mono HB15.out.size)
          have HBF := Lib.hid hBF
          have hk0 := bcell hBF HLT.out HK0.out
          have hk1 := bcell hBF HLT.out HK1.out
          have HSP := Lib.hid (sameplaces_yes a2 vs.length c2 a c vs _ (HR3.out.mono hBF) (HRB.out.mono hBF) HV.out (by omega))
          have HFW := Lib.hid (HB0.out.trans (HB3.out.mono HB0.out.size))
          clear hBz hBF hlt
          go_wp2_with fail
          refine HSP.out.mono ?_
          rintro e wf ⟨rfl, hbf⟩
          have HEND := Lib.hid (HFW.out.trans ((HBF.out.trans (hbf.mono HBF.out.size)).mono HFW.out.size))
          clear hbf
          go_wp2_with fail
          go_ret
          exact ⟨rfl, HEND.out⟩
end Go.Proofs.Ytojjgagcpkjkaaa
