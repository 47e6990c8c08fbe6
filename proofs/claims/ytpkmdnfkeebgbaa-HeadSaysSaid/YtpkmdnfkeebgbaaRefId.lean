/- What the document's own u and id compute. Conditions stand as premises. -/
import Derived.Test.YtpkmdnfkeebgbaaHeadParse
import Derived.Test.YtpkmdnfkeebgbaaRefGet
namespace Go.Proofs.Ytpkmdnfkeebgbaa
open Go.ChangeShapes Go.WideShapes Go.ChangeAt Go.RowKit
set_option linter.unusedVariables false
set_option linter.unusedSimpArgs false

theorem refgetn_any (a : Option Addr) (len cap : Nat) (l : List Int) (p n : Nat) (w : World) (hr : RdB w a len cap l) (hlen : len ≤ 1000000) (hs : okSize n = true) (h : p + n ≤ len) :
    Calls Try.prog 35 #[.slice a len cap, .int .i64 p, .int .i64 n] w fun e w' => e = .returned (.tuple #[.int .u64 (gN l p n), .bool true]) ∧ w = w' := by
  obtain ⟨h1, h2⟩ := getA_gN (l := l) (p := p) hs (by rw [hr.len]; exact h)
  have := refget_any a len cap l p n w hr (by omega) (by omega)
  rwa [h1, h2] at this
theorem refget4_any (a : Option Addr) (len cap : Nat) (l : List Int) (p : Nat) (w : World) (hr : RdB w a len cap l) (hlen : len ≤ 1000000) (h : p + 4 ≤ len) :
    Calls Try.prog 35 #[.slice a len cap, .int .i64 p, .int .i64 4] w fun e w' => e = .returned (.tuple #[.int .u64 (gN l p 4), .bool true]) ∧ w = w' := refgetn_any a len cap l p 4 w hr hlen rfl h
theorem refget8_any (a : Option Addr) (len cap : Nat) (l : List Int) (p : Nat) (w : World) (hr : RdB w a len cap l) (hlen : len ≤ 1000000) (h : p + 8 ≤ len) :
    Calls Try.prog 35 #[.slice a len cap, .int .i64 p, .int .i64 8] w fun e w' => e = .returned (.tuple #[.int .u64 (gN l p 8), .bool true]) ∧ w = w' := refgetn_any a len cap l p 8 w hr hlen rfl h
theorem refu_any (a : Option Addr) (n c : Nat) (l : List Int) (p : Nat) (w : World) (hr : RdB w a n c l) (hn : n ≤ 1000000) (h : p + 8 ≤ n) :
    Calls Try.prog 36 #[.slice a n c, .int .u64 p] w fun e w' => e = .returned (.int .u64 (gN l p 8)) ∧ w = w' := by
  have hw : IntKind.i64.wrap (p : Int) = (p : Int) := by rw [IntKind.wrap_i64]; omega
  have HG := Lib.hid (refget8_any a n c l p w hr hn h)
  generalize gN l p 8 = v at *
  clear hr
  go_enter Try.func36, Try.ntmps36
  go_wp2_with (go_at_call 35; refine HG.out.mono ?_; rintro e w1 ⟨rfl, rfl⟩)
  go_ret
  exact ⟨rfl, rfl⟩

theorem Try.idI : RowInfo Try.prog 26 16 := ⟨by kernel_rfl, by kernel_rfl⟩
theorem bytes_one (B : List Int) : (B.map (Value.int .u8)).toArray.all (·.oneCell') = true := by
  rw [Array.all_eq_true_iff_forall_mem]
  intro v hv
  obtain ⟨y, _, rfl⟩ := List.mem_map.1 (List.mem_toArray.1 hv)
  rfl
theorem id_next {D : List Int} (hD : D.length = 16) (k : Nat) (hk : k < 16) (x : Int) (hx : D[k]? = some x) : (D.take k ++ List.replicate (16 - k) 0).set k x = D.take (k + 1) ++ List.replicate (16 - (k + 1)) 0 := by
  have h1 : (D.take k).length = k := by simp; omega
  rw [List.set_append_right _ _ (by omega), h1, Nat.sub_self, show 16 - k = (16 - (k + 1)) + 1 by omega, List.replicate_succ, List.set_cons_zero, List.take_add_one, hx, List.append_assoc]
  rfl

set_option maxRecDepth 100000 in
set_option maxHeartbeats 4000000 in
theorem refid_any (a : Option Addr) (n c : Nat) (l : List Int) (p : Nat) (w : World) (hr : RdB w a n c l) (hn : n ≤ 1000000) (h : p + 16 ≤ n) :
    Calls Try.prog 34 #[.slice a n c, .int .i64 p] w fun e w' => e = .returned (.agg (((l.drop p).take 16).map (Value.int .u8)).toArray) ∧ Below w.heap.size w w' := by
  obtain rfl : l.length = n := hr.len
  obtain ⟨b, off, rfl, hbl, hcs⟩ := hr.2.at (by omega)
  have hDl : ((l.drop p).take 16).length = 16 := by simp; omega
  have hDat : ∀ k, k < 16 → ∃ x, l[p + k]? = some x ∧ ((l.drop p).take 16)[k]? = some x := fun k hk => ⟨l[p + k], List.getElem?_eq_getElem (by omega), by rw [List.getElem?_take, if_pos hk, List.getElem?_drop, List.getElem?_eq_getElem (by omega)]⟩
  have HDat := Lib.hid hDat
  have HDl := Lib.hid hDl
  have HCs := Lib.hid hcs
  generalize (l.drop p).take 16 = D at *
  clear hcs hDat hDl hr
  go_enter Try.func34, Try.ntmps34
  go_upto_region 1 with fail
  have hR1 := heap_alloc_new w (.cells #[Value.int .u8 0, Value.int .u8 0, Value.int .u8 0, Value.int .u8 0, Value.int .u8 0, Value.int .u8 0, Value.int .u8 0, Value.int .u8 0, Value.int .u8 0, Value.int .u8 0, Value.int .u8 0, Value.int .u8 0, Value.int .u8 0, Value.int .u8 0, Value.int .u8 0, Value.int .u8 0] 26)
  have HB1 := Lib.hid (below_alloc w (.cells #[Value.int .u8 0, Value.int .u8 0, Value.int .u8 0, Value.int .u8 0, Value.int .u8 0, Value.int .u8 0, Value.int .u8 0, Value.int .u8 0, Value.int .u8 0, Value.int .u8 0, Value.int .u8 0, Value.int .u8 0, Value.int .u8 0, Value.int .u8 0, Value.int .u8 0, Value.int .u8 0] 26))
  generalize w.alloc (.cells #[Value.int .u8 0, Value.int .u8 0, Value.int .u8 0, Value.int .u8 0, Value.int .u8 0, Value.int .u8 0, Value.int .u8 0, Value.int .u8 0, Value.int .u8 0, Value.int .u8 0, Value.int .u8 0, Value.int .u8 0, Value.int .u8 0, Value.int .u8 0, Value.int .u8 0, Value.int .u8 0] 26) = w1 at hR1 HB1 ⊢
  go_upto_region 2 with fail
  have hO2 : (w1.alloc (.cells #[Value.int .u8 0, Value.int .u8 0, Value.int .u8 0, Value.int .u8 0, Value.int .u8 0, Value.int .u8 0, Value.int .u8 0, Value.int .u8 0, Value.int .u8 0, Value.int .u8 0, Value.int .u8 0, Value.int .u8 0, Value.int .u8 0, Value.int .u8 0, Value.int .u8 0, Value.int .u8 0] 26)).heap[w1.heap.size]? = some (.cells ((D.take 0 ++ List.replicate (16 - 0) 0).map (Value.int .u8)).toArray 26 (0, 0)) := heap_alloc_new w1 _
  have HR2 := Lib.hid (row_below (below_alloc w1 (.cells #[Value.int .u8 0, Value.int .u8 0, Value.int .u8 0, Value.int .u8 0, Value.int .u8 0, Value.int .u8 0, Value.int .u8 0, Value.int .u8 0, Value.int .u8 0, Value.int .u8 0, Value.int .u8 0, Value.int .u8 0, Value.int .u8 0, Value.int .u8 0, Value.int .u8 0, Value.int .u8 0] 26)) (lt_of_heap hR1) hR1)
  have HB2 := Lib.hid (HB1.out.alloc HB1.out.size (.cells #[Value.int .u8 0, Value.int .u8 0, Value.int .u8 0, Value.int .u8 0, Value.int .u8 0, Value.int .u8 0, Value.int .u8 0, Value.int .u8 0, Value.int .u8 0, Value.int .u8 0, Value.int .u8 0, Value.int .u8 0, Value.int .u8 0, Value.int .u8 0, Value.int .u8 0, Value.int .u8 0] 26))
  generalize w1.alloc (.cells #[Value.int .u8 0, Value.int .u8 0, Value.int .u8 0, Value.int .u8 0, Value.int .u8 0, Value.int .u8 0, Value.int .u8 0, Value.int .u8 0, Value.int .u8 0, Value.int .u8 0, Value.int .u8 0, Value.int .u8 0, Value.int .u8 0, Value.int .u8 0, Value.int .u8 0, Value.int .u8 0] 26) = w2 at hO2 HR2 HB2 ⊢
  obtain ⟨R, hR⟩ : ∃ R, w.heap.size = R := ⟨_, rfl⟩
  have HRR := Lib.hid hR
  obtain ⟨O, hO⟩ : ∃ O, w1.heap.size = O := ⟨_, rfl⟩
  have hlt1 := lt_of_heap hR1
  rw [hO] at hO2 ⊢
  rw [hR] at HR2 ⊢
  have hRO : R < O := by omega
  have hbO : b < O := by omega
  have HO2 := Lib.hid hO2
  clear hR1 hO2 hR hO hlt1
  go_wp2_with fail
  go_loopw [6] (fun i wr => ∃ (k : Nat), k ≤ 16 ∧ i = .int .i64 (k : Int) ∧ wr.heap[O]? = some (.cells ((D.take k ++ List.replicate (16 - k) 0).map (Value.int .u8)).toArray 26 (0, 0)) ∧ Upd (· = O) w2 wr) (fun i _ => 16 - (intOf i).toNat)
  case atStart => exact ⟨0, Nat.zero_le _, rfl, HO2.out, Upd.refl _ _⟩
  case round =>
    obtain ⟨k, hk, rfl, hO, hU⟩ := hrel
    have HU := Lib.hid hU
    by_cases hlt : k < 16
    · have hlt' : (k : Int) < 16 := by omega
      obtain ⟨x, hx, hxd⟩ := HDat.out k hlt
      have hc := ucell hU (show ¬ (b = O) by omega) (bcell HB2.out hbl (HCs.out (p + k) x hx))
      have hlk : (D.take k ++ List.replicate (16 - k) (0 : Int)).length = 16 := by have := HDl.out; simp only [List.length_append, List.length_take, List.length_replicate]; omega
      obtain ⟨ov, hov⟩ : ∃ ov, (D.take k ++ List.replicate (16 - k) (0 : Int))[k]? = some ov := ⟨_, List.getElem?_eq_getElem (by omega)⟩
      have iO := cell_of_heap hO k (.int .u8 ov) (by rw [List.getElem?_toArray, List.getElem?_map, hov]; rfl)
      have fO := free_of_heap hO k
      have HOn := Lib.hid (row_set hO k (.int .u8 x))
      rw [List.setIfInBounds_toArray, ← List.map_set, id_next HDl.out k hlt x hxd] at HOn
      have HUn := Lib.hid (HU.out.trans (Upd.setCell (F := (· = O)) wr ⟨O, k, none⟩ (.int .u8 x) rfl) (fun _ _ h => h))
      have hpk : (p : Int) + (k : Int) < (l.length : Int) := by omega
      have hpk0 : (0 : Int) ≤ (p : Int) + (k : Int) := by omega
      clear hlk hov hxd hx hO hU HU
      go_wp2_with fail
      go_roundw
      case rel => exact ⟨k + 1, by omega, by congr 1, HOn.out, HUn.out⟩
      case measure => simp [intOf]; omega
    · obtain rfl : k = 16 := by omega
      have hge : ¬ ((16 : Int) < 16) := by omega
      rw [Nat.sub_self, List.replicate_zero, List.append_nil, List.take_of_length_le (by rw [HDl.out]; omega)] at hO
      have HOx := Lib.hid hO
      have HR3 := Lib.hid (row_upd hU (by omega) HR2.out)
      have HB3 := Lib.hid (HB2.out.trans (hU.below (B := w.heap.size) HB2.out.size (fun j hj => by have := HRR.out; omega)))
      have HSz := Lib.hid (show ((D.map (Value.int .u8)).toArray).size = 16 by simpa using HDl.out)
      clear hO hU HU
      go_wp2_with (first
        | (with_reducible refine wpList_loadS rfl rfl Try.idI rfl HOx.out HSz.out ?_)
        | (with_reducible refine wpList_storeS rfl rfl Try.idI rfl rfl HR3.out (by with_unfolding_all rfl) HSz.out (bytes_one D) ?_; intro w4 hX4 hu4))
      have HB4 := Lib.hid (HB3.out.trans (hu4.below HB3.out.size (fun j hj => by have := HRR.out; omega)))
      refine bodyPost_ret (v := .agg (D.map (Value.int .u8)).toArray) (results_S rfl Try.idI rfl hX4.out HSz.out) rfl ?_
      exact ⟨rfl, HB4.out⟩
end Go.Proofs.Ytpkmdnfkeebgbaa
