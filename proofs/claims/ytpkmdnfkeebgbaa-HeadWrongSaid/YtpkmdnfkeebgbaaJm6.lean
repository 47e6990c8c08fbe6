/- Contracts and plain laws that this claim uses, each with its conditions as premises. -/
import Derived.Test.YtpkmdnfkeebgbaaJm3
import Derived.Test.YtpkmdnfkeebgbaaJm5
import Derived.Test.YtpkmdnfkeebgbaaJm4
/- What the document's own u and id compute. Conditions stand as premises. -/
namespace Go.Proofs.Ytpkmdnfkeebgbaa
open Go.ChangeShapes Go.WideShapes Go.ChangeAt Go.RowKit
set_option linter.unusedVariables false
set_option linter.unusedSimpArgs false

theorem refgetn_any (a : Option Addr) (len cap : Nat) (l : List Int) (p n : Nat) (w : World) (hr : RdB w a len cap l) (hlen : len ≤ 1000000) (hs : okSize n = true) (h : p + n ≤ len) :
    Calls Try.prog 35 #[.slice a len cap, .int .i64 p, .int .i64 n] w fun e w' => e = .returned (.tuple #[.int .u64 (gN l p n), .bool true]) ∧ w = w' := by
  obtain ⟨h1, h2⟩ := getA_gN (l := l) (p := p) hs (by rw [hr.len]; exact h)
  have := refget_any a len cap l p n w hr (by omega) (by omega)
  rwa [h1, h2] at this
theorem refget4_any (a : Option Addr) (len cap : Nat) (l : List Int) (p : Nat) (w : World) (hr : RdB w a len cap l) (hlen : len ≤ 1000000) (h : p + 4 ≤ len) :
    Calls Try.prog 35 #[.slice a len cap, .int .i64 p, .int .i64 4] w fun e w' => e = .returned (.tuple #[.int .u64 (gN l p 4), .bool true]) ∧ w = w' := refgetn_any a len cap l p 4 w hr hlen rfl h
theorem refget8_any (a : Option Addr) (len cap : Nat) (l : List Int) (p : Nat) (w : World) (hr : RdB w a len cap l) (hlen : len ≤ 1000000) (h : p + 8 ≤ len) :
    Calls Try.prog 35 #[.slice a len cap, .int .i64 p, .int .i64 8] w fun e w' => e = .returned (.tuple #[.int .u64 (gN l p 8), .bool true]) ∧ w = w' := refgetn_any a len cap l p 8 w hr hlen rfl h
theorem refu_any (a : Option Addr) (n c : Nat) (l : List Int) (p : Nat) (w : World) (hr : RdB w a n c l) (hn : n ≤ 1000000) (h : p + 8 ≤ n) :
    Calls Try.prog 36 #[.slice a n c, .int .u64 p] w fun e w' => e = .returned (.int .u64 (gN l p 8)) ∧ w = w' := by
  have hw : IntKind.i64.wrap (p : Int) = (p : Int) := by rw [IntKind.wrap_i64]; omega
  have HG := Lib.hid (refget8_any a n c l p w hr hn h)
  generalize gN l p 8 = v at *
  clear hr
  go_enter Try.func36, Try.ntmps36
  go_wp2_with (go_at_call 35; refine HG.out.mono ?_; rintro e w1 ⟨rfl, rfl⟩)
  go_ret
  exact ⟨rfl, rfl⟩

theorem id_next {D : List Int} (hD : D.length = 16) (k : Nat) (hk : k < 16) (x : Int) (hx : D[k]? = some x) : (D.take k ++ List.replicate (16 - k) 0).set k x = D.take (k + 1) ++ List.replicate (16 - (k + 1)) 0 := by
  have h1 : (D.take k).length = k := by simp; omega
  rw [List.set_append_right _ _ (by omega), h1, Nat.sub_self, show 16 - k = (16 - (k + 1)) + 1 by omega, List.replicate_succ, List.set_cons_zero, List.take_add_one, hx, List.append_assoc]
  rfl

set_option maxRecDepth 100000 in
set_option maxHeartbeats 4000000 in
theorem refid_any (a : Option Addr) (n c : Nat) (l : List Int) (p : Nat) (w : World) (hr : RdB w a n c l) (hn : n ≤ 1000000) (h : p + 16 ≤ n) :
    Calls Try.prog 34 #[.slice a n c, .int .i64 p] w fun e w' => e = .returned (.agg (((l.drop p).take 16).map (Value.int .u8)).toArray) ∧ Below w.heap.size w w' := by
  obtain rfl : l.length = n := hr.len
  obtain ⟨b, off, rfl, hbl, hcs⟩ := hr.2.at (by omega)
  have hDl : ((l.drop p).take 16).length = 16 := by simp; omega
  have hDat : ∀ k, k < 16 → ∃ x, l[p + k]? = some x ∧ ((l.drop p).take 16)[k]? = some x := fun k hk => ⟨l[p + k], List.getElem?_eq_getElem (by omega), by rw [List.getElem?_take, if_pos hk, List.getElem?_drop, List.getElem?_eq_getElem (by omega)]⟩
  have HDat := Lib.hid hDat
  have HDl := Lib.hid hDl
  have HCs := Lib.hid hcs
  generalize (l.drop p).take 16 = D at *
  clear hcs hDat hDl hr
  go_enter Try.func34, Try.ntmps34
  go_upto_region 1 with fail
  have hR1 := heap_alloc_new w (.cells #[Value.int .u8 0, Value.int .u8 0, Value.int .u8 0, Value.int .u8 0, Value.int .u8 0, Value.int .u8 0, Value.int .u8 0, Value.int .u8 0, Value.int .u8 0, Value.int .u8 0, Value.int .u8 0, Value.int .u8 0, Value.int .u8 0, Value.int .u8 0, Value.int .u8 0, Value.int .u8 0] 26)
  have HB1 := Lib.hid (below_alloc w (.cells #[Value.int .u8 0, Value.int .u8 0, Value.int .u8 0, Value.int .u8 0, Value.int .u8 0, Value.int .u8 0, Value.int .u8 0, Value.int .u8 0, Value.int .u8 0, Value.int .u8 0, Value.int .u8 0, Value.int .u8 0, Value.int .u8 0, Value.int .u8 0, Value.int .u8 0, Value.int .u8 0] 26))
  generalize w.alloc (.cells #[Value.int .u8 0, Value.int .u8 0, Value.int .u8 0, Value.int .u8 0, Value.int .u8 0, Value.int .u8 0, Value.int .u8 0, Value.int .u8 0, Value.int .u8 0, Value.int .u8 0, Value.int .u8 0, Value.int .u8 0, Value.int .u8 0, Value.int .u8 0, Value.int .u8 0, Value.int .u8 0] 26) = w1 at hR1 HB1 ⊢
  go_upto_region 2 with fail
  have hO2 : (w1.alloc (.cells #[Value.int .u8 0, Value.int .u8 0, Value.int .u8 0, Value.int .u8 0, Value.int .u8 0, Value.int .u8 0, Value.int .u8 0, Value.int .u8 0, Value.int .u8 0, Value.int .u8 0, Value.int .u8 0, Value.int .u8 0, Value.int .u8 0, Value.int .u8 0, Value.int .u8 0, Value.int .u8 0] 26)).heap[w1.heap.size]? = some (.cells ((D.take 0 ++ List.replicate (16 - 0) 0).map (Value.int .u8)).toArray 26 (0, 0)) := heap_alloc_new w1 _
  have HR2 := Lib.hid (row_below (below_alloc w1 (.cells #[Value.int .u8 0, Value.int .u8 0, Value.int .u8 0, Value.int .u8 0, Value.int .u8 0, Value.int .u8 0, Value.int .u8 0, Value.int .u8 0, Value.int .u8 0, Value.int .u8 0, Value.int .u8 0, Value.int .u8 0, Value.int .u8 0, Value.int .u8 0, Value.int .u8 0, Value.int .u8 0] 26)) (lt_of_heap hR1) hR1)
  have HB2 := Lib.hid (HB1.out.alloc HB1.out.size (.cells #[Value.int .u8 0, Value.int .u8 0, Value.int .u8 0, Value.int .u8 0, Value.int .u8 0, Value.int .u8 0, Value.int .u8 0, Value.int .u8 0, Value.int .u8 0, Value.int .u8 0, Value.int .u8 0, Value.int .u8 0, Value.int .u8 0, Value.int .u8 0, Value.int .u8 0, Value.int .u8 0] 26))
  generalize w1.alloc (.cells #[Value.int .u8 0, Value.int .u8 0, Value.int .u8 0, Value.int .u8 0, Value.int .u8 0, Value.int .u8 0, Value.int .u8 0, Value.int .u8 0, Value.int .u8 0, Value.int .u8 0, Value.int .u8 0, Value.int .u8 0, Value.int .u8 0, Value.int .u8 0, Value.int .u8 0, Value.int .u8 0] 26) = w2 at hO2 HR2 HB2 ⊢
  obtain ⟨R, hR⟩ : ∃ R, w.heap.size = R := ⟨_, rfl⟩
  have HRR := Lib.hid hR
  obtain ⟨O, hO⟩ : ∃ O, w1.heap.size = O := ⟨_, rfl⟩
  have hlt1 := lt_of_heap hR1
  rw [hO] at hO2 ⊢
  rw [hR] at HR2 ⊢
  have hRO : R < O := by omega
  have hbO : b < O := by omega
  have HO2 := Lib.hid hO2
  clear hR1 hO2 hR hO hlt1
  go_wp2_with fail
  go_loopw [6] (fun i wr => ∃ (k : Nat), k ≤ 16 ∧ i = .int .i64 (k : Int) ∧ wr.heap[O]? = some (.cells ((D.take k ++ List.replicate (16 - k) 0).map (Value.int .u8)).toArray 26 (0, 0)) ∧ Upd (· = O) w2 wr) (fun i _ => 16 - (intOf i).toNat)
  case atStart => exact ⟨0, Nat.zero_le _, rfl, HO2.out, Upd.refl _ _⟩
  case round =>
    obtain ⟨k, hk, rfl, hO, hU⟩ := hrel
    have HU := Lib.hid hU
    by_cases hlt : k < 16
    · have hlt' : (k : Int) < 16 := by omega
      obtain ⟨x, hx, hxd⟩ := HDat.out k hlt
      have hc := ucell hU (show ¬ (b = O) by omega) (bcell HB2.out hbl (HCs.out (p + k) x hx))
      have hlk : (D.take k ++ List.replicate (16 - k) (0 : Int)).length = 16 := by have := HDl.out; simp only [List.length_append, List.length_take, List.length_replicate]; omega
      obtain ⟨ov, hov⟩ : ∃ ov, (D.take k ++ List.replicate (16 - k) (0 : Int))[k]? = some ov := ⟨_, List.getElem?_eq_getElem (by omega)⟩
      have iO := cell_of_heap hO k (.int .u8 ov) (by rw [List.getElem?_toArray, List.getElem?_map, hov]; rfl)
      have fO := free_of_heap hO k
      have HOn := Lib.hid (row_set hO k (.int .u8 x))
      rw [List.setIfInBounds_toArray, ← List.map_set, id_next HDl.out k hlt x hxd] at HOn
      have HUn := Lib.hid (HU.out.trans (Upd.setCell (F := (· = O)) wr ⟨O, k, none⟩ (.int .u8 x) rfl) (fun _ _ h => h))
      have hpk : (p : Int) + (k : Int) < (l.length : Int) := by omega
      have hpk0 : (0 : Int) ≤ (p : Int) + (k : Int) := by omega
      clear hlk hov hxd hx hO hU HU
      go_wp2_with fail
      go_roundw
      case rel => exact ⟨k + 1, by omega, by congr 1, HOn.out, HUn.out⟩
      case measure => simp [intOf]; omega
    · obtain rfl : k = 16 := by omega
      have hge : ¬ ((16 : Int) < 16) := by omega
      rw [Nat.sub_self, List.replicate_zero, List.append_nil, List.take_of_length_le (by rw [HDl.out]; omega)] at hO
      have HOx := Lib.hid hO
      have HR3 := Lib.hid (row_upd hU (by omega) HR2.out)
      have HB3 := Lib.hid (HB2.out.trans (hU.below (B := w.heap.size) HB2.out.size (fun j hj => by have := HRR.out; omega)))
      have HSz := Lib.hid (show ((D.map (Value.int .u8)).toArray).size = 16 by simpa using HDl.out)
      clear hO hU HU
      go_wp2_with (first
        | (with_reducible refine wpList_loadS rfl rfl Try.idI rfl HOx.out HSz.out ?_)
        | (with_reducible refine wpList_storeS rfl rfl Try.idI rfl rfl HR3.out (by with_unfolding_all rfl) HSz.out (bytes_one D) ?_; intro w4 hX4 hu4))
      have HB4 := Lib.hid (HB3.out.trans (hu4.below HB3.out.size (fun j hj => by have := HRR.out; omega)))
      refine bodyPost_ret (v := .agg (D.map (Value.int .u8)).toArray) (results_S rfl Try.idI rfl hX4.out HSz.out) rfl ?_
      exact ⟨rfl, HB4.out⟩
end Go.Proofs.Ytpkmdnfkeebgbaa

/- What the Maker's data does. Conditions stand as premises. -/
namespace Go.Proofs.Ytpkmdnfkeebgbaa
open Go.ChangeShapes Go.WideShapes Go.ChangeAt Go.RowKit
set_option linter.unusedVariables false
set_option linter.unusedSimpArgs false

theorem putData_len (h0 : Int) (s : ByteArray) : (putO 1 (numsL [h0, 0, 0, 0, 0, 0] ++ strL s)).length = 64 + s.size + (8 - s.size % 8) % 8 := by
  unfold putO
  rw [if_pos (by omega), objL_length, List.length_append, numsL_length, strL_length]
  simp
  omega
theorem putData_isB (h0 : Int) (s : ByteArray) : IsB (putO 1 (numsL [h0, 0, 0, 0, 0, 0] ++ strL s)) := by
  unfold putO
  rw [if_pos (by omega)]
  exact objL_isB (by omega) ((numsL_isB _).append (strL_isB s))
/-- Which one it is; it may have been made. -/
def DataE (base M D F : Nat) (kd : Bool) (E : Nat) (x : Mk) (w : World) (e : Ending) (w' : World) : Prop :=
  ∃ (i : Nat) (x' : Mk), e = .returned (.int .i64 (i : Int)) ∧ i < x'.ds.length ∧ MI base M D F kd E x' w' ∧ Step M x w x' w' ∧ x'.m = x.m ∧ x'.ml = x.ml ∧ FsOK x'.bl.length F x'.fs ∧ DsOK x'.bl.length D x'.ds ∧ x'.fs.length ≤ x.fs.length + 1 ∧
    (x'.ds = x.ds ∨ ∃ q : Kn, x'.ds = x.ds ++ [q] ∧ q.count = 0 ∧ q.arr.1 = none) ∧ x.bl.length ≤ x'.bl.length ∧ x'.bl.length ≤ x.bl.length + 168 ∧ x'.bl.length % 8 = x.bl.length % 8

set_option maxRecDepth 100000 in
set_option maxHeartbeats 8000000 in
theorem data_lo {base M D F : Nat} {kd : Bool} {E : Nat} {x : Mk} {w : World} (h : MI base M D F kd E x w) (p : PB) (hp : PairOK p) (hF : FsOK x.bl.length F x.fs) (hD : DsOK x.bl.length D x.ds) (hfn : x.fs.length ≤ 1000) (hdn : x.ds.length ≤ 1000) (hl : x.bl.length ≤ 80000) (hT : 304 + 16 * D + 16 * F ≤ x.bl.length) (hb : base ≤ w.heap.size) :
    Calls Try.prog 51 #[.pointer (some ⟨M, 0, none⟩), .agg #[.string p.1, .string p.2]] w (DataE base M D F kd E x w) := by
  have H := Lib.hid h
  have HFs := Lib.hid hF
  have HDs := Lib.hid hD
  have hdl : x.ds.length = x.d.2.1 := h.dO.1
  obtain ⟨hp1, hp2⟩ := hp
  clear h hF hD
  go_enter Try.func51, Try.ntmps51
  have hX0 := heap_alloc_new w (.cells #[.string p.1, .string p.2] 108)
  have HB0 := Lib.hid (below_alloc w (.cells #[.string p.1, .string p.2] 108))
  go_upto_region 1 with fail
  obtain ⟨X, hX⟩ : ∃ X, w.heap.size = X := ⟨_, rfl⟩
  have HX := Lib.hid hX
  generalize w.alloc (.cells #[.string p.1, .string p.2] 108) = w0 at hX0 HB0 ⊢
  rw [hX] at hX0 ⊢
  have HX0 := Lib.hid hX0
  have hr0 : w0.rangeAt X 0 (encPB p) := fun j v hv => cell_of_heap hX0 (0 + j) v (by rw [Nat.zero_add]; have h2 : [Value.string p.1, Value.string p.2][j]? = some v := hv; simpa using h2)
  have hX0l := lt_of_heap hX0
  clear hX hX0
  go_wp2_with (with_reducible refine wpList_loadK rfl rfl Try.pairI rfl hr0 encPB_E ?_)
  refine (payload_lo p.1 p.2 (by omega) (by omega) _).mono ?_
  rintro e w1 ⟨s, rfl, hs, hb1⟩
  have HB1 := Lib.hid (HB0.out.trans (hb1.mono HB0.out.size))
  have HX1 := Lib.hid (row_below hb1 hX0l HX0.out)
  have hws : w.heap.size ≤ w1.heap.size := HB1.out.size
  have hs49 : s.size ≤ 49 := by omega
  clear hb1 hr0 hs
  have HM1 := Lib.hid (H.out.below HB1.out)
  have HS1 := Lib.hid (Step.below (M := M) (x := x) HB1.out)
  go_wp2_with fail
  go_loopw [6] (fun i_ wr => ∃ i : Nat, i_ = .int .i64 (i : Int) ∧ i ≤ x.ds.length ∧ wr = w1) (fun i_ _ => x.ds.length - (intOf i_).toNat)
  case atStart => exact ⟨0, rfl, Nat.zero_le _, rfl⟩
  case round =>
    obtain ⟨i, rfl, hi, rfl⟩ := hrel
    have cf := HM1.out.cd
    by_cases hlt : i < x.d.2.1
    · have hlt' : (i : Int) < (x.d.2.1 : Int) := by omega
      have hi0 : (0 : Int) ≤ (i : Int) := by omega
      obtain ⟨b, off, hab, hbl, hcs⟩ := (HM1.out.dO.rd encKn_E).at (by omega)
      obtain ⟨y, hy⟩ : ∃ y, x.ds[i]? = some y := ⟨_, List.getElem?_eq_getElem (by omega)⟩
      have c0 : wr.cell? ⟨b, off + i * 5, none⟩ = some (.string y.text) := hcs i y hy 0 _ rfl
      rw [hab] at cf
      clear hcs hy hab
      rcases he : (y.text.toList == s.toList) with _ | _
      · go_wp2_with fail
        go_roundw
        case rel => exact ⟨i + 1, by congr 1, by omega, trivial⟩
        case measure => simp [intOf]; omega
      · go_wp2_with fail
        go_ret
        exact ⟨i, x, rfl, by omega, HM1.out, HS1.out, rfl, rfl, HFs.out, HDs.out, by omega, .inl rfl, Nat.le_refl _, by omega, rfl⟩
    · obtain rfl : i = x.ds.length := by omega
      have hge : ¬ ((x.d.2.1 : Int) < (x.d.2.1 : Int)) := by omega
      have hge2 : ¬ ((x.ds.length : Int) < (x.d.2.1 : Int)) := by omega
      go_upto_region 7 with fail
      obtain ⟨B, hBB, hBl, hBA⟩ := HM1.out.file
      have HBB := Lib.hid hBB
      have HBl := Lib.hid hBl
      have hC : wr.drew.cell? ⟨M, 51, none⟩ = some (.bool kd) ∧ AtB wr.drew M 0 B := ⟨HM1.out.cK, hBA⟩
      have hMl : M < wr.drew.heap.size := lt_of_heap HM1.out.row
      have HBd := Lib.hid (below_drew wr)
      clear hBA cf hBB hBl
      refine wp_region_held (S := fun w' => w'.cell? ⟨M, 51, none⟩ = some (.bool kd) ∧ AtB w' M 0 B) (by kernel_rfl) ?_
      change wpAnyH _ _ _ _ _ _ _ _ wr.drew
      generalize wr.drew = wd at hC hMl HBd ⊢
      refine held_take 0 (d := some 36) (v := (.pointer (some ⟨M, 0, none⟩))) rfl rfl (by kernel_rfl) (by kernel_rfl) (by kernel_rfl) (fun _ _ _ h => h) hC (by kernel_rfl) (fun w hSw => by obtain ⟨x0, x1⟩ := hSw; go_simp) ?_
      try simp only [Act.put, List.setIfInBounds_toArray, List.set_cons_zero, List.set_cons_succ]
      refine held_take 1 (d := some 37) (v := (.pointer (some ⟨M, 0, none⟩))) rfl rfl (by kernel_rfl) (by kernel_rfl) (by kernel_rfl) (fun _ _ _ h => h) hC (by kernel_rfl) (fun w hSw => by obtain ⟨x0, x1⟩ := hSw; go_simp) ?_
      try simp only [Act.put, List.setIfInBounds_toArray, List.set_cons_zero, List.set_cons_succ]
      refine held_take 2 (d := some 38) (v := (.pointer (some ⟨M, 0, none⟩))) rfl rfl (by kernel_rfl) (by kernel_rfl) (by kernel_rfl) (fun _ _ _ h => h) hC (by kernel_rfl) (fun w hSw => by obtain ⟨x0, x1⟩ := hSw; go_simp) ?_
      try simp only [Act.put, List.setIfInBounds_toArray, List.set_cons_zero, List.set_cons_succ]
      refine held_take 3 (d := some 39) (v := (.pointer (some ⟨M, 51, none⟩))) rfl rfl (by kernel_rfl) (by kernel_rfl) (by kernel_rfl) (fun _ _ _ h => h) hC (by kernel_rfl) (fun w hSw => by obtain ⟨x0, x1⟩ := hSw; go_simp) ?_
      try simp only [Act.put, List.setIfInBounds_toArray, List.set_cons_zero, List.set_cons_succ]
      refine held_take 4 (d := some 40) (v := (.bool kd)) rfl rfl (by kernel_rfl) (by kernel_rfl) (by kernel_rfl) (fun _ _ _ h => h) hC (by kernel_rfl) (fun w hSw => by obtain ⟨x0, x1⟩ := hSw; go_simp) ?_
      try simp only [Act.put, List.setIfInBounds_toArray, List.set_cons_zero, List.set_cons_succ]
      refine held_take 5 (d := some 41) (v := (.pointer (some ⟨M, 0, none⟩))) rfl rfl (by kernel_rfl) (by kernel_rfl) (by kernel_rfl) (fun _ _ _ h => h) hC (by kernel_rfl) (fun w hSw => by obtain ⟨x0, x1⟩ := hSw; go_simp) ?_
      try simp only [Act.put, List.setIfInBounds_toArray, List.set_cons_zero, List.set_cons_succ]
      refine held_take 6 (d := some 42) (v := (.pointer (some ⟨M, 0, none⟩))) rfl rfl (by kernel_rfl) (by kernel_rfl) (by kernel_rfl) (fun _ _ _ h => h) hC (by kernel_rfl) (fun w hSw => by obtain ⟨x0, x1⟩ := hSw; go_simp) ?_
      try simp only [Act.put, List.setIfInBounds_toArray, List.set_cons_zero, List.set_cons_succ]
      refine held_take 7 (d := some 43) (v := (.pointer (some ⟨M, 0, none⟩))) rfl rfl (by kernel_rfl) (by kernel_rfl) (by kernel_rfl) (fun _ _ _ h => h) hC (by kernel_rfl) (fun w hSw => by obtain ⟨x0, x1⟩ := hSw; go_simp) ?_
      try simp only [Act.put, List.setIfInBounds_toArray, List.set_cons_zero, List.set_cons_succ]
      refine held_take 8 (d := some 44) (v := (.pointer (some ⟨M, 0, none⟩))) rfl rfl (by kernel_rfl) (by kernel_rfl) (by kernel_rfl) (fun _ _ _ h => h) hC (by kernel_rfl) (fun w hSw => by obtain ⟨x0, x1⟩ := hSw; go_simp) ?_
      try simp only [Act.put, List.setIfInBounds_toArray, List.set_cons_zero, List.set_cons_succ]
      refine held_take 9 (d := some 45) (v := (.agg (B.map (Value.int .u8)).toArray)) rfl rfl (by kernel_rfl) (by kernel_rfl) (by kernel_rfl) (fun _ _ _ h => h) hC (by kernel_rfl) (fun w hSw => by exact exec_loadB rfl Try.idT rfl hSw.2 HBl.out) ?_
      try simp only [Act.put, List.setIfInBounds_toArray, List.set_cons_zero, List.set_cons_succ]
      refine held_take 10 (d := some 46) (v := (.string s)) rfl rfl (by kernel_rfl) (by kernel_rfl) (by kernel_rfl) (fun _ _ _ h => h) hC (by kernel_rfl) (fun w hSw => by obtain ⟨x0, x1⟩ := hSw; go_simp) ?_
      try simp only [Act.put, List.setIfInBounds_toArray, List.set_cons_zero, List.set_cons_succ]
      refine held_one 11 rfl (by kernel_rfl) (fun K hK => ?_)
      refine step_strBytes (s := s) rfl rfl Try.underlying9 Try.underlying22 Try.underlying5 rfl (by omega) ?_
      intro a4 c4 w4 hr4 hb4 hf4
      have hC4 : w4.cell? ⟨M, 51, none⟩ = some (.bool kd) ∧ AtB w4 M 0 B := ⟨bcell hb4 hMl hC.1, range_below hC.2 hb4 hMl⟩
      have hM4 : M < w4.heap.size := Nat.lt_of_lt_of_le hMl hb4.size
      refine hK _ _ hC4 ?_
      clear hK K
      try simp only [Act.put, List.setIfInBounds_toArray, List.set_cons_zero, List.set_cons_succ]
      refine held_one 12 rfl (by kernel_rfl) (fun K hK => ?_)
      go_simp
      go_at_call 52
      refine (hashof_lo kd B _ _ _ (strL s) _ HBB.out HBl.out hr4 (by omega)).mono ?_
      rintro e w5 ⟨v, rfl, hv, hb5⟩
      have hC5 : w5.cell? ⟨M, 51, none⟩ = some (.bool kd) ∧ AtB w5 M 0 B := ⟨bcell hb5 hM4 hC4.1, range_below hC4.2 hb5 hM4⟩
      have HB5 := Lib.hid (HBd.out.trans ((hb4.mono HBd.out.size).trans (hb5.mono (Nat.le_trans HBd.out.size hb4.size))))
      have HM5 := Lib.hid (HM1.out.below HB5.out)
      have HS5 := Lib.hid (Step.below (M := M) (x := x) HB5.out)
      clear hr4 hb4 hf4 hb5 hC hMl HBd hM4
      go_simp
      refine hK _ _ hC5 ?_
      clear hK K hC4
      try simp only [Act.put, List.setIfInBounds_toArray, List.set_cons_zero, List.set_cons_succ]
      refine held_take 13 (d := some 7) (v := (.int .u64 v)) rfl rfl (by kernel_rfl) (by kernel_rfl) (by kernel_rfl) (fun _ _ _ h => h) hC5 (by kernel_rfl) (fun w hSw => by clear hSw; go_simp) ?_
      try simp only [Act.put, List.setIfInBounds_toArray, List.set_cons_zero, List.set_cons_succ]
      refine wpAnyH_done (by kernel_rfl) ?_ _
      clear hC5
      have hpl := putData_len v s
      have HPB := Lib.hid (putData_isB v s)
      have HPF := Lib.hid (fun (aq : Option Addr) (cq : Nat) (w' : World) (hq : RdB w' aq s.size cq (strL s)) => refputdata_any v 0 0 0 0 0 aq s.size cq (strL s) w' hq (by omega) hv ⟨by omega, by omega⟩ ⟨by omega, by omega⟩ ⟨by omega, by omega⟩ ⟨by omega, by omega⟩ ⟨by omega, by omega⟩)
      unfold NewB at HPF
      rw [hpl] at HPF
      generalize putO 1 (numsL [v, 0, 0, 0, 0, 0] ++ strL s) = PF at HPF hpl HPB
      obtain ⟨N, hN⟩ : ∃ N, 64 + s.size + (8 - s.size % 8) % 8 = N := ⟨_, rfl⟩
      have hN1 : N ≤ 120 ∧ N % 8 = 0 ∧ 64 ≤ N := by omega
      rw [hN] at HPF hpl
      have Hpl := Lib.hid hpl
      clear hN hpl
      obtain ⟨hN2, hN3, hN4⟩ := hN1
      have hbr : base ≤ wr.heap.size := Nat.le_trans hb hws
      have hFr := HM1.out.cfg.dr
      have hwF : IntKind.u64.wrap (D : Int) = (D : Int) := by rw [IntKind.wrap_u64]; omega
      have hF0 : ¬ (D : Int) = 0 := by omega
      obtain ⟨S, hS, hSF⟩ : ∃ S : Nat, Int.tmod v (D : Int) = (S : Int) ∧ S < D := by
        obtain ⟨V, hV⟩ := Int.eq_ofNat_of_zero_le hv.1
        refine ⟨V % D, ?_, Nat.mod_lt _ (by omega)⟩
        rw [hV]; rfl
      have hwS : IntKind.u64.wrap (S : Int) = (S : Int) := by rw [IntKind.wrap_u64]; omega
      have hwS2 : IntKind.i64.wrap (S : Int) = (S : Int) := by rw [IntKind.wrap_i64]; omega
      go_upto_region 10 with (first
        | (with_reducible refine wpList_strBytes rfl rfl Try.underlying9 Try.underlying22 Try.underlying5 rfl (by omega) ?_; intro a6 c6 w6 hr6 hb6 hf6; have HR6 := Lib.hid hr6; have HB6 := Lib.hid (HB5.out.trans (hb6.mono HB5.out.size)); clear hr6 hb6 hf6)
        | (go_at_call 62; go_loud (refine (HPF.out _ _ _ HR6.out).mono ?_; rintro e w7 ⟨a7, c7, rfl, ho7, hb7⟩; have HB7 := Lib.hid (HB6.out.trans (hb7.mono HB6.out.size)); have HR7 := Lib.hid ho7.rd; have HM7 := Lib.hid (HM1.out.below HB7.out); clear ho7 hb7))
        | (go_at_call 53; go_loud (refine (object_lo HM7.out _ _ _ PF HR7.out (by omega) (by omega) (Nat.le_trans hbr HB7.out.size)).mono ?_; rintro e w8 ⟨rfl, b8, hd8, hm8, hu8, hn8⟩; have HM8 := Lib.hid hm8; have HS8 := Lib.hid ((Step.below (M := M) (x := x) HB7.out).trans (Step.ofB (bl := x.bl ++ PF) (hd := hd8) (dp := x.dp) (b := b8) hu8 hn8)); have c48 := hm8.cD; clear hm8 hu8 hn8)))
      clear c48 HB5 HM5 HS5 HB6 HR6 HB7 HR7 HM7 HPF HPB hwF hF0 hS
      have HL8 := Lib.hid (show (x.bl ++ PF).length = x.bl.length + N by rw [List.length_append, Hpl.out])
      have HM9 := Lib.hid (HM8.out.below (below_drew w8))
      have HS9 := Lib.hid (HS8.out.trans (Step.below (below_drew w8)))
      have hC : w8.drew.cell? ⟨M, 144, none⟩ = some (.slice x.d.1 x.d.2.1 x.d.2.2) ∧ w8.drew.cell? ⟨M, 121, none⟩ = some (.int .u64 288) := ⟨HM9.out.cd, HM9.out.cNk 2 _ (fun Ns h => h.n2)⟩
      refine wp_region_held (S := fun w' => w'.cell? ⟨M, 144, none⟩ = some (.slice x.d.1 x.d.2.1 x.d.2.2) ∧ w'.cell? ⟨M, 121, none⟩ = some (.int .u64 288)) (by kernel_rfl) ?_
      change wpAnyH _ _ _ _ _ _ _ _ w8.drew
      generalize w8.drew = w9 at hC HM9 HS9 ⊢
      clear HM8 HS8
      refine held_take 0 (d := some 65) (v := (.pointer (some ⟨M, 0, none⟩))) rfl rfl (by kernel_rfl) (by kernel_rfl) (by kernel_rfl) (fun _ _ _ h => h) hC (by kernel_rfl) (fun w hSw => by obtain ⟨x1, x2⟩ := hSw; go_simp) ?_
      try simp only [Act.put, List.setIfInBounds_toArray, List.set_cons_zero, List.set_cons_succ]
      refine held_take 1 (d := some 66) (v := (.pointer (some ⟨M, 0, none⟩))) rfl rfl (by kernel_rfl) (by kernel_rfl) (by kernel_rfl) (fun _ _ _ h => h) hC (by kernel_rfl) (fun w hSw => by obtain ⟨x1, x2⟩ := hSw; go_simp) ?_
      try simp only [Act.put, List.setIfInBounds_toArray, List.set_cons_zero, List.set_cons_succ]
      refine held_take 2 (d := some 67) (v := (.pointer (some ⟨M, 0, none⟩))) rfl rfl (by kernel_rfl) (by kernel_rfl) (by kernel_rfl) (fun _ _ _ h => h) hC (by kernel_rfl) (fun w hSw => by obtain ⟨x1, x2⟩ := hSw; go_simp) ?_
      try simp only [Act.put, List.setIfInBounds_toArray, List.set_cons_zero, List.set_cons_succ]
      refine held_take 3 (d := some 68) (v := (.pointer (some ⟨M, 144, none⟩))) rfl rfl (by kernel_rfl) (by kernel_rfl) (by kernel_rfl) (fun _ _ _ h => h) hC (by kernel_rfl) (fun w hSw => by obtain ⟨x1, x2⟩ := hSw; go_simp) ?_
      try simp only [Act.put, List.setIfInBounds_toArray, List.set_cons_zero, List.set_cons_succ]
      refine held_take 4 (d := some 69) (v := (.slice x.d.1 x.d.2.1 x.d.2.2)) rfl rfl (by kernel_rfl) (by kernel_rfl) (by kernel_rfl) (fun _ _ _ h => h) hC (by kernel_rfl) (fun w hSw => by obtain ⟨x1, x2⟩ := hSw; go_simp) ?_
      try simp only [Act.put, List.setIfInBounds_toArray, List.set_cons_zero, List.set_cons_succ]
      refine held_take 5 (d := some 70) (v := (.pointer (some ⟨M, 0, none⟩))) rfl rfl (by kernel_rfl) (by kernel_rfl) (by kernel_rfl) (fun _ _ _ h => h) hC (by kernel_rfl) (fun w hSw => by obtain ⟨x1, x2⟩ := hSw; go_simp) ?_
      try simp only [Act.put, List.setIfInBounds_toArray, List.set_cons_zero, List.set_cons_succ]
      refine held_take 6 (d := some 71) (v := (.pointer (some ⟨M, 0, none⟩))) rfl rfl (by kernel_rfl) (by kernel_rfl) (by kernel_rfl) (fun _ _ _ h => h) hC (by kernel_rfl) (fun w hSw => by obtain ⟨x1, x2⟩ := hSw; go_simp) ?_
      try simp only [Act.put, List.setIfInBounds_toArray, List.set_cons_zero, List.set_cons_succ]
      refine held_take 7 (d := some 72) (v := (.pointer (some ⟨M, 52, none⟩))) rfl rfl (by kernel_rfl) (by kernel_rfl) (by kernel_rfl) (fun _ _ _ h => h) hC (by kernel_rfl) (fun w hSw => by obtain ⟨x1, x2⟩ := hSw; go_simp) ?_
      try simp only [Act.put, List.setIfInBounds_toArray, List.set_cons_zero, List.set_cons_succ]
      refine held_take 8 (d := some 73) (v := (.pointer (some ⟨M, 119, none⟩))) rfl rfl (by kernel_rfl) (by kernel_rfl) (by kernel_rfl) (fun _ _ _ h => h) hC (by kernel_rfl) (fun w hSw => by obtain ⟨x1, x2⟩ := hSw; go_simp) ?_
      try simp only [Act.put, List.setIfInBounds_toArray, List.set_cons_zero, List.set_cons_succ]
      refine held_take 9 (d := some 74) (v := (.pointer (some ⟨M, 121, none⟩))) rfl rfl (by kernel_rfl) (by kernel_rfl) (by kernel_rfl) (fun _ _ _ h => h) hC (by kernel_rfl) (fun w hSw => by obtain ⟨x1, x2⟩ := hSw; go_simp) ?_
      try simp only [Act.put, List.setIfInBounds_toArray, List.set_cons_zero, List.set_cons_succ]
      refine held_take 10 (d := some 75) (v := (.int .u64 288)) rfl rfl (by kernel_rfl) (by kernel_rfl) (by kernel_rfl) (fun _ _ _ h => h) hC (by kernel_rfl) (fun w hSw => by obtain ⟨x1, x2⟩ := hSw; go_simp) ?_
      try simp only [Act.put, List.setIfInBounds_toArray, List.set_cons_zero, List.set_cons_succ]
      refine held_take 11 (d := some 76) (v := (.int .u64 (x.bl.length : Int))) rfl rfl (by kernel_rfl) (by kernel_rfl) (by kernel_rfl) (fun _ _ _ h => h) hC (by kernel_rfl) (fun w hSw => by obtain ⟨x1, x2⟩ := hSw; go_simp) ?_
      try simp only [Act.put, List.setIfInBounds_toArray, List.set_cons_zero, List.set_cons_succ]
      refine held_take 12 (d := some 77) (v := (.int .i64 (S : Int))) rfl rfl (by kernel_rfl) (by kernel_rfl) (by kernel_rfl) (fun _ _ _ h => h) hC (by kernel_rfl) (fun w hSw => by obtain ⟨x1, x2⟩ := hSw; go_simp) ?_
      try simp only [Act.put, List.setIfInBounds_toArray, List.set_cons_zero, List.set_cons_succ]
      have HH := hang_lo HM9.out x.d.1 x.d.2.1 x.d.2.2 x.ds (HM9.out.dO.rd encKn_E) (fun k hk => by have := (HDs.out k hk).1; show k.pl + 32 ≤ (x.bl ++ PF).length; rw [HL8.out]; omega) (by omega) 288 S (by show _ ≤ (x.bl ++ PF).length; rw [HL8.out]; omega) (x.bl.length : Int) ⟨by omega, by omega⟩ (by show (x.bl ++ PF).length ≤ _; rw [HL8.out]; omega)
      rw [show ((288 : Nat) : Int) = 288 from rfl] at HH
      have HH := Lib.hid HH
      refine held_one 13 rfl (by kernel_rfl) (fun K hK => ?_)
      go_simp
      go_at_call 63
      refine HH.out.mono ?_
      rintro e w10 ⟨k, rfl, hk, l10, hl10, hm10, hu10⟩
      have hC10 : w10.cell? ⟨M, 144, none⟩ = some (.slice x.d.1 x.d.2.1 x.d.2.2) ∧ w10.cell? ⟨M, 121, none⟩ = some (.int .u64 288) := ⟨hm10.cd, hm10.cNk 2 _ (fun Ns h => h.n2)⟩
      have HM10 := Lib.hid hm10
      have HU10 := Lib.hid (hu10.mono (G := fun q => q = M ∨ q ∈ blk b8.1) (fun q _ hq => .inr hq))
      clear HH hm10 hu10
      go_simp
      refine hK _ _ hC10 ?_
      clear hK K hC
      try simp only [Act.put, List.setIfInBounds_toArray, List.set_cons_zero, List.set_cons_succ]
      refine held_take 14 (d := some 10) (v := (.int .u64 (k : Int))) rfl rfl (by kernel_rfl) (by kernel_rfl) (by kernel_rfl) (fun _ _ _ h => h) hC10 (by kernel_rfl) (fun w hSw => by clear hSw; go_simp) ?_
      try simp only [Act.put, List.setIfInBounds_toArray, List.set_cons_zero, List.set_cons_succ]
      refine wpAnyH_done (by kernel_rfl) ?_ _
      have HS10 := Lib.hid (HS9.out.trans (Step.ofB (bl := l10) (hd := hd8) (dp := x.dp) (b := b8) (x := { x with b := b8, bl := x.bl ++ PF, hd := hd8 }) HU10.out (fun q hq => .inl hq)))
      clear hC10 HS9 HM9 HU10
      obtain ⟨v19, hv19, hu19⟩ := HM10.out.cN 19 (by omega)
      have f19 := HM10.out.free 138
      have hd2 : U64 (if v19 < (k : Int) then (k : Int) else v19) := by
        split
        · exact ⟨by omega, by omega⟩
        · exact hu19
      have hM11 := HM10.out.setN 19 (if v19 < (k : Int) then (k : Int) else v19) (by omega) (by omega) (by omega) (by omega) (by omega) (by omega) (by omega) hd2
      have HU11 := Lib.hid (Upd.setCell (F := fun q => q = M ∨ q ∈ blk b8.1) w10 ⟨M, 138, none⟩ (.int .u64 (if v19 < (k : Int) then (k : Int) else v19)) (.inl rfl))
      simp only [Nat.reduceAdd] at hv19 hM11
      have HM11 := Lib.hid hM11
      clear hM11
      go_upto_region 11 with fail
      go_region
      have HM11 := Lib.hid (HM11.out.below (below_drew _))
      have HU11 := Lib.hid HU11.out.drew
      generalize (w10.setCell ⟨M, 138, none⟩ (.int .u64 (if v19 < (k : Int) then (k : Int) else v19))).drew = w11 at HM11 HU11 ⊢
      generalize (if v19 < (k : Int) then (k : Int) else v19) = d19 at HM11 hd2 ⊢
      have HS11 := Lib.hid (HS10.out.trans (Step.ofB (bl := l10) (hd := hd8.set 86 (.int .u64 d19)) (dp := x.dp) (b := b8) (x := { x with b := b8, bl := l10, hd := hd8 }) HU11.out (fun q hq => .inl hq)))
      clear hv19 f19 HM10 HS10 HU11
      obtain ⟨v15, hv15, hu15⟩ := HM11.out.cN 15 (by omega)
      have f15 := HM11.out.free 134
      have hM12 := HM11.out.setN 15 (IntKind.u64.wrap (v15 + 1)) (by omega) (by omega) (by omega) (by omega) (by omega) (by omega) (by omega) ⟨by rw [IntKind.wrap_u64]; omega, by rw [IntKind.wrap_u64]; omega⟩
      have HU12 := Lib.hid (Upd.setCell (F := fun q => q = M ∨ q ∈ blk b8.1) w11 ⟨M, 134, none⟩ (.int .u64 (IntKind.u64.wrap (v15 + 1))) (.inl rfl))
      simp only [Nat.reduceAdd] at hv15 hM12
      obtain ⟨v150, v151⟩ := hu15
      have HM12 := Lib.hid hM12
      clear hM12
      go_upto_region 12 with fail
      go_region
      have HM13 := Lib.hid (HM12.out.below (below_drew _))
      have HU13 := Lib.hid HU12.out.drew
      generalize (w11.setCell ⟨M, 134, none⟩ (.int .u64 (IntKind.u64.wrap (v15 + 1)))).drew = w13 at HM13 HU13 ⊢
      have HS13 := Lib.hid (HS11.out.trans (Step.ofB (bl := l10) (hd := (hd8.set 86 (.int .u64 d19)).set 82 (.int .u64 (IntKind.u64.wrap (v15 + 1)))) (dp := x.dp) (b := b8) (x := { x with b := b8, bl := l10, hd := hd8.set 86 (.int .u64 d19) }) HU13.out (fun q hq => .inl hq)))
      clear hv15 f15 HM12 HU12 HM11 HS11 HU13
      generalize (hd8.set 86 (.int .u64 d19)).set 82 (.int .u64 (IntKind.u64.wrap (v15 + 1))) = hd13 at HM13 HS13
      have cf13 := HM13.out.cd
      have f145 := HM13.out.free 144
      have HB14 := Lib.hid (below_alloc w13 (.cells #[.string s, .int .u64 (x.bl.length : Int), .int .i64 (S : Int), .int .i64 0, .slice none 0 0] 110))
      have HR14 := Lib.hid (RdK.one encKn_E 110 w13 ⟨s, x.bl.length, S, 0, (none, 0, 0), []⟩ #[.string s, .int .u64 (x.bl.length : Int), .int .i64 (S : Int), .int .i64 0, .slice none 0 0] rfl)
      have HM14 := Lib.hid (HM13.out.below HB14.out)
      have hz14 : base ≤ (w13.alloc (.cells #[.string s, .int .u64 (x.bl.length : Int), .int .i64 (S : Int), .int .i64 0, .slice none 0 0] 110)).heap.size := by have h1 := (lt_of_heap HM14.out.row); have := HM14.out.bM; omega
      go_upto_region 14 with (at_builtin; go_must (refine wpList_appK encKn_E rfl rfl Try.knK rfl rfl HM14.out.dO HR14.out (by omega) (by omega) (by omega) hz14 ?_); intro a15 c15 w15 ho15 hu15 hn15; have c15M := ucell hu15 HM14.out.nd HM14.out.cd; have f15M := ufree hu15 (lt_of_heap HM14.out.row) HM14.out.nd (HM14.out.free 144))
      have HM16 := Lib.hid (HM14.out.newD ho15 (fun q hq => by
        rcases List.mem_append.1 hq with hq | hq
        · exact HM14.out.arr q hq
        · rw [List.mem_singleton.1 hq]; exact ⟨⟨rfl, Nat.le_refl _, Nat.zero_le _, fun _ => rfl, .inl rfl⟩, (fun v hv => by cases hv), (fun z hz => by cases hz)⟩) hu15 hn15)
      have HSD := Lib.hid ((Step.below (M := M) (x := { x with b := b8, bl := l10, hd := hd13 }) HB14.out).trans (Step.ofD (x := { x with b := b8, bl := l10, hd := hd13 }) (d := (a15, x.d.2.1 + 1, c15)) (ds := x.ds ++ [⟨s, x.bl.length, S, 0, (none, 0, 0), []⟩]) ((hu15.mono (G := fun q => q ∈ blk x.d.1 ∨ q = M) (fun q _ hq => .inl hq)).trans (Upd.setCell (F := (· = M)) w15 ⟨M, 144, none⟩ (.slice a15 (x.d.2.1 + 1) c15) rfl) (fun q _ hq => .inr hq)) hn15))
      have HL10 := Lib.hid (show l10.length = x.bl.length + N from hl10.trans HL8.out)
      have HS16 := Lib.hid (HS13.out.trans HSD.out)
      clear ho15 hu15 hn15 HM14 HM13 HR14 HB14 cf13 f145 hz14 hl10 HS13 HSD c15M f15M
      generalize w15.setCell ⟨M, 144, none⟩ (.slice a15 (x.d.2.1 + 1) c15) = w16 at HM16 HS16 ⊢
      have hXn : X ∉ mset M x := fun hk => by have := (mset_lt H.out _ hk).2; have := HX.out; omega
      have hX16 := cell_of_heap (row_upd HS16.out.upd hXn HX1.out) 0 (.string p.1) rfl
      have hl10 := HL10.out
      have hb16 : base ≤ w16.heap.size := Nat.le_trans hbr HS16.out.upd.size
      have HFl := Lib.hid (field_lo HM16.out p.1 hp1 (HFs.out.grow (by show _ ≤ l10.length; omega)) hfn (by show l10.length ≤ _; omega) (by show _ ≤ l10.length; omega) hb16)
      go_wp2_with fail
      refine HFl.out.mono ?_
      rintro e w17 ⟨kf, x17, rfl, hk17, hm17, hs17, hd17, hds17, hmm17, hml17, hfs17, hfn17, hl17a, hl17b, hl17c⟩
      have hl17a : l10.length ≤ x17.bl.length := hl17a
      have hl17b : x17.bl.length ≤ l10.length + 48 := hl17b
      have hl17c : x17.bl.length % 8 = l10.length % 8 := hl17c
      have hfn17 : x17.fs.length ≤ x.fs.length + 1 := hfn17
      have HM17 := Lib.hid hm17
      have HS17 := Lib.hid (HS16.out.trans hs17)
      have HD17 := Lib.hid (show x17.d = (a15, x.d.2.1 + 1, c15) from hd17)
      have HDs17 := Lib.hid (show x17.ds = x.ds ++ [⟨s, x.bl.length, S, 0, (none, 0, 0), []⟩] from hds17)
      have HMm17 := Lib.hid (show x17.m = x.m from hmm17)
      have HMl17 := Lib.hid (show x17.ml = x.ml from hml17)
      have HFs17 := Lib.hid hfs17
      have cb17 := hm17.cb
      have hbl17 : x17.bl.length = x17.b.2.1 := hm17.bO.1
      clear hm17 hs17 hd17 hds17 hmm17 hml17 hfs17 HFl hX16 HM16 HS16
      have hw32 : IntKind.u64.wrap ((kf : Int) + 32) = (kf : Int) + 32 := by rw [IntKind.wrap_u64]; omega
      have hw32i : IntKind.i64.wrap ((kf : Int) + 32) = (kf : Int) + 32 := by rw [IntKind.wrap_i64]; omega
      have hwa : IntKind.u64.wrap ((x.bl.length : Int) + 32) = (x.bl.length : Int) + 32 := by rw [IntKind.wrap_u64]; omega
      have HG := Lib.hid (refget8_any x17.b.1 x17.b.2.1 x17.b.2.2 x17.bl (kf + 32) w17 ⟨HM17.out.bB, HM17.out.bO.rd⟩ (by omega) (by omega))
      have hgu : U64 (gN x17.bl (kf + 32) 8) := by exact gN_u64 HM17.out.bB (kf + 32)
      generalize gN x17.bl (kf + 32) 8 = old at HG hgu
      rw [show ((kf + 32 : Nat) : Int) = (kf : Int) + 32 by omega] at HG
      have HP1 := Lib.hid (put_lo HM17.out (x.bl.length + 32) old (by omega) (by omega) hgu)
      rw [show ((x.bl.length + 32 : Nat) : Int) = (x.bl.length : Int) + 32 by omega] at HP1
      go_wp2_with fail
      refine HG.out.mono ?_
      rintro e w18 ⟨rfl, rfl⟩
      go_wp2_with fail
      refine HP1.out.mono ?_
      rintro e w18 ⟨rfl, l18, hl18, hm18, hu18⟩
      have HM18 := Lib.hid hm18
      have HP2 := Lib.hid (put_lo hm18 (kf + 32) (x.bl.length : Int) (by show _ ≤ l18.length; omega) (by show l18.length ≤ _; omega) ⟨by omega, by omega⟩)
      rw [show ((kf + 32 : Nat) : Int) = (kf : Int) + 32 by omega] at HP2
      have HU18 := Lib.hid hu18
      clear hm18 hu18 cb17
      go_wp2_with fail
      refine HP2.out.mono ?_
      rintro e w19 ⟨rfl, l19, hl19, hm19, hu19⟩
      have HM19 := Lib.hid hm19
      have cd19 : w19.cell? ⟨M, 144, none⟩ = some (.slice a15 (x.d.2.1 + 1) c15) := by have := hm19.cd; simp only [HD17.out] at this; exact this
      have HU19 := Lib.hid (HU18.out.trans hu19 (fun _ _ h => h))
      have HL19 := Lib.hid (show l19.length = x17.bl.length from hl19.trans hl18)
      have hwn : IntKind.i64.wrap (((x.d.2.1 + 1 : Nat) : Int) - 1) = (x.d.2.1 : Int) := by rw [IntKind.wrap_i64]; omega
      clear hm19 hu19 hl18 hl19 HP1 HP2 HG HM18 HU18
      go_wp2_with fail
      go_ret
      have hl19 := HL19.out
      have hST := Step.ofB (M := M) (x := x17) (w := w17) (w' := w19) (b := x17.b) l19 x17.hd x17.dp (HU19.out.mono (G := fun q => q = M ∨ q ∈ blk x17.b.1) (fun q _ hq => .inr hq)) (fun q hq => .inl hq)
      refine ⟨x.d.2.1, _, rfl, ?_, HM19.out, HS1.out.trans (HS17.out.trans hST), HMm17.out, HMl17.out, ?_, ?_, hfn17, ?_, ?_, ?_, ?_⟩
      · show _ < x17.ds.length
        rw [HDs17.out, List.length_append]
        show _ < _ + 1
        omega
      · show FsOK l19.length F x17.fs
        exact HFs17.out.grow (by omega)
      · show DsOK l19.length D x17.ds
        rw [HDs17.out]
        intro q hq
        rcases List.mem_append.1 hq with hq | hq
        · exact (HDs.out.grow (by omega)) q hq
        · rw [List.mem_singleton.1 hq]
          exact ⟨by show x.bl.length + 64 ≤ _; omega, hSF, hs49, by show 0 ≤ 100; omega, fun _ => rfl, fun h => absurd h (Nat.lt_irrefl 0)⟩
      · exact .inr ⟨_, HDs17.out, rfl, rfl⟩
      · show _ ≤ l19.length; omega
      · show l19.length ≤ _; omega
      · show l19.length % 8 = _; omega
end Go.Proofs.Ytpkmdnfkeebgbaa

/- The Xor of payloads, loosely; the Maker's Tail. Conditions stand as premises. -/
namespace Go.Proofs.Ytpkmdnfkeebgbaa
open Go.ChangeShapes Go.WideShapes Go.ChangeAt Go.RowKit
set_option linter.unusedVariables false
set_option linter.unusedSimpArgs false

def encSL (z : SL) : Value := .slice z.1 z.2.1 z.2.2
/-- Each one's bytes lie there. -/
def AllB (w : World) (L : List SL) : Prop := ∀ z ∈ L, ∃ l, RdB w z.1 z.2.1 z.2.2 l ∧ z.2.1 ≤ 1000
set_option maxHeartbeats 1000000 in
theorem xor_lo (a : Option Addr) (n c : Nat) (L : List SL) (w : World) (hr : Rd encSL w a n c L) (hL : AllB w L) (hn : n ≤ 1000) :
    Calls Try.prog 55 #[.slice a n c] w (LoE64 w) := by
  have HR := Lib.hid hr
  have HL := Lib.hid hL
  have hLl := hr.1
  clear hr hL
  go_enter Try.func55, Try.ntmps55
  go_wp2_with fail
  go_loopw [3, 4] (fun v_ i_ wr => ∃ (v : Int) (i : Nat), v_ = .int .u64 v ∧ U64 v ∧ i_ = .int .i64 (i : Int) ∧ i ≤ n ∧ wr = w) (fun _ i_ _ => n - (intOf i_).toNat)
  case atStart => exact ⟨0, 0, rfl, ⟨by omega, by omega⟩, rfl, Nat.zero_le _, rfl⟩
  case round =>
    obtain ⟨v, i, rfl, hv, rfl, hi, rfl⟩ := hrel
    by_cases hlt : i < n
    · have hlt' : (i : Int) < (n : Int) := by omega
      have hi0 : (0 : Int) ≤ (i : Int) := by omega
      obtain ⟨b, off, rfl, hbl, hcs⟩ := HR.out.2.2.2.2.resolve_left (by omega)
      obtain ⟨z, hz⟩ : ∃ z, L[i]? = some z := ⟨_, List.getElem?_eq_getElem (by omega)⟩
      obtain ⟨l, hl, hzn⟩ := HL.out z (List.mem_of_getElem? hz)
      have HB := Lib.hid hl
      have c0 : wr.cell? ⟨b, off + i, none⟩ = some (.slice z.1 z.2.1 z.2.2) := hcs i z hz
      clear hcs hz hl
      go_wp2_with (go_at_call 66; go_must (refine (lookup_lo _ _ _ l _ HB.out (by omega)).mono ?_; rintro e w2 ⟨u, rfl, hu, rfl⟩))
      go_roundw
      case rel => exact ⟨_, i + 1, rfl, u64_bits _ _ _, by congr 1, by omega, trivial⟩
      case measure => simp [intOf]; omega
    · obtain rfl : i = n := by omega
      have hge : ¬ ((i : Int) < (i : Int)) := by omega
      go_wp2_with fail
      go_ret
      exact ⟨v, rfl, hv, rfl⟩
theorem tail_lo {base M D F : Nat} {kd : Bool} {E : Nat} {x : Mk} {w : World} (h : MI base M D F kd E x w) :
    Calls Try.prog 44 #[.pointer (some ⟨M, 0, none⟩)] w (LoE64 w) := by
  obtain ⟨v, hv, hu⟩ := h.cN 9 (by omega)
  simp only [Nat.reduceAdd] at hv
  clear h
  go_enter Try.func44, Try.ntmps44
  go_wp2_with fail
  go_ret
  exact ⟨v, rfl, hu, rfl⟩
end Go.Proofs.Ytpkmdnfkeebgbaa

/- The Maker's Copy: only new memory. Conditions stand as premises. -/
namespace Go.Proofs.Ytpkmdnfkeebgbaa
open Go.ChangeShapes Go.WideShapes Go.ChangeAt Go.RowKit
set_option linter.unusedVariables false
set_option linter.unusedSimpArgs false

section
variable {α : Type} {enc : α → List Value} {k : Nat} {P : Program} {w : World} {ops : Array Oper} {rest : List Oper} {o : Oper} {a : Act} {Q : Exit → Act → World → Prop}
/-- append of what may be none. -/
theorem wp_appKz (hE : EncK enc k) {K : Act → World → Prop} {s x : Operand} {t : TypeId} (ho : o.op = .call { callee := .builtin .append, args := #[s, x], argTypes := #[t, t] })
    {base : Nat} {e : TypeId} {bytes : Nat} (hI : InfoK P t e k bytes) {sa xa : Option Addr} {sn sc xn xc : Nat} (hs : a.eval s = .slice sa sn sc) (hx : a.eval x = .slice xa xn xc)
    {l1 l2 : List α} (hown : OwnK enc k e w base sa sn sc l1) (hr : RdK enc k w xa xn xc l2)
    (hfit : (sn + xn) * bytes ≤ 140737488355328) (hfit2 : sn + xn ≤ 140737488355328) (hbase : base ≤ w.heap.size)
    (h : ∀ a' c' w', OwnK enc k e w' base a' (sn + xn) c' (l1 ++ l2) → Upd (· ∈ blk sa) w w' → (∀ k ∈ blk a', k ∈ blk sa ∨ w.heap.size ≤ k) → K (a.put o.dst (.slice a' (sn + xn) c')) w') : o.wp P a w K Q := by
  by_cases hp : 0 < xn
  · exact wp_appK hE ho hI hs hx hown hr hp hfit hfit2 hbase h
  obtain rfl : xn = 0 := by omega
  obtain ⟨ht, i, z, hi, hz, hsize, hby, hzs⟩ := hI
  obtain ⟨hl1, how⟩ := hown
  obtain ⟨hl2, hc1, hc2, hcn, hcells⟩ := hr
  obtain rfl : l2 = [] := List.eq_nil_of_length_eq_zero hl2
  cases xa with
  | none =>
    obtain rfl := hcn rfl
    have hrun := run_append_owned_none (P := P) (w := w) base t o.type e i k ht hi _ sn _ how
    have := h sa sc w ⟨by simpa using hl1, by simpa using how⟩ (Upd.refl _ _) (fun k hk => .inl hk)
    unfold Oper.wp
    simp [execOp, ho, resolve, invoke, builtin, hs, hx, hrun, Result.andThen]
    exact this
  | some ad =>
    obtain ⟨v', w', hrun, hv', hg, hn, hat⟩ := run_append_own_at (P := P) w base t o.type e i z k bytes ht hi hz hsize hby hzs hE.pos _ sn _ how ad 0 xc [] (by simp) (fun j u hu => by simp at hu) (fun u hu => by simp at hu) (by unfold maxLen; omega) hfit hbase
    have hu : Upd (· ∈ blk sa) w w' := Upd.grown hg (fun k hk => by
      cases sa with
      | none => cases hk
      | some ad' => cases hk; exact List.mem_singleton.2 rfl)
    have hwp : ∀ a' c', v' = .slice a' (sn + 0) c' → o.wp P a w K Q := by
      intro a' c' hv
      subst hv
      have := h a' c' w' ⟨by simp; omega, by rw [List.append_nil] at hv' ⊢; exact hv'⟩ hu (fun k hk => by
        obtain ⟨y, rfl, rfl⟩ := mem_blk.1 hk
        rcases hat with hat | hat
        · left
          cases sa with
          | none => cases hat
          | some ad' => simp only [Value.ownBlock, Option.some.injEq] at hat; exact mem_blk.2 ⟨ad', rfl, hat.symm⟩
        · right
          simp only [Value.ownBlock, Option.some.injEq] at hat
          omega)
      unfold Oper.wp
      simp only [execOp, ho, resolve, invoke, builtin, Sem.run_bind, Sem.run_pure, Result.andThen_ok, List.map_toArray, List.map_cons, List.map_nil, hs, hx, hrun]
      exact this
    rcases hv'.2 with ⟨hv, h0⟩ | ⟨g', cap', cur, hv, rest'⟩
    · exact hwp none 0 (by rw [hv, h0])
    · exact hwp _ cap' hv
theorem step_appKz (hE : EncK enc k) {K : Act → World → Prop} {E : Prop} (hgd : o.guard = none) {s x : Operand} {t : TypeId} (ho : o.op = .call { callee := .builtin .append, args := #[s, x], argTypes := #[t, t] })
    {base : Nat} {e : TypeId} {bytes : Nat} (hI : InfoK P t e k bytes) {sa xa : Option Addr} {sn sc xn xc : Nat} (hs : a.eval s = .slice sa sn sc) (hx : a.eval x = .slice xa xn xc)
    {l1 l2 : List α} (hown : OwnK enc k e w base sa sn sc l1) (hr : RdK enc k w xa xn xc l2)
    (hfit : (sn + xn) * bytes ≤ 140737488355328) (hfit2 : sn + xn ≤ 140737488355328) (hbase : base ≤ w.heap.size)
    (h : ∀ a' c' w', OwnK enc k e w' base a' (sn + xn) c' (l1 ++ l2) → Upd (· ∈ blk sa) w w' → (∀ k ∈ blk a', k ∈ blk sa ∨ w.heap.size ≤ k) → K (a.put o.dst (.slice a' (sn + xn) c')) w') :
    if Region.wanted o (yielded ops a.tmps) = true then Oper.wp P o a w K Q else E := by
  have hw : Region.wanted o (yielded ops a.tmps) = true := by simp [Region.wanted, hgd]
  rw [if_pos hw]
  exact wp_appKz hE ho hI hs hx hown hr hfit hfit2 hbase h
end
theorem Try.makerI : RowInfo Try.prog 96 147 := ⟨by kernel_rfl, by kernel_rfl⟩
theorem Try.knI : RowInfo Try.prog 110 5 := ⟨by kernel_rfl, by kernel_rfl⟩
theorem mkL_one {base M D F : Nat} {kd : Bool} {E : Nat} {x : Mk} {w : World} (h : MI base M D F kd E x w) : (mkL x).toArray.all (·.oneCell') = true := by
  obtain ⟨co, inc, st, I, Ns, ta, ti, te, hh⟩ := h.hd
  have h1 := h.cfg.one
  rw [List.all_toArray, List.all_eq_true]
  intro v hv
  simp only [mkL, List.mem_append, List.mem_cons, List.not_mem_nil, or_false] at hv
  rcases hv with hv | hv | rfl | rfl | rfl | rfl | rfl
  · exact h1 v hv
  · rw [hh.eq] at hv
    have h2 := headL_one (co := co) (inc := inc) (st := st) (I := I) (Ns := Ns) (ta := ta) (ti := ti) (te := te)
    rw [List.all_toArray, List.all_eq_true] at h2
    exact h2 v hv
  all_goals rfl
/-- The copy's own block. -/
def RowO (O : Nat) (w : World) : Prop := ∃ cs : Array Value, w.heap[O]? = some (.cells cs 96 (0, 0)) ∧ cs.size = 147
theorem RowO.cell {O : Nat} {w : World} (h : RowO O w) (k : Nat) (hk : k < 147) : ∃ v, w.cell? ⟨O, k, none⟩ = some v := by
  obtain ⟨cs, h1, h2⟩ := h
  exact ⟨cs[k], cell_of_heap h1 k _ (Array.getElem?_eq_getElem (by omega))⟩
theorem RowO.free {O : Nat} {w : World} (h : RowO O w) (k : Nat) : w.frozen? ⟨O, k, none⟩ = false := by
  obtain ⟨cs, h1, h2⟩ := h
  exact free_of_heap h1 k
theorem RowO.lt {O : Nat} {w : World} (h : RowO O w) : O < w.heap.size := by
  obtain ⟨cs, h1, h2⟩ := h
  exact lt_of_heap h1
theorem RowO.set {O : Nat} {w : World} (h : RowO O w) (k : Nat) (v : Value) : RowO O (w.setCell ⟨O, k, none⟩ v) := by
  obtain ⟨cs, h1, h2⟩ := h
  exact ⟨_, row_set h1 k v, by simpa using h2⟩
theorem RowO.below {O B : Nat} {w w' : World} (h : RowO O w) (hb : Below B w w') (hB : O < B) : RowO O w' := by
  obtain ⟨cs, h1, h2⟩ := h
  exact ⟨cs, row_below hb hB h1, h2⟩
theorem RowO.upd {F : Nat → Prop} {O : Nat} {w w' : World} (h : RowO O w) (hu : Upd F w w') (hF : ¬ F O) : RowO O w' := by
  obtain ⟨cs, h1, h2⟩ := h
  exact ⟨cs, row_upd hu hF h1, h2⟩
theorem RowO.new {O : Nat} {w : World} (h : RowO O w) (k : Nat) (hk : k < 147) (v : Value) : (w.setCell ⟨O, k, none⟩ v).cell? ⟨O, k, none⟩ = some v := by
  obtain ⟨cs, h1, h2⟩ := h
  exact cell_of_heap (row_set h1 k v) k v (Array.getElem?_setIfInBounds_self_of_lt (by omega))
theorem RowO.other {O : Nat} {w : World} (h : RowO O w) (k j : Nat) (hj : j < 147) (hne : k ≠ j) {u : Value} (hu : w.cell? ⟨O, j, none⟩ = some u) (v : Value) : (w.setCell ⟨O, k, none⟩ v).cell? ⟨O, j, none⟩ = some u := by
  obtain ⟨cs, h1, h2⟩ := h
  have h3 : cs[j]? = some cs[j] := Array.getElem?_eq_getElem (by omega)
  have h4 := cell_of_heap h1 j _ h3
  rw [hu] at h4
  refine cell_of_heap (row_set h1 k v) j u ?_
  rw [Array.getElem?_setIfInBounds_ne hne, h3, h4]
def CopyE (w : World) (e : Ending) (w' : World) : Prop := ∃ O : Nat, e = .returned (.pointer (some ⟨O, 0, none⟩)) ∧ Below w.heap.size w w'
set_option maxRecDepth 100000 in
set_option maxHeartbeats 4000000 in
theorem copy_lo {base M D F : Nat} {kd : Bool} {E : Nat} {x : Mk} {w : World} (h : MI base M D F kd E x w) (hl : x.bl.length ≤ 100000) (hmn : x.ml.length ≤ 1000) (hdn : x.ds.length ≤ 1000) (hfn : x.fs.length ≤ 1000) (haln : ∀ y ∈ x.ds, y.arr.2.1 ≤ 1000) :
    Calls Try.prog 50 #[.pointer (some ⟨M, 0, none⟩)] w (CopyE w) := by
  have H := Lib.hid h
  have HALn := Lib.hid haln
  clear haln
  have hone := mkL_one h
  have hsz := mkL_size (x := x) h.cfg.len h.hd.len
  clear h
  go_enter Try.func50, Try.ntmps50
  go_upto_region 1 with fail
  have hr := H.out.row
  have hZ1 := heap_alloc_new w (.cells Try.zeroCells96 96)
  have HB1 := Lib.hid (below_alloc w (.cells Try.zeroCells96 96))
  go_upto_region 2 with (first
    | (with_reducible refine wpList_loadS rfl rfl Try.makerI rfl hr hsz ?_)
    | (with_reducible refine wpList_storeS rfl rfl Try.makerI rfl rfl hZ1 (by with_unfolding_all rfl) hsz hone ?_; intro w2 hX2 hu2))
  have HB2 := Lib.hid (HB1.out.trans (hu2.below HB1.out.size (fun k hk => by rw [hk]; exact Nat.le_refl _)))
  have HR2 := Lib.hid (show RowO w.heap.size w2 from ⟨_, hX2.out, hsz⟩)
  obtain ⟨O, hO⟩ : ∃ O, w.heap.size = O := ⟨_, rfl⟩
  have HMI := Lib.hid (fun (w' : World) (hb : Below O w w') => H.out.below (show Below w.heap.size w w' by rw [hO]; exact hb))
  have HO0 := Lib.hid hO
  rw [hO] at HR2 HB2 ⊢
  clear hZ1 hr hX2 hu2 HB1 hO
  have HM2 := Lib.hid (HMI.out _ HB2.out)
  have hbl : x.bl.length = x.b.2.1 := HM2.out.bO.1
  have hml : x.ml.length = x.m.2.1 := HM2.out.mO.1
  obtain ⟨v143, cO⟩ := HR2.out.cell 143 (by omega)
  have HBa := Lib.hid (below_alloc w2 (.cells #[] 5))
  have HOa := Lib.hid (Own.lit (enc := Value.int .u8) (e := 5) (base := w2.heap.size) (w := w2) [] #[] 0 rfl rfl (Nat.le_refl _) (by unfold maxLen; omega))
  have HAa := Lib.hid (HM2.out.bO.rd.mono HBa.out)
  have hO2 : O < w2.heap.size := HR2.out.lt
  have hM2 : M < w2.heap.size := lt_of_heap HM2.out.row
  have cba := (HM2.out.below HBa.out).cb
  go_upto_region 3 with (at_builtin; go_must (refine wpList_appOwn rfl rfl Try.oneB rfl rfl HOa.out HAa.out (fun _ => rfl) (by omega) (by omega) HBa.out.size ?_); intro a3 c3 w3 ho3 hb3 _ _; have HB3 := Lib.hid (HBa.out.trans hb3); have HR3 := Lib.hid (HR2.out.below HB3.out hO2); obtain ⟨v3, cO3⟩ := HR3.out.cell 143 (by omega); have fO3 := HR3.out.free 143)
  have HU4 := Lib.hid ((HB2.out.trans (HB3.out.mono (Nat.le_of_lt hO2))).trans ((Upd.setCell (F := (· = O)) w3 ⟨O, 143, none⟩ (.slice a3 (0 + x.b.2.1) c3) rfl).below (B := O) (Nat.le_of_lt HR3.out.lt) (fun k hk => by rw [hk]; exact Nat.le_refl _)))
  have HR4 := Lib.hid (HR3.out.set 143 (.slice a3 (0 + x.b.2.1) c3))
  rw [Nat.zero_add] at HU4 HR4
  try rw [Nat.zero_add]
  generalize w3.setCell ⟨O, 143, none⟩ (.slice a3 x.b.2.1 c3) = w4 at HU4 HR4 ⊢
  clear cO3 fO3 ho3 hb3 HB3 HR3 cba HAa HOa HBa HM2 HR2 HB2 cO hO2 hM2
  have HM4 := Lib.hid (HMI.out _ HU4.out)
  have HBa := Lib.hid (below_alloc w4 (.cells #[] 27))
  have HOa := Lib.hid (Own.lit (enc := Value.int .u64) (e := 27) (base := w4.heap.size) (w := w4) [] #[] 0 rfl rfl (Nat.le_refl _) (by unfold maxLen; omega))
  have HAa := Lib.hid (HM4.out.mO.rd.mono HBa.out)
  have hO4 : O < w4.heap.size := HR4.out.lt
  have hM4 : M < w4.heap.size := lt_of_heap HM4.out.row
  have cma := (HM4.out.below HBa.out).cm
  go_upto_region 4 with (at_builtin; go_must (refine wpList_appOwn rfl rfl Try.oneU rfl rfl HOa.out HAa.out (fun _ => rfl) (by omega) (by omega) HBa.out.size ?_); intro a5 c5 w5 ho5 hb5 _ _; have HB5 := Lib.hid (HBa.out.trans hb5); have HR5 := Lib.hid (HR4.out.below HB5.out hO4); obtain ⟨v5, cO5⟩ := HR5.out.cell 146 (by omega); have fO5 := HR5.out.free 146)
  have HU6 := Lib.hid ((HU4.out.trans (HB5.out.mono (Nat.le_of_lt hO4))).trans ((Upd.setCell (F := (· = O)) w5 ⟨O, 146, none⟩ (.slice a5 (0 + x.m.2.1) c5) rfl).below (B := O) (Nat.le_of_lt HR5.out.lt) (fun k hk => by rw [hk]; exact Nat.le_refl _)))
  have HR6 := Lib.hid (HR5.out.set 146 (.slice a5 (0 + x.m.2.1) c5))
  rw [Nat.zero_add] at HU6 HR6
  try rw [Nat.zero_add]
  generalize w5.setCell ⟨O, 146, none⟩ (.slice a5 x.m.2.1 c5) = w6 at HU6 HR6 ⊢
  clear cO5 fO5 ho5 hb5 HB5 HR5 cma HAa HOa HBa HM4 HR4 HU4 hO4 hM4
  obtain ⟨v144, c144⟩ := HR6.out.cell 144 (by omega)
  obtain ⟨v145, c145⟩ := HR6.out.cell 145 (by omega)
  have f144 := HR6.out.free 144
  have f145 := HR6.out.free 145
  go_upto_region 5 with fail
  have HR7 := Lib.hid (HR6.out.set 144 (.slice none 0 0))
  have HR8 := Lib.hid (HR7.out.set 145 (.slice none 0 0))
  have d145 := HR7.out.new 145 (by omega) (.slice none 0 0)
  have d144 := HR7.out.other 145 144 (by omega) (by omega) (HR6.out.new 144 (by omega) (.slice none 0 0)) (.slice none 0 0)
  have HU7 := Lib.hid (HU6.out.trans ((Upd.setCell (F := (· = O)) w6 ⟨O, 144, none⟩ (.slice none 0 0) rfl).below (B := O) (Nat.le_of_lt HR6.out.lt) (fun k hk => by rw [hk]; exact Nat.le_refl _)))
  have HU8 := Lib.hid (HU7.out.trans ((Upd.setCell (F := (· = O)) (w6.setCell ⟨O, 144, none⟩ (.slice none 0 0)) ⟨O, 145, none⟩ (.slice none 0 0) rfl).below (B := O) (Nat.le_of_lt HR7.out.lt) (fun k hk => by rw [hk]; exact Nat.le_refl _)))
  generalize (w6.setCell ⟨O, 144, none⟩ (.slice none 0 0)).setCell ⟨O, 145, none⟩ (.slice none 0 0) = w8 at d144 d145 HU8 HR8 ⊢
  clear HR7 HU7 HR6 HU6 c144 c145 f144 f145
  go_wp2_with fail
  go_loopw [4] (fun i_ wr => ∃ (i : Nat) (a : Option Addr) (c : Nat) (dl : List Kn), i_ = .int .i64 (i : Int) ∧ i ≤ x.ds.length ∧ dl.length ≤ i ∧ RowO O wr ∧ wr.cell? ⟨O, 144, none⟩ = some (.slice a dl.length c) ∧ wr.cell? ⟨O, 145, none⟩ = some (.slice none 0 0) ∧ OwnK encKn 5 110 wr (O + 1) a dl.length c dl ∧ Below O w wr) (fun i_ _ => x.ds.length - (intOf i_).toNat)
  case atStart => exact ⟨0, none, 0, [], rfl, Nat.zero_le _, Nat.le_refl _, HR8.out, d144, d145, OwnK.nil _ _ _ _ _, HU8.out⟩
  case round =>
    obtain ⟨i, a, c, dl, rfl, hi, hdi, hR, c4, c5, hO, hU⟩ := hrel
    have HR := Lib.hid hR
    have HOw := Lib.hid hO
    have HU := Lib.hid hU
    have HM := Lib.hid (HMI.out _ hU)
    have cd := HM.out.cd
    have hdl : x.ds.length = x.d.2.1 := HM.out.dO.1
    clear hR hO hU HR8 d144 d145 HU8
    by_cases hlt : i < x.d.2.1
    · have hlt' : (i : Int) < (x.d.2.1 : Int) := by omega
      have hi0 : (0 : Int) ≤ (i : Int) := by omega
      obtain ⟨b, off, hab, hbl2, hcs⟩ := (HM.out.dO.rd encKn_E).at (by omega)
      obtain ⟨y, hy⟩ : ∃ y, x.ds[i]? = some y := ⟨_, List.getElem?_eq_getElem (by omega)⟩
      have HRg := Lib.hid (hcs.range i y hy (off + i * 5) rfl)
      have hal : y.arr.2.1 ≤ 1000 := HALn.out y (List.mem_of_getElem? hy)
      have HArr := Lib.hid (HM.out.arr y (List.mem_of_getElem? hy))
      rw [hab] at cd
      clear hcs hy hab
      have hky : ((encKn y).toArray.all (·.oneCell')) = true := by rw [List.all_toArray, List.all_eq_true]; exact fun v hv => encKn_E.one y v hv
      go_upto_region 8 with fail
      have hZ1 := heap_alloc_new wr (.cells #[.string ⟨#[]⟩, .int .u64 0, .int .i64 0, .int .i64 0, .slice none 0 0] 110)
      go_upto_region 9 with (first
        | (with_reducible refine wpList_loadK rfl rfl Try.knI rfl HRg.out encKn_E ?_)
        | ((refine wpList_storeS (cells := (encKn y).toArray) rfl rfl Try.knI rfl rfl hZ1 rfl (by rfl) hky ?_; intro w2 hX2 hu2)))
      have hzr : wr.heap.size < w2.heap.size := lt_of_heap hX2.out
      have HB2 := Lib.hid ((below_alloc wr (.cells #[.string ⟨#[]⟩, .int .u64 0, .int .i64 0, .int .i64 0, .slice none 0 0] 110)).trans (hu2.below (B := wr.heap.size) (by simp) (fun k hk => by rw [hk]; exact Nat.le_refl _)))
      obtain ⟨P, hP⟩ : ∃ P, wr.heap.size = P := ⟨_, rfl⟩
      have HP := Lib.hid hP
      rw [hP] at hX2 hzr HB2 ⊢
      have HX2 := Lib.hid hX2.out
      have cP4 := cell_of_heap HX2.out 4 (.slice y.arr.1 y.arr.2.1 y.arr.2.2) rfl
      have hyl : y.al.length = y.arr.2.1 := HArr.out.1.1
      have HBa := Lib.hid (below_alloc w2 (.cells #[] 27))
      have HOa := Lib.hid (Own.lit (enc := Value.int .u64) (e := 27) (base := w2.heap.size) (w := w2) [] #[] 0 rfl rfl (Nat.le_refl _) (by unfold maxLen; omega))
      have HAa := Lib.hid (HArr.out.1.mono ((show Below wr.heap.size wr w2 by rw [hP]; exact HB2.out).trans (HBa.out.mono (by omega))))
      have cPa := cell_of_heap (row_below HBa.out hzr HX2.out) 4 (.slice y.arr.1 y.arr.2.1 y.arr.2.2) rfl
      clear hP hZ1 hX2 hu2
      go_upto_region 10 with (at_builtin; go_must (refine wpList_appOwn rfl rfl Try.oneU rfl rfl HOa.out HAa.out (fun _ => rfl) (by omega) (by omega) HBa.out.size ?_); intro a3 c3 w3 ho3 hb3 _ _; have HB3 := Lib.hid (HBa.out.trans hb3); have HX3 := Lib.hid (row_below HB3.out hzr HX2.out); have cP3 := cell_of_heap HX3.out 4 (.slice y.arr.1 y.arr.2.1 y.arr.2.2) rfl; have fP3 := free_of_heap HX3.out 4)
      have hOP : O < P := by have := HR.out.lt; have := HP.out; omega
      have HX4 := Lib.hid (show (w3.setCell ⟨P, 4, none⟩ (.slice a3 (0 + y.arr.2.1) c3)).heap[P]? = some (.cells (encKn { y with arr := (a3, 0 + y.arr.2.1, c3) }).toArray 110 (0, 0)) from row_set HX3.out 4 _)
      have HB4 := Lib.hid ((HB2.out.trans (HB3.out.mono (Nat.le_of_lt hzr))).trans ((Upd.setCell (F := (· = P)) w3 ⟨P, 4, none⟩ (.slice a3 (0 + y.arr.2.1) c3) rfl).below (B := P) (Nat.le_of_lt (lt_of_heap HX3.out)) (fun k hk => by rw [hk]; exact Nat.le_refl _)))
      rw [Nat.zero_add] at HX4 HB4
      try rw [Nat.zero_add]
      generalize w3.setCell ⟨P, 4, none⟩ (.slice a3 y.arr.2.1 c3) = w4 at HX4 HB4 ⊢
      clear cP3 fP3 ho3 hb3 HB3 HX3 cPa HAa HOa HBa HX2 cP4 HB2
      have HR4 := Lib.hid (HR.out.below HB4.out hOP)
      have e4 := bcell HB4.out hOP c4
      have e5 := bcell HB4.out hOP c5
      have g4 := HR4.out.free 144
      have hb4' : Below wr.heap.size wr w4 := by rw [HP.out]; exact HB4.out
      have HO4 := Lib.hid (HOw.out.mono hb4')
      obtain ⟨y4, hy4⟩ : ∃ y4 : Kn, { y with arr := (a3, y.arr.2.1, c3) } = y4 := ⟨_, rfl⟩
      rw [hy4] at HX4
      have HB5 := Lib.hid (below_alloc w4 (.cells (encKn y4).toArray 110))
      have HR5 := Lib.hid (RdK.one encKn_E 110 w4 y4 (encKn y4).toArray rfl)
      have HO5 := Lib.hid (HO4.out.mono HB5.out)
      have hO4 : O < w4.heap.size := HR4.out.lt
      have hz5 : O + 1 ≤ (w4.alloc (.cells (encKn y4).toArray 110)).heap.size := by have := HB5.out.size; omega
      have hsz4 : (encKn y4).toArray.size = 5 := rfl
      clear hy4
      have e4a := bcell HB5.out hO4 e4
      go_upto_region 7 with (first
        | (with_reducible refine wpList_loadS rfl rfl Try.knI rfl HX4.out hsz4 ?_)
        | (at_builtin; (refine wpList_appK encKn_E rfl rfl Try.knK rfl rfl HO5.out HR5.out (by omega) (by omega) (by omega) hz5 ?_); intro a6 c6 w6 ho6 hu6 hn6; have HR6 := Lib.hid ((HR4.out.below HB5.out hO4).upd hu6 (fun hk => by obtain ⟨z, hz, he⟩ := mem_blk.1 hk; have := (HOw.out.lt z hz).1; omega)); obtain ⟨v6, e6⟩ := HR6.out.cell 144 (by omega); have f6 := HR6.out.free 144))
      have e56 := ucell hu6 (fun hk => by obtain ⟨z, hz, he⟩ := mem_blk.1 hk; have := (HOw.out.lt z hz).1; have he : z.block = O := he; omega) (bcell HB5.out hO4 e5)
      have HV := Lib.hid (HR6.out.set 144 (.slice a6 (dl.length + 1) c6))
      have h74 := HR6.out.new 144 (by omega) (.slice a6 (dl.length + 1) c6)
      have h75 := HR6.out.other 144 145 (by omega) (by omega) e56 (.slice a6 (dl.length + 1) c6)
      have hU6 : Below O w4 w6 := (HB5.out.mono (Nat.le_of_lt hO4)).trans (hu6.below (by simp only [World.size_alloc]; omega) (fun k hk => by obtain ⟨z, hz, he⟩ := mem_blk.1 hk; have := (HOw.out.lt z hz).1; have he : z.block = k := he; omega))
      have HW := Lib.hid ((HU.out.trans (HB4.out.mono (Nat.le_of_lt hOP))).trans (hU6.trans ((Upd.setCell (F := (· = O)) w6 ⟨O, 144, none⟩ (.slice a6 (dl.length + 1) c6) rfl).below (B := O) (Nat.le_of_lt HR6.out.lt) (fun k hk => by rw [hk]; exact Nat.le_refl _))))
      have HO7 := Lib.hid (ho6.upd (Upd.setCell (F := (· = O)) w6 ⟨O, 144, none⟩ (.slice a6 (dl.length + 1) c6) rfl) (fun z hz he => by have := (ho6.lt z hz).1; omega))
      generalize w6.setCell ⟨O, 144, none⟩ (.slice a6 (dl.length + 1) c6) = w7 at HV h74 h75 HW HO7 ⊢
      clear ho6 hu6 hn6
      go_wp2_with fail
      go_roundw
      case rel => exact ⟨i + 1, a6, c6, dl ++ [y4], by congr 1, by omega, by rw [List.length_append]; show _ + 1 ≤ _; omega, HV.out, by rw [List.length_append]; exact h74, h75, by rw [List.length_append]; exact HO7.out, HW.out⟩
      case measure => simp [intOf]; omega
    · obtain rfl : i = x.ds.length := by omega
      have hge : ¬ ((x.d.2.1 : Int) < (x.d.2.1 : Int)) := by omega
      have hge2 : ¬ ((x.ds.length : Int) < (x.d.2.1 : Int)) := by omega
      clear HOw
      have c4' : True := trivial
      have cf := (HM.out.below (below_drew wr)).cf
      have c5' : wr.drew.cell? ⟨O, 145, none⟩ = some (.slice none 0 0) := c5
      have HN := Lib.hid (OwnK.nil encKn 5 110 wr.drew wr.drew.heap.size)
      have HRF := Lib.hid ((HM.out.fO.rd encKn_E).below (below_drew wr))
      have hfl : x.fs.length = x.f.2.1 := HM.out.fO.1
      have HRD := Lib.hid (HR.out.below (below_drew wr) HR.out.lt)
      have hOl : O < wr.drew.heap.size := HRD.out.lt
      go_upto_region 12 with fail
      go_region_law (refine step_appKz encKn_E rfl rfl Try.knK rfl rfl HN.out HRF.out (by omega) (by omega) (Nat.le_refl _) ?_; intro a5 c6 w5 ho5 hu5 hn5; have HB5 := Lib.hid (hu5.below (B := wr.drew.heap.size) (Nat.le_refl _) (fun k hk => by simp [blk] at hk)); have HR5 := Lib.hid (HRD.out.below HB5.out hOl); obtain ⟨v5, e5⟩ := HR5.out.cell 145 (by omega); have f5 := HR5.out.free 145)
      all_goals
        have HV := Lib.hid ((HU.out.trans ((below_drew wr).mono (Nat.le_of_lt HR.out.lt))).trans ((HB5.out.mono (Nat.le_of_lt hOl)).trans ((Upd.setCell (F := (· = O)) w5 ⟨O, 145, none⟩ (.slice a5 (0 + x.f.2.1) c6) rfl).below (B := O) (Nat.le_of_lt HR5.out.lt) (fun k hk => by rw [hk]; exact Nat.le_refl _))))
        clear ho5 hu5 hn5
        go_wp2_with fail
        go_ret
        refine ⟨O, rfl, ?_⟩
        rw [HO0.out, ← Nat.zero_add x.f.2.1]
        exact HV.out
end Go.Proofs.Ytpkmdnfkeebgbaa

/- What stays beside the Maker's steps; an element of its datas stored anew. Conditions stand as premises. -/
namespace Go.Proofs.Ytpkmdnfkeebgbaa
open Go.ChangeShapes Go.WideShapes Go.ChangeAt Go.RowKit
set_option linter.unusedVariables false
set_option linter.unusedSimpArgs false
section
variable {base M D F : Nat} {kd : Bool} {E : Nat} {x x' x0 : Mk} {w w' w0 : World}
/-- Its block is none of the Maker's. -/
def Off (M : Nat) (x : Mk) (a : Option Addr) : Prop := ∀ z, a = some z → z.block ∉ mset M x
theorem Off.step {a : Option Addr} (h : Off M x a) (hlt : ∀ z, a = some z → z.block < w.heap.size) (s : Step M x w x' w') : Off M x' a := fun z hz hk => by
  rcases s.new _ hk with e | e
  · exact h z hz e
  · have := hlt z hz; omega
theorem off_new {a : Option Addr} (h : MI base M D F kd E x w) (ha : ∀ z, a = some z → w.heap.size ≤ z.block) : Off M x a := fun z hz hk => by
  have := (mset_lt h _ hk).2
  have := ha z hz
  omega
/-- Behind what turned new blocks alone. -/
theorem Step.own (s : Step M x0 w0 x w) (hu : Upd (fun k => w0.heap.size ≤ k) w w') : Step M x0 w0 x w' :=
  ⟨s.upd.trans hu (fun k hk e => by omega), s.new⟩
/-- The datas are others where they lie. -/
theorem MI.sameD (h : MI base M D F kd E x w) {w1 : World} {l' : List Kn} (ho : OwnK encKn 5 110 w1 base x.d.1 x.d.2.1 x.d.2.2 l') (hu : Upd (· ∈ blk x.d.1) w w1)
    (ha : ∀ k ∈ l', Rd (Value.int .u64) w k.arr.1 k.arr.2.1 k.arr.2.2 k.al ∧ (∀ v ∈ k.al, U64 v) ∧ (∀ z, k.arr.1 = some z → base ≤ z.block ∧ z.block < w.heap.size ∧ z.block ∉ mset M x)) : MI base M D F kd E { x with ds := l' } w1 := by
  exact { row := row_upd hu h.nd h.row, bM := h.bM, cfg := h.cfg, hd := h.hd, dp := h.dp, bB := h.bB
          bO := h.bO.upd hu (fun z hz e => h.bd _ (mem_blk.2 ⟨z, hz, rfl⟩) e)
          dO := ho
          fO := h.fO.upd hu (fun z hz e => h.df _ e (mem_blk.2 ⟨z, hz, rfl⟩))
          mO := h.mO.upd hu (fun z hz e => h.dm _ e (mem_blk.2 ⟨z, hz, rfl⟩))
          mU := h.mU
          arr := fun k hk => ⟨(ha k hk).1.upd hu (fun z hz e => ((ha k hk).2.2 z hz).2.2 (mset_d e)), (ha k hk).2.1, fun z hz => by
            obtain ⟨q1, q2, q3⟩ := (ha k hk).2.2 z hz
            exact ⟨q1, Nat.lt_of_lt_of_le q2 hu.size, q3⟩⟩
          nb := h.nb, nd := h.nd, nf := h.nf, nm := h.nm, bd := h.bd, bf := h.bf, bm := h.bm, df := h.df, dm := h.dm, fm := h.fm }
/-- Its main lies elsewhere, in a block that nothing of it has. -/
theorem MI.putM (h : MI base M D F kd E x w) {a' : Option Addr} {n' c' : Nat} {l' : List Int} (ho : Own (Value.int .u64) 27 w base a' n' c' l') (hU : ∀ v ∈ l', U64 v)
    (hf : (a' = x.m.1) ∨ ∀ k ∈ blk a', k ∉ mset M x ∧ ∀ q ∈ x.ds, ∀ z, q.arr.1 = some z → z.block ≠ k) :
    MI base M D F kd E { x with m := (a', n', c'), ml := l' } (w.setCell ⟨M, 146, none⟩ (.slice a' n' c')) := by
  have hML := lt_of_heap h.row
  have hu2 := Upd.setCell (F := (· = M)) w ⟨M, 146, none⟩ (.slice a' n' c') rfl
  have hr := row_set h.row 146 (.slice a' n' c')
  rw [mkL_tail h.cfg.len h.hd.len 4] at hr
  have nMa : M ∉ blk a' := fun e => by
    rcases hf with hf | hf
    · subst hf; exact h.nm e
    · exact (hf M e).1 mset_M
  have nb : ∀ k ∈ blk a', k ∉ blk x.b.1 := fun k hk e => by
    rcases hf with hf | hf
    · subst hf; exact h.bm k e hk
    · exact (hf k hk).1 (mset_b e)
  have nd : ∀ k ∈ blk a', k ∉ blk x.d.1 := fun k hk e => by
    rcases hf with hf | hf
    · subst hf; exact h.dm k e hk
    · exact (hf k hk).1 (mset_d e)
  have nf : ∀ k ∈ blk a', k ∉ blk x.f.1 := fun k hk e => by
    rcases hf with hf | hf
    · subst hf; exact h.fm k e hk
    · exact (hf k hk).1 (mset_f e)
  exact { row := hr, bM := h.bM, cfg := h.cfg, hd := h.hd, dp := h.dp, bB := h.bB
          bO := h.bO.upd hu2 (fun z hz e => h.nb (mem_blk.2 ⟨z, hz, e⟩))
          dO := h.dO.upd hu2 (fun z hz e => h.nd (mem_blk.2 ⟨z, hz, e⟩))
          fO := h.fO.upd hu2 (fun z hz e => h.nf (mem_blk.2 ⟨z, hz, e⟩))
          mO := ho.upd hu2 (fun z hz e => nMa (mem_blk.2 ⟨z, hz, e⟩))
          mU := hU
          arr := fun k hk => ⟨(h.arr k hk).1.upd hu2 (fun z hz e => ((h.arr k hk).2.2 z hz).2.2 (by rw [e]; exact mset_M)), (h.arr k hk).2.1, fun z hz => by
            obtain ⟨q1, q2, q3⟩ := (h.arr k hk).2.2 z hz
            refine ⟨q1, by simpa using q2, fun e => ?_⟩
            rcases mset_iff.1 e with e | e | e | e | e
            · exact q3 (by rw [e]; exact mset_M)
            · exact q3 (mset_b e)
            · exact q3 (mset_d e)
            · exact q3 (mset_f e)
            · rcases hf with hf | hf
              · subst hf; exact q3 (mset_m e)
              · exact (hf _ e).2 k hk z hz rfl⟩
          nb := h.nb, nd := h.nd, nf := h.nf, nm := nMa, bd := h.bd, bf := h.bf, bm := fun k hk e => nb k e hk, df := h.df, dm := fun k hk e => nd k e hk, fm := fun k hk e => nf k e hk }
end
/-- The Maker between two things, and how great it is. -/
structure MkI (base M D F : Nat) (kd : Bool) (E T dn fn cn : Nat) (x : Mk) (w : World) : Prop where
  mi : MI base M D F kd E x w
  fs : FsOK x.bl.length F x.fs
  ds : DsOK x.bl.length D x.ds
  md : x.bl.length % 8 = 0
  lo : 304 + 16 * D + 16 * F ≤ x.bl.length
  hi : x.bl.length ≤ T
  dn : x.ds.length ≤ dn
  fn : x.fs.length ≤ fn
  cn : ∀ k ∈ x.ds, k.count ≤ cn
theorem MkI.below {base M D F : Nat} {kd : Bool} {E T dn fn cn : Nat} {x : Mk} {w w' : World} (h : MkI base M D F kd E T dn fn cn x w) (hb : Below w.heap.size w w') : MkI base M D F kd E T dn fn cn x w' := { h with mi := h.mi.below hb }
theorem MkI.mono {base M D F : Nat} {kd : Bool} {E T dn fn cn T' dn' fn' cn' : Nat} {x : Mk} {w : World} (h : MkI base M D F kd E T dn fn cn x w) (h1 : T ≤ T') (h2 : dn ≤ dn') (h3 : fn ≤ fn') (h4 : cn ≤ cn') : MkI base M D F kd E T' dn' fn' cn' x w :=
  ⟨h.mi, h.fs, h.ds, h.md, h.lo, Nat.le_trans h.hi h1, Nat.le_trans h.dn h2, Nat.le_trans h.fn h3, fun k hk => Nat.le_trans (h.cn k hk) h4⟩
/-- The blocks of its datas' arrays. -/
def ablk (x : Mk) : List Nat := x.ds.flatMap fun k => blk k.arr.1
theorem mem_ablk {x : Mk} {k : Kn} (hk : k ∈ x.ds) {z : Addr} (hz : k.arr.1 = some z) : z.block ∈ ablk x := List.mem_flatMap.2 ⟨k, hk, mem_blk.2 ⟨z, hz, rfl⟩⟩
/-- The first loop of Append: the datas that it makes, which they are, their payloads. -/
structure L1 (base M D F : Nat) (kd : Bool) (E T dn fn cn : Nat) (x0 : Mk) (w0 : World) (x : Mk) (wa : Option Addr) (wc : Nat) (W : List Int) (pa : Option Addr) (pc : Nat) (L : List SL) (w : World) : Prop where
  ki : MkI base M D F kd E T dn fn cn x w
  hm : x.m = x0.m
  hml : x.ml = x0.ml
  gr : x0.bl.length ≤ x.bl.length
  st : Step M x0 w0 x w
  ar : ∀ k ∈ x.ds, ∀ z, k.arr.1 = some z → z.block < w0.heap.size ∧ z.block ∈ ablk x0
  wo : Own (Value.int .i64) 3 w w0.heap.size wa W.length wc W
  wf : Off M x wa
  wb : ∀ v ∈ W, 0 ≤ v ∧ v < (x.ds.length : Int)
  po : Own encSL 22 w w0.heap.size pa L.length pc L
  pf : Off M x pa
  pl : AllB w L
  pb : ∀ z ∈ L, ∀ y, z.1 = some y → y.block ∉ mset M x ∧ y.block < w.heap.size ∧ y.block ∉ blk pa
  pw : ∀ k ∈ blk pa, k ∉ blk wa
section
variable {base M D F : Nat} {kd : Bool} {E T dn fn cn : Nat} {x0 x : Mk} {w0 w w' : World} {wa pa : Option Addr} {wc pc : Nat} {W : List Int} {L : List SL}
theorem L1.start (h : MkI base M D F kd E T dn fn cn x w) : L1 base M D F kd E T dn fn cn x w x none 0 [] none 0 [] w :=
  { ki := h, hm := rfl, hml := rfl, gr := Nat.le_refl _, st := Step.refl _ _ _, ar := fun k hk z hz => ⟨((h.mi.arr k hk).2.2 z hz).2.1, mem_ablk hk hz⟩, wo := Own.nil _ _ _ _, wf := fun z hz => (by cases hz), wb := fun v hv => (by cases hv)
    po := Own.nil _ _ _ _, pf := fun z hz => (by cases hz), pl := fun z hz => (by cases hz), pb := fun z hz => (by cases hz), pw := fun k hk => (by simp [blk] at hk) }
theorem AllB.upd {G : Nat → Prop} (h : AllB w L) (hu : Upd G w w') (hG : ∀ z ∈ L, ∀ y, z.1 = some y → ¬ G y.block) : AllB w' L := fun z hz => by
  obtain ⟨l, h1, h2⟩ := h z hz
  exact ⟨l, h1.upd hu (fun y hy => hG z hz y hy), h2⟩
theorem L1.below (h : L1 base M D F kd E T dn fn cn x0 w0 x wa wc W pa pc L w) (hb : Below w.heap.size w w') : L1 base M D F kd E T dn fn cn x0 w0 x wa wc W pa pc L w' :=
  { h with ki := h.ki.below hb, st := h.st.trans (Step.below hb), wo := h.wo.mono hb, po := h.po.mono hb
           pl := h.pl.upd (Upd.ofBelow (F := fun k => w.heap.size ≤ k) hb) (fun z hz y hy => by have := (h.pb z hz y hy).2.1; omega)
           pb := fun z hz y hy => ⟨(h.pb z hz y hy).1, Nat.lt_of_lt_of_le (h.pb z hz y hy).2.1 hb.size, (h.pb z hz y hy).2.2⟩ }
/-- Behind a step of the Maker. -/
theorem L1.step (h : L1 base M D F kd E T dn fn cn x0 w0 x wa wc W pa pc L w) {x' : Mk} {T' dn' fn' cn' : Nat} (hk : MkI base M D F kd E T' dn' fn' cn' x' w') (s : Step M x w x' w') (hm : x'.m = x.m) (hml : x'.ml = x.ml)
    (ha : ∀ k ∈ x'.ds, ∀ z, k.arr.1 = some z → z.block < w0.heap.size ∧ z.block ∈ ablk x0) (hd : x.ds.length ≤ x'.ds.length) (hg : x.bl.length ≤ x'.bl.length) : L1 base M D F kd E T' dn' fn' cn' x0 w0 x' wa wc W pa pc L w' :=
  { ki := hk, hm := hm.trans h.hm, hml := hml.trans h.hml, gr := Nat.le_trans h.gr hg, st := h.st.trans s, ar := ha
    wo := h.wo.upd s.upd h.wf, wf := h.wf.step (fun z hz => (h.wo.lt z hz).2) s, wb := fun v hv => by have := h.wb v hv; omega
    po := h.po.upd s.upd h.pf, pf := h.pf.step (fun z hz => (h.po.lt z hz).2) s
    pl := h.pl.upd s.upd (fun z hz y hy => (h.pb z hz y hy).1)
    pb := fun z hz y hy => ⟨fun e => by rcases s.new _ e with e | e; exact (h.pb z hz y hy).1 e; have := (h.pb z hz y hy).2.1; omega, Nat.lt_of_lt_of_le (h.pb z hz y hy).2.1 s.upd.size, (h.pb z hz y hy).2.2⟩
    pw := h.pw }
/-- One payload more. -/
theorem L1.pay (h : L1 base M D F kd E T dn fn cn x0 w0 x wa wc W pa pc L w) {pa' : Option Addr} {pc' : Nat} {z : SL} (ho : Own encSL 22 w' w0.heap.size pa' (L.length + 1) pc' (L ++ [z])) (hu : Upd (· ∈ blk pa) w w') (hn : ∀ k ∈ blk pa', k ∈ blk pa ∨ w.heap.size ≤ k)
    (hz : ∃ l, RdB w z.1 z.2.1 z.2.2 l ∧ z.2.1 ≤ 1000) (hzb : ∀ y, z.1 = some y → y.block ∉ mset M x ∧ y.block < w.heap.size ∧ y.block ∉ blk pa) : L1 base M D F kd E T dn fn cn x0 w0 x wa wc W pa' pc' (L ++ [z]) w' := by
  have hk : ∀ k ∈ blk pa, k ∉ mset M x := fun k hk => by obtain ⟨y, hy, rfl⟩ := mem_blk.1 hk; exact h.pf y hy
  have hge : ∀ k ∈ blk pa, w0.heap.size ≤ k := fun k hk => by obtain ⟨y, hy, rfl⟩ := mem_blk.1 hk; exact (h.po.lt y hy).1
  have hb2 : ∀ u ∈ L ++ [z], ∀ y, u.1 = some y → y.block ∉ mset M x ∧ y.block < w.heap.size ∧ y.block ∉ blk pa := fun u hu y hy => by
    rcases List.mem_append.1 hu with hu | hu
    · exact h.pb u hu y hy
    · rw [List.mem_singleton.1 hu] at hy; exact hzb y hy
  have hl2 : AllB w (L ++ [z]) := fun u hu => by
    rcases List.mem_append.1 hu with hu | hu
    · exact h.pl u hu
    · rw [List.mem_singleton.1 hu]; exact hz
  have hlt := mset_lt h.ki.mi
  exact { ki := { h.ki with mi := h.ki.mi.keep hu (fun k hk2 e => hk k e hk2) (fun k hk2 y hy e => by have := hge _ e; have := (h.ar k hk2 y hy).1; omega) }
          hm := h.hm, hml := h.hml, gr := h.gr, st := h.st.own (hu.mono (G := fun k => w0.heap.size ≤ k) (fun k _ e => hge k e)), ar := h.ar
          wo := h.wo.upd hu (fun y hy e => h.pw _ e (mem_blk.2 ⟨y, hy, rfl⟩)), wf := h.wf, wb := h.wb
          po := by rw [List.length_append]; exact ho
          pf := fun y hy e => by rcases hn _ (mem_blk.2 ⟨y, hy, rfl⟩) with g | g; exact hk _ g e; have := (hlt _ e).2; omega
          pl := hl2.upd hu (fun u hu y hy => (hb2 u hu y hy).2.2)
          pb := fun u hu2 y hy => ⟨(hb2 u hu2 y hy).1, Nat.lt_of_lt_of_le (hb2 u hu2 y hy).2.1 hu.size, fun e => by rcases hn _ e with g | g; exact (hb2 u hu2 y hy).2.2 g; have := (hb2 u hu2 y hy).2.1; omega⟩
          pw := fun k hk2 e => by
            rcases hn k hk2 with g | g
            · exact h.pw k g e
            · obtain ⟨y, hy, rfl⟩ := mem_blk.1 e
              have := (h.wo.lt y hy).2
              omega }
/-- Which they are, anew. -/
theorem L1.who (h : L1 base M D F kd E T dn fn cn x0 w0 x wa wc W pa pc L w) {wa' : Option Addr} {wc' : Nat} {W' : List Int} (ho : Own (Value.int .i64) 3 w' w.heap.size wa' W'.length wc' W') (hb : Below w.heap.size w w') (hW : ∀ v ∈ W', 0 ≤ v ∧ v < (x.ds.length : Int)) : L1 base M D F kd E T dn fn cn x0 w0 x wa' wc' W' pa pc L w' :=
  { h.below hb with
    wo := ho.base (by have := h.st.upd.size; omega)
    wf := fun y hy e => by have := (mset_lt h.ki.mi _ e).2; have := (ho.lt y hy).1; omega
    wb := hW
    pw := fun k hk e => by
      obtain ⟨y, hy, rfl⟩ := mem_blk.1 e
      obtain ⟨u, hu, hku⟩ := mem_blk.1 hk
      have := (ho.lt y hy).1
      have := (h.po.lt u hu).2
      omega }
end
end Go.Proofs.Ytpkmdnfkeebgbaa

/- The Maker's head stored anew: its last three numbers, its boot. Conditions stand as premises. -/
namespace Go.Proofs.Ytpkmdnfkeebgbaa
open Go.ChangeShapes Go.WideShapes Go.ChangeAt Go.RowKit
set_option linter.unusedVariables false
set_option linter.unusedSimpArgs false
section
variable {base M D F : Nat} {kd : Bool} {E : Nat} {x : Mk} {w : World}
theorem MI.newHd (h : MI base M D F kd E x w) {w1 : World} {hd' : List Value} {E' : Nat} (hu : Upd (· = M) w w1) (hr : w1.heap[M]? = some (.cells (mkL { x with hd := hd' }).toArray 96 (0, 0))) (hd : HdI hd' D F E') : MI base M D F kd E' { x with hd := hd' } w1 := by
  exact { row := hr, bM := h.bM, cfg := h.cfg, hd := hd, dp := h.dp, bB := h.bB
          bO := h.bO.upd hu (fun z hz e => h.nb (mem_blk.2 ⟨z, hz, e⟩))
          dO := h.dO.upd hu (fun z hz e => h.nd (mem_blk.2 ⟨z, hz, e⟩))
          fO := h.fO.upd hu (fun z hz e => h.nf (mem_blk.2 ⟨z, hz, e⟩))
          mO := h.mO.upd hu (fun z hz e => h.nm (mem_blk.2 ⟨z, hz, e⟩))
          mU := h.mU
          arr := fun k hk => ⟨(h.arr k hk).1.upd hu (fun z hz e => ((h.arr k hk).2.2 z hz).2.2 (by rw [e]; exact mset_M)), (h.arr k hk).2.1, fun z hz => by
            obtain ⟨q1, q2, q3⟩ := (h.arr k hk).2.2 z hz
            exact ⟨q1, Nat.lt_of_lt_of_le q2 hu.size, q3⟩⟩
          nb := h.nb, nd := h.nd, nf := h.nf, nm := h.nm, bd := h.bd, bf := h.bf, bm := h.bm, df := h.df, dm := h.dm, fm := h.fm }
theorem MI.cTa (h : MI base M D F kd E x w) : ∃ v, w.cell? ⟨M, 139, none⟩ = some (.int .u32 v) := by
  obtain ⟨co, inc, st, I, Ns, ta, ti, te, hh⟩ := h.hd
  refine ⟨ta, cell_of_heap h.row (52 + 87) _ (mkL_hget h.cfg.len 87 _ ?_)⟩
  have := headL_ta (co := co) (inc := inc) (st := st) (ta := ta) (ti := ti) (te := te) hh.il hh.ns.len
  rw [hh.eq]; simpa using this
theorem MI.cTi (h : MI base M D F kd E x w) : ∃ v, w.cell? ⟨M, 140, none⟩ = some (.int .u32 v) := by
  obtain ⟨co, inc, st, I, Ns, ta, ti, te, hh⟩ := h.hd
  refine ⟨ti, cell_of_heap h.row (52 + 88) _ (mkL_hget h.cfg.len 88 _ ?_)⟩
  have := headL_ti (co := co) (inc := inc) (st := st) (ta := ta) (ti := ti) (te := te) hh.il hh.ns.len
  rw [hh.eq]; simpa using this
theorem MI.cTe (h : MI base M D F kd E x w) : ∃ v, w.cell? ⟨M, 141, none⟩ = some (.int .u64 v) := by
  obtain ⟨co, inc, st, I, Ns, ta, ti, te, hh⟩ := h.hd
  refine ⟨te, cell_of_heap h.row (52 + 89) _ (mkL_hget h.cfg.len 89 _ ?_)⟩
  have := headL_te (co := co) (inc := inc) (st := st) (ta := ta) (ti := ti) (te := te) hh.il hh.ns.len
  rw [hh.eq]; simpa using this
theorem HdI.setTa {hd : List Value} (h : HdI hd D F E) (v : Int) (hv : U32 v) : HdI (hd.set 87 (.int .u32 v)) D F E := by
  obtain ⟨co, inc, st, I, Ns, ta, ti, te, hh⟩ := h
  have hs := headL_setTa (co := co) (inc := inc) (st := st) (ta := ta) (ti := ti) (te := te) hh.il hh.ns.len v
  rw [List.setIfInBounds_toArray] at hs
  exact ⟨co, inc, st, I, Ns, v, ti, te, by rw [hh.eq]; exact List.toArray_inj hs, hh.co, hh.inc, hh.il, hh.ib, hh.ns, hv, hh.ti, hh.te⟩
theorem HdI.setTi {hd : List Value} (h : HdI hd D F E) (v : Int) (hv : U32 v) : HdI (hd.set 88 (.int .u32 v)) D F E := by
  obtain ⟨co, inc, st, I, Ns, ta, ti, te, hh⟩ := h
  have hs := headL_setTi (co := co) (inc := inc) (st := st) (ta := ta) (ti := ti) (te := te) hh.il hh.ns.len v
  rw [List.setIfInBounds_toArray] at hs
  exact ⟨co, inc, st, I, Ns, ta, v, te, by rw [hh.eq]; exact List.toArray_inj hs, hh.co, hh.inc, hh.il, hh.ib, hh.ns, hh.ta, hv, hh.te⟩
theorem HdI.setTe {hd : List Value} (h : HdI hd D F E) (v : Int) (hv : U64 v) : HdI (hd.set 89 (.int .u64 v)) D F E := by
  obtain ⟨co, inc, st, I, Ns, ta, ti, te, hh⟩ := h
  have hs := headL_setTe (co := co) (inc := inc) (st := st) (ta := ta) (ti := ti) (te := te) hh.il hh.ns.len v
  rw [List.setIfInBounds_toArray] at hs
  exact ⟨co, inc, st, I, Ns, ta, ti, v, by rw [hh.eq]; exact List.toArray_inj hs, hh.co, hh.inc, hh.il, hh.ib, hh.ns, hh.ta, hh.ti, hv⟩
theorem HdI.setBoot {hd : List Value} (h : HdI hd D F E) (B : List Int) (hB : IsB B) (hl : B.length = 16) : HdI (splice hd 35 (B.map (Value.int .u8))) D F E := by
  obtain ⟨co, inc, st, I, Ns, ta, ti, te, hh⟩ := h
  have hs := headL_spliceI (co := co) (inc := inc) (st := st) (Ns := Ns) (ta := ta) (ti := ti) (te := te) hh.il 32 B hl (by omega)
  refine ⟨co, inc, st, I.take 32 ++ (B ++ I.drop 48), Ns, ta, ti, te, by rw [hh.eq]; exact hs, hh.co, hh.inc, ?_, (hh.ib.take _).append (hB.append (hh.ib.drop _)), hh.ns, hh.ta, hh.ti, hh.te⟩
  have := hh.il
  simp only [List.length_append, List.length_take, List.length_drop]
  omega
theorem MI.setBoot (h : MI base M D F kd E x w) (B : List Int) (hB : IsB B) (hl : B.length = 16) : MI base M D F kd E { x with hd := splice x.hd 35 (B.map (Value.int .u8)) } (w.setCells M 87 (B.map (Value.int .u8))) := by
  refine h.newHd (upd_sets M _ 87 w) ?_ (h.hd.setBoot B hB hl)
  have hc := h.cfg.len
  have hh := h.hd.len
  rw [row_sets (B.map (Value.int .u8)) 87 w _ h.row (by rw [mkL_size hc hh, List.length_map, hl]; omega)]
  congr 3
  unfold mkL splice
  simp only [List.length_map, hl]
  rw [List.take_append, List.take_of_length_le (by omega), hc, List.drop_append, List.drop_of_length_le (by omega), List.nil_append, hc, List.take_append, List.drop_append, hh]
  simp only [Nat.reduceSub, Nat.reduceAdd, List.take_zero, List.append_nil, List.append_assoc, List.drop_zero, Nat.sub_self]
end
theorem totF_ge : ∀ r, r ≤ totF r := by
  intro r
  induction r with
  | zero => exact Nat.le_refl _
  | succ r ih => have := roomF_lo r; simp only [totF]; omega
theorem ChainOK.short {B n : Nat} {al : List Int} (h : ChainOK B al n) : al.length ≤ n + 1 := by
  have h1 := h.lo
  have h2 := totF_ge (al.length - 1)
  omega
theorem MkI.arrs {base M D F : Nat} {kd : Bool} {E T dn fn cn : Nat} {x : Mk} {w : World} (h : MkI base M D F kd E T dn fn cn x w) : ∀ y ∈ x.ds, y.arr.2.1 ≤ 101 ∧ y.al.length = y.arr.2.1 := fun y hy => by
  obtain ⟨_, _, _, h4, h5, h6⟩ := h.ds y hy
  have h1 := (h.mi.arr y hy).1.1
  refine ⟨?_, h1⟩
  rcases Nat.eq_zero_or_pos y.count with hc | hc
  · rw [h5 hc] at h1; rw [← h1]; simp
  · have := (h6 hc).short
    omega
theorem roomF_few {r n : Nat} (h : n = totF r) (hn : n ≤ 11) : roomF r ≤ 8 := by
  match r, h with
  | 0, _ => decide
  | 1, _ => decide
  | 2, h => exfalso; have : totF 2 = 12 := by decide
            omega
  | r + 3, h =>
    exfalso
    have h1 := roomF_lo r
    have h2 := roomF_lo (r + 1)
    have h3 := roomF_lo (r + 2)
    simp only [totF] at h
    omega
theorem roomF_some {r n : Nat} (h : n = totF r) (hn : n ≤ 50) : roomF r ≤ 32 := by
  match r, h with
  | 0, _ => decide
  | 1, _ => decide
  | 2, _ => decide
  | 3, _ => decide
  | r + 4, h =>
    exfalso
    have h1 : totF 4 = 60 := by decide
    have h2 : ∀ k, totF 4 ≤ totF (k + 4) := by
      intro k
      induction k with
      | zero => exact Nat.le_refl _
      | succ k ih => rw [show k + 1 + 4 = k + 4 + 1 by omega]; simp only [totF] at ih ⊢; omega
    have := h2 r
    omega
/-- What the rest of Append goes on with. -/
structure L2 (base M D F : Nat) (kd : Bool) (E T dn fn cn : Nat) (x0 : Mk) (w0 : World) (x : Mk) (wa : Option Addr) (wc : Nat) (W : List Int) (w : World) : Prop where
  ki : MkI base M D F kd E T dn fn cn x w
  st : Step M x0 w0 x w
  wo : Own (Value.int .i64) 3 w w0.heap.size wa W.length wc W
  wf : Off M x wa
  wb : ∀ v ∈ W, 0 ≤ v ∧ v < (x.ds.length : Int)
  ar : ∀ k ∈ x.ds, ∀ z, k.arr.1 = some z → z.block ∈ ablk x0 ∨ w0.heap.size ≤ z.block
theorem L1.rest {base M D F : Nat} {kd : Bool} {E T dn fn cn : Nat} {x0 x : Mk} {w0 w : World} {wa pa : Option Addr} {wc pc : Nat} {W : List Int} {L : List SL} (h : L1 base M D F kd E T dn fn cn x0 w0 x wa wc W pa pc L w) : L2 base M D F kd E T dn fn cn x0 w0 x wa wc W w := ⟨h.ki, h.st, h.wo, h.wf, h.wb, fun k hk z hz => .inl (h.ar k hk z hz).2⟩
theorem L2.step {base M D F : Nat} {kd : Bool} {E T dn fn cn : Nat} {x0 x x' : Mk} {w0 w w' : World} {wa : Option Addr} {wc : Nat} {W : List Int} (h : L2 base M D F kd E T dn fn cn x0 w0 x wa wc W w) {E' T' dn' fn' cn' : Nat} (hk : MkI base M D F kd E' T' dn' fn' cn' x' w') (s : Step M x w x' w') (hd : x.ds.length ≤ x'.ds.length) (ha : ∀ k ∈ x'.ds, k ∈ x.ds ∨ ∀ z, k.arr.1 = some z → z.block ∈ ablk x0 ∨ w0.heap.size ≤ z.block) : L2 base M D F kd E' T' dn' fn' cn' x0 w0 x' wa wc W w' :=
  ⟨hk, h.st.trans s, h.wo.upd s.upd h.wf, h.wf.step (fun z hz => (h.wo.lt z hz).2) s, fun v hv => by have := h.wb v hv; omega, fun k hk z hz => by rcases ha k hk with g | g; exact h.ar k g z hz; exact g z hz⟩
theorem L2.below {base M D F : Nat} {kd : Bool} {E T dn fn cn : Nat} {x0 x : Mk} {w0 w w' : World} {wa : Option Addr} {wc : Nat} {W : List Int} (h : L2 base M D F kd E T dn fn cn x0 w0 x wa wc W w) (hb : Below w.heap.size w w') : L2 base M D F kd E T dn fn cn x0 w0 x wa wc W w' :=
  h.step (h.ki.below hb) (Step.below hb) (Nat.le_refl _) (fun k hk => .inl hk)
theorem L2.hd {base M D F : Nat} {kd : Bool} {E T dn fn cn : Nat} {x0 x : Mk} {w0 w w' : World} {wa : Option Addr} {wc : Nat} {W : List Int} (h : L2 base M D F kd E T dn fn cn x0 w0 x wa wc W w) {hd' : List Value} {E' : Nat} (hm : MI base M D F kd E' { x with hd := hd' } w') (hu : Upd (· = M) w w') : L2 base M D F kd E' T dn fn cn x0 w0 { x with hd := hd' } wa wc W w' :=
  h.step ⟨hm, h.ki.fs, h.ki.ds, h.ki.md, h.ki.lo, h.ki.hi, h.ki.dn, h.ki.fn, h.ki.cn⟩ ⟨hu.mono (fun k _ e => by rw [e]; exact mset_M), fun k hk => .inl hk⟩ (Nat.le_refl _) (fun k hk => .inl hk)
/-- The chain of all entries has one more. -/
theorem link_main {base M D F : Nat} {kd : Bool} {E T dn fn cn : Nat} {x : Mk} {w w' : World} (h : MkI base M D F kd E T dn fn cn x w) {G : Nat} {a' : Option Addr} {c' : Nat} {al' : List Int} {b' : SL} {hd' : List Value} {l' : List Int}
    (hm : MI base M D F kd E { x with b := b', bl := l', hd := hd' } w') (ho : (a' = x.m.1 ∧ c' = x.m.2.2 ∧ al' = x.ml) ∨ (Own (Value.int .u64) 27 w' w.heap.size a' al'.length c' al' ∧ ∀ k ∈ blk a', k ∉ blk b'.1))
    (hu : ∀ v ∈ al', U64 v) (h1 : x.bl.length ≤ l'.length) (h2 : l'.length ≤ x.bl.length + G) (h3 : l'.length % 8 = x.bl.length % 8) (hU : Upd (fun k => k = M ∨ k ∈ blk x.b.1) w w') (hN : ∀ k ∈ blk b'.1, k ∈ blk x.b.1 ∨ w.heap.size ≤ k) (hb : base ≤ w.heap.size) :
    MkI base M D F kd E (T + G) dn fn cn { x with b := b', bl := l', hd := hd', m := (a', al'.length, c'), ml := al' } (w'.setCell ⟨M, 146, none⟩ (.slice a' al'.length c')) ∧ Step M x w { x with b := b', bl := l', hd := hd', m := (a', al'.length, c'), ml := al' } (w'.setCell ⟨M, 146, none⟩ (.slice a' al'.length c')) := by
  have hlt := mset_lt h.mi
  have hml : x.ml.length = x.m.2.1 := h.mi.mO.1
  have hO : Own (Value.int .u64) 27 w' base a' al'.length c' al' := by
    rcases ho with ⟨e1, e2, e3⟩ | ⟨ho, _⟩
    · have := hm.mO
      rw [e1, e2, e3, hml]; exact this
    · exact ho.base hb
  have hge : (a' = x.m.1) ∨ ∀ k ∈ blk a', w.heap.size ≤ k ∧ k ∉ blk b'.1 := by
    rcases ho with ⟨e1, _, _⟩ | ⟨ho, hd⟩
    · exact .inl e1
    · exact .inr fun k hk => ⟨by obtain ⟨z, hz, rfl⟩ := mem_blk.1 hk; exact (ho.lt z hz).1, hd k hk⟩
  have hP := hm.putM hO hu (by
    rcases hge with e | hge
    · exact .inl e
    · refine .inr fun k hk => ⟨fun e => ?_, fun q hq z hz e => ?_⟩
      · obtain ⟨g1, g2⟩ := hge k hk
        rcases mset_iff.1 e with e | e | e | e | e
        · have := (hlt M mset_M).2; omega
        · exact g2 e
        · have := (hlt k (mset_d e)).2; omega
        · have := (hlt k (mset_f e)).2; omega
        · have := (hlt k (mset_m e)).2; omega
      · have g1 := (hge k hk).1
        have := ((h.mi.arr q hq).2.2 z hz).2.1
        omega)
  refine ⟨⟨hP, h.fs.grow h1, h.ds.grow h1, by show l'.length % 8 = 0; rw [h3]; exact h.md, by have := h.lo; show _ ≤ l'.length; omega, by have := h.hi; show l'.length ≤ _; omega, h.dn, h.fn, h.cn⟩, ⟨?_, fun k hk => ?_⟩⟩
  · have hu2 : Upd (fun k => k = M ∨ k ∈ blk x.b.1) w (w'.setCell ⟨M, 146, none⟩ (.slice a' al'.length c')) := hU.trans (Upd.setCell (F := (· = M)) w' ⟨M, 146, none⟩ (.slice a' al'.length c') rfl) (fun k _ e => .inl e)
    exact hu2.mono (fun k _ e => by rcases e with e | e; rw [e]; exact mset_M; exact mset_b e)
  · rcases mset_iff.1 hk with e | e | e | e | e
    · exact .inl (by rw [e]; exact mset_M)
    · rcases hN k e with g | g; exact .inl (mset_b g); exact .inr g
    · exact .inl (mset_d e)
    · exact .inl (mset_f e)
    · rcases hge with g | g
      · refine .inl (mset_m ?_); rw [← g]; exact e
      · exact .inr (g k e).1
end Go.Proofs.Ytpkmdnfkeebgbaa

/- A data of the Maker, taken out, turned and put back. Conditions stand as premises. -/
namespace Go.Proofs.Ytpkmdnfkeebgbaa
open Go.ChangeShapes Go.WideShapes Go.ChangeAt Go.RowKit
set_option linter.unusedVariables false
set_option linter.unusedSimpArgs false
theorem step_storeKN {α : Type} {enc : α → List Value} {k : Nat} {P : Program} {w : World} {o : Oper} {a : Act} {ops : Array Oper} {Q : Exit → Act → World → Prop} {K : Act → World → Prop} {X : Prop} (hE : EncK enc k) (hgd : o.guard = none) {t : TypeId} {y z : Operand} (ho : o.op = .store t y z) (hd : o.dst = none) (hI : RowInfo P t k) {e : TypeId} {base g p n c : Nat} {l : List α} (hy : a.eval y = .pointer (some ⟨g, p, none⟩)) {x : α} (hz : a.eval z = .agg (enc x).toArray)
    (hown : OwnK enc k e w base (some ⟨g, 0, none⟩) n c l) {i : Nat} (hp : p = i * k) (hi : i < n)
    (h : ∀ w', OwnK enc k e w' base (some ⟨g, 0, none⟩) n c (l.set i x) → Upd (· = g) w w' → K a w') :
    if Region.wanted o (yielded ops a.tmps) = true then Oper.wp P o a w K Q else X := by
  subst hp
  obtain ⟨h1, h2⟩ := hown.put hE i hi x
  have hw : Region.wanted o (yielded ops a.tmps) = true := by simp [Region.wanted, hgd]
  rw [if_pos hw]
  refine wp_store_mid t y z ho g (i * k) (enc x).toArray hy hz (by rw [List.size_toArray, hE.len]; exact h2) (by rw [hI.2, List.size_toArray, hE.len]) (all_oneCell_toArray (hE.one x)) ?_
  rw [hd]
  exact h _ (by simpa using h1) (by simpa using upd_sets g (enc x) (i * k) w)
/-- The data lies at DB, and is the Maker's no more. -/
structure DI (base M D F : Nat) (kd : Bool) (E T dn fn cn : Nat) (x0 : Mk) (w0 : World) (y : Mk) (wa : Option Addr) (wc : Nat) (W : List Int) (DB : Nat) (q : Kn) (w : World) : Prop where
  l2 : L2 base M D F kd E T dn fn cn x0 w0 y wa wc W w
  row : w.heap[DB]? = some (.cells (encKn q).toArray 110 (0, 0))
  nB : w0.heap.size ≤ DB
  nD : DB ∉ mset M y
  nW : DB ∉ blk wa
  nR : ∀ k ∈ y.ds, ∀ z, k.arr.1 = some z → z.block ≠ DB
  rd : Rd (Value.int .u64) w q.arr.1 q.arr.2.1 q.arr.2.2 q.al
  u : ∀ v ∈ q.al, U64 v
  ar : ∀ z, q.arr.1 = some z → base ≤ z.block ∧ z.block < w.heap.size ∧ z.block ∉ mset M y ∧ z.block ≠ DB ∧ (z.block ∈ ablk x0 ∨ w0.heap.size ≤ z.block)
section
variable {base M D F : Nat} {kd : Bool} {E T dn fn cn : Nat} {x0 y : Mk} {w0 w w' : World} {wa : Option Addr} {wc : Nat} {W : List Int} {DB : Nat} {q : Kn}
theorem DI.start (h : L2 base M D F kd E T dn fn cn x0 w0 y wa wc W w) (hb : Below w.heap.size w w') (hr : w'.heap[DB]? = some (.cells (encKn q).toArray 110 (0, 0))) (hD : w.heap.size ≤ DB) (hq : q ∈ y.ds) : DI base M D F kd E T dn fn cn x0 w0 y wa wc W DB q w' := by
  have h' := h.below hb
  have ha := h.ki.mi.arr q hq
  have hlt := mset_lt h.ki.mi
  exact { l2 := h', row := hr, nB := Nat.le_trans h.st.upd.size hD, nD := fun e => by have := (hlt _ e).2; omega
          nW := fun e => by obtain ⟨z, hz, rfl⟩ := mem_blk.1 e; have := (h.wo.lt z hz).2; omega
          nR := fun k hk z hz e => by have := ((h.ki.mi.arr k hk).2.2 z hz).2.1; omega
          rd := ha.1.mono hb, u := ha.2.1
          ar := fun z hz => by obtain ⟨q1, q2, q3⟩ := ha.2.2 z hz; exact ⟨q1, Nat.lt_of_lt_of_le q2 hb.size, q3, by omega, h.ar q hq z hz⟩ }
theorem DI.below (h : DI base M D F kd E T dn fn cn x0 w0 y wa wc W DB q w) (hb : Below w.heap.size w w') : DI base M D F kd E T dn fn cn x0 w0 y wa wc W DB q w' :=
  { h with l2 := h.l2.below hb, row := row_below hb (lt_of_heap h.row) h.row, rd := h.rd.mono hb, ar := fun z hz => by obtain ⟨q1, q2, q3⟩ := h.ar z hz; exact ⟨q1, Nat.lt_of_lt_of_le q2 hb.size, q3⟩ }
theorem L2.mono (h : L2 base M D F kd E T dn fn cn x0 w0 y wa wc W w) {T' cn' : Nat} (h1 : T ≤ T') (h2 : cn ≤ cn') : L2 base M D F kd E T' dn fn cn' x0 w0 y wa wc W w := { h with ki := h.ki.mono h1 (Nat.le_refl _) (Nat.le_refl _) h2 }
theorem DI.mono (h : DI base M D F kd E T dn fn cn x0 w0 y wa wc W DB q w) {T' : Nat} (h1 : T ≤ T') : DI base M D F kd E T' dn fn cn x0 w0 y wa wc W DB q w := { h with l2 := h.l2.mono h1 (Nat.le_refl _) }
/-- Eight bytes are put. -/
theorem DI.put (h : DI base M D F kd E T dn fn cn x0 w0 y wa wc W DB q w) {l' : List Int} (hl : l'.length = y.bl.length) (hm : MI base M D F kd E { y with bl := l' } w') (hu : Upd (· ∈ blk y.b.1) w w') : DI base M D F kd E T dn fn cn x0 w0 { y with bl := l' } wa wc W DB q w' := by
  have k := h.l2.ki
  have hki : MkI base M D F kd E T dn fn cn { y with bl := l' } w' := ⟨hm, by show FsOK l'.length F y.fs; rw [hl]; exact k.fs, by show DsOK l'.length D y.ds; rw [hl]; exact k.ds, by show l'.length % 8 = 0; rw [hl]; exact k.md, by show _ ≤ l'.length; rw [hl]; exact k.lo, by show l'.length ≤ T; rw [hl]; exact k.hi, k.dn, k.fn, k.cn⟩
  have hs : Step M y w { y with bl := l' } w' := ⟨hu.mono (fun k _ e => mset_b e), fun k hk => .inl hk⟩
  exact { l2 := h.l2.step hki hs (Nat.le_refl _) (fun k hk => .inl hk), row := row_upd hu (fun e => h.nD (mset_b e)) h.row, nB := h.nB, nD := h.nD, nW := h.nW, nR := h.nR
          rd := h.rd.upd hu (fun z hz e => (h.ar z hz).2.2.1 (mset_b e)), u := h.u
          ar := fun z hz => by obtain ⟨q1, q2, q3⟩ := h.ar z hz; exact ⟨q1, Nat.lt_of_lt_of_le q2 hu.size, q3⟩ }
/-- A cell of it is stored. -/
theorem DI.cell (h : DI base M D F kd E T dn fn cn x0 w0 y wa wc W DB q w) {q' : Kn} (j : Nat) (v : Value) (he : (encKn q).toArray.setIfInBounds j v = (encKn q').toArray) (hrd : Rd (Value.int .u64) w q'.arr.1 q'.arr.2.1 q'.arr.2.2 q'.al) (hu : ∀ v ∈ q'.al, U64 v) (har : ∀ z, q'.arr.1 = some z → base ≤ z.block ∧ z.block < w.heap.size ∧ z.block ∉ mset M y ∧ z.block ≠ DB ∧ (z.block ∈ ablk x0 ∨ w0.heap.size ≤ z.block)) :
    DI base M D F kd E T dn fn cn x0 w0 y wa wc W DB q' (w.setCell ⟨DB, j, none⟩ v) := by
  have hup := Upd.setCell (F := (· = DB)) w ⟨DB, j, none⟩ v rfl
  have k := h.l2.ki
  have hmi : MI base M D F kd E y (w.setCell ⟨DB, j, none⟩ v) := k.mi.keep hup (fun k hk e => h.nD (by rw [← e]; exact hk)) (fun k hk z hz e => h.nR k hk z hz e)
  have hst := h.l2.st.own (hup.mono (G := fun k => w0.heap.size ≤ k) (fun k _ e => by rw [e]; exact h.nB))
  have hr := row_set h.row j v
  rw [he] at hr
  exact { l2 := ⟨{ k with mi := hmi }, hst, h.l2.wo.upd hup (fun z hz e => h.nW (mem_blk.2 ⟨z, hz, e⟩)), h.l2.wf, h.l2.wb, h.l2.ar⟩
          row := hr, nB := h.nB, nD := h.nD, nW := h.nW, nR := h.nR
          rd := hrd.upd hup (fun z hz => (har z hz).2.2.2.1), u := hu
          ar := fun z hz => by obtain ⟨q1, q2, q3⟩ := har z hz; exact ⟨q1, by simpa using q2, q3⟩ }
/-- Its chain has one more. -/
theorem DI.link (h : DI base M D F kd E T dn fn cn x0 w0 y wa wc W DB q w) {G : Nat} {a' : Option Addr} {c' : Nat} {al' : List Int} {b' : SL} {hd' : List Value} {l' : List Int}
    (hm : MI base M D F kd E { y with b := b', bl := l', hd := hd' } w') (ho : (a' = q.arr.1 ∧ c' = q.arr.2.2 ∧ al' = q.al) ∨ (Own (Value.int .u64) 27 w' w.heap.size a' al'.length c' al' ∧ ∀ k ∈ blk a', k ∉ blk b'.1))
    (h1 : y.bl.length ≤ l'.length) (h2 : l'.length ≤ y.bl.length + G) (h3 : l'.length % 8 = y.bl.length % 8) (hU : Upd (fun k => k = M ∨ k ∈ blk y.b.1) w w') (hN : ∀ k ∈ blk b'.1, k ∈ blk y.b.1 ∨ w.heap.size ≤ k) (hb : base ≤ w.heap.size) :
    DI base M D F kd E (T + G) dn fn cn x0 w0 { y with b := b', bl := l', hd := hd' } wa wc W DB q w' ∧ (∀ z, a' = some z → base ≤ z.block ∧ z.block < w'.heap.size ∧ z.block ∉ mset M { y with b := b', bl := l', hd := hd' } ∧ z.block ≠ DB ∧ (z.block ∈ ablk x0 ∨ w0.heap.size ≤ z.block)) := by
  have k := h.l2.ki
  have hlt := mset_lt k.mi
  have hDl := lt_of_heap h.row
  have hki : MkI base M D F kd E (T + G) dn fn cn { y with b := b', bl := l', hd := hd' } w' := ⟨hm, k.fs.grow h1, k.ds.grow h1, by show l'.length % 8 = 0; rw [h3]; exact k.md, by have := k.lo; show _ ≤ l'.length; omega, by have := k.hi; show l'.length ≤ _; omega, k.dn, k.fn, k.cn⟩
  have hup : Upd (· ∈ mset M y) w w' := hU.mono (fun k _ e => by rcases e with e | e; rw [e]; exact mset_M; exact mset_b e)
  have hnew : ∀ k ∈ mset M { y with b := b', bl := l', hd := hd' }, k ∈ mset M y ∨ w.heap.size ≤ k := fun k hk => by
    rcases mset_iff.1 hk with e | e | e | e | e
    · exact .inl (by rw [e]; exact mset_M)
    · rcases hN k e with g | g; exact .inl (mset_b g); exact .inr g
    · exact .inl (mset_d e)
    · exact .inl (mset_f e)
    · exact .inl (mset_m e)
  have hs : Step M y w { y with b := b', bl := l', hd := hd' } w' := ⟨hup, hnew⟩
  refine ⟨{ l2 := h.l2.step hki hs (Nat.le_refl _) (fun k hk => .inl hk), row := row_upd hup h.nD h.row, nB := h.nB, nD := fun e => by rcases hnew _ e with g | g; exact h.nD g; omega
            nW := h.nW, nR := h.nR, rd := h.rd.upd hup (fun z hz => (h.ar z hz).2.2.1), u := h.u
            ar := fun z hz => by
              obtain ⟨q1, q2, q3, q4⟩ := h.ar z hz
              exact ⟨q1, Nat.lt_of_lt_of_le q2 hup.size, fun e => by rcases hnew _ e with g | g; exact q3 g; omega, q4⟩ }, fun z hz => ?_⟩
  rcases ho with ⟨e, _, _⟩ | ⟨ho, hd⟩
  · rw [e] at hz
    obtain ⟨q1, q2, q3, q4⟩ := h.ar z hz
    exact ⟨q1, Nat.lt_of_lt_of_le q2 hup.size, fun e => by rcases hnew _ e with g | g; exact q3 g; omega, q4⟩
  · obtain ⟨g1, g2⟩ := ho.lt z hz
    refine ⟨by omega, g2, fun e => ?_, by omega, .inr (Nat.le_trans h.l2.st.upd.size g1)⟩
    rcases mset_iff.1 e with e | e | e | e | e
    · have := (hlt M mset_M).2; omega
    · exact hd _ (mem_blk.2 ⟨z, hz, rfl⟩) e
    · have := (hlt _ (mset_d e)).2; omega
    · have := (hlt _ (mset_f e)).2; omega
    · have := (hlt _ (mset_m e)).2; omega
/-- It is put back. -/
theorem DI.back (h : DI base M D F kd E T dn fn cn x0 w0 y wa wc W DB q w) {vn cn' : Nat} (ho : OwnK encKn 5 110 w' base y.d.1 y.d.2.1 y.d.2.2 (y.ds.set vn q)) (hu : Upd (· ∈ blk y.d.1) w w')
    (hq : q.pl + 64 ≤ y.bl.length ∧ q.slot < D ∧ q.text.size ≤ 49 ∧ q.count ≤ 100 ∧ (q.count = 0 → q.al = []) ∧ (0 < q.count → ChainOK y.bl.length q.al (q.count - 1))) (hc : cn ≤ cn') (hc2 : q.count ≤ cn') :
    L2 base M D F kd E T dn fn cn' x0 w0 { y with ds := y.ds.set vn q } wa wc W w' := by
  have k := h.l2.ki
  have hmem : ∀ u ∈ y.ds.set vn q, u ∈ y.ds ∨ u = q := fun u hu => List.mem_or_eq_of_mem_set hu
  have hmi : MI base M D F kd E { y with ds := y.ds.set vn q } w' := k.mi.sameD ho hu (fun u hu => by
    rcases hmem u hu with hu | rfl
    · exact k.mi.arr u hu
    · exact ⟨h.rd, h.u, fun z hz => by obtain ⟨q1, q2, q3, _⟩ := h.ar z hz; exact ⟨q1, q2, q3⟩⟩)
  refine h.l2.step ⟨hmi, k.fs, fun u hu => ?_, k.md, k.lo, k.hi, by show (y.ds.set vn q).length ≤ dn; rw [List.length_set]; exact k.dn, k.fn, fun u hu => ?_⟩ ⟨hu.mono (fun k _ e => mset_d e), fun k hk => .inl hk⟩ (by show _ ≤ (y.ds.set vn q).length; rw [List.length_set]; exact Nat.le_refl _) (fun u hu => by
    rcases hmem u hu with hu | rfl
    · exact .inl hu
    · exact .inr fun z hz => (h.ar z hz).2.2.2.2)
  · rcases hmem u hu with hu | rfl
    · exact k.ds u hu
    · exact hq
  · rcases hmem u hu with hu | rfl
    · exact Nat.le_trans (k.cn u hu) hc
    · exact hc2
end
end Go.Proofs.Ytpkmdnfkeebgbaa
