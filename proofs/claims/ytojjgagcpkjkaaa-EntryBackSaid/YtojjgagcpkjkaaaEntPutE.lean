/- What entry.Put computes. Conditions stand as premises. -/
import Derived.Test.YtojjgagcpkjkaaaEntPutA
import Derived.Test.YtojjgagcpkjkaaaEntId
namespace Go.Proofs.Ytojjgagcpkjkaaa
open Go.ChangeShapes Go.WideShapes Go.ChangeAt Go.RowKit
set_option linter.unusedVariables false
set_option linter.unusedSimpArgs false

def entH (s r m : Int) (B : List Int) (x : Int) : List Int := numsL [s, r, m] ++ B ++ numsL [x]
def putEntL (s r m : Int) (B : List Int) (x : Int) (ps : List PR) : List Int := putO 3 (entH s r m B x ++ numsL (flatN ps))
theorem entH_length {s r m : Int} {B : List Int} {x : Int} (h : B.length = 16) : (entH s r m B x).length = 48 := by
  unfold entH; simp only [List.length_append, numsL_length, h, List.length_cons, List.length_nil]
theorem RdB.mk2 {w : World} {a : Option Addr} {n c : Nat} {l : List Int} (h1 : IsB l) (h2 : Rd (Value.int .u8) w a n c l) : RdB w a n c l := ⟨h1, h2⟩

theorem num3_any (a2 : Option Addr) (c2 : Nat) (s r m : Int) (w : World) (hr : Rd (Value.int .u64) w a2 3 c2 [s, r, m]) (h1 : U64 s) (h2 : U64 r) (h3 : U64 m) :
    Calls Try.prog 30 #[.slice none 0 0, .slice a2 3 c2] w fun e w' => ∃ a1 c1, e = .returned (.slice a1 24 c1) ∧ OwnB 5 w' w.heap.size a1 24 c1 (numsL [s, r, m]) ∧ Below w.heap.size w w' := by
  refine (entnums_any none 0 0 [] a2 3 c2 [s, r, m] w ⟨IsB.nil, (Own.nil (Value.int .u8) 5 w 0).rd⟩ hr (by intro v hv; simp at hv; rcases hv with rfl | rfl | rfl; exact h1; exact h2; exact h3) (by omega) (by omega)).mono ?_
  rintro e w' ⟨a1, c1, rfl, hr1, hb1, ho⟩
  exact ⟨a1, c1, rfl, by simpa using ho (by simp), hb1⟩
theorem num4_any (a1 : Option Addr) (c1 : Nat) (a2 : Option Addr) (c2 : Nat) (s r m x : Int) (B : List Int) (w : World) (hB : B.length = 16) (hr1 : RdB w a1 40 c1 (numsL [s, r, m] ++ B)) (hr : Rd (Value.int .u64) w a2 1 c2 [x]) (hx : U64 x) :
    Calls Try.prog 30 #[.slice a1 40 c1, .slice a2 1 c2] w fun e w' => ∃ a3 c3, e = .returned (.slice a3 48 c3) ∧ RdB w' a3 48 c3 (entH s r m B x) ∧ Below w.heap.size w w' := by
  refine (entnums_any a1 40 c1 _ a2 1 c2 [x] w hr1 hr (by intro v hv; simp at hv; subst hv; exact hx) (by omega) (by omega)).mono ?_
  rintro e w' ⟨a3, c3, rfl, hr3, hb3, -⟩
  have hl : (numsL [s, r, m] ++ B).length + 8 * [x].length = 48 := by simp only [List.length_append, numsL_length, hB, List.length_cons, List.length_nil]
  rw [hl] at hr3 ⊢
  exact ⟨a3, c3, rfl, hr3, hb3⟩

set_option maxRecDepth 100000 in
set_option maxHeartbeats 2000000 in
theorem entput_any (s r m : Int) (B : List Int) (x : Int) (a : Option Addr) (n c : Nat) (ps : List PR) (w : World) (hB : IsB B) (hBl : B.length = 16) (h1 : U64 s) (h2 : U64 r) (h3 : U64 m) (h4 : U64 x) (hr : RdP w a n c ps) (hu : ∀ p ∈ ps, U64 p.1 ∧ U64 p.2) (hn : n ≤ 1000) :
    Calls Try.prog 11 #[entV s r m B x a n c] w (NewB w.heap.size w (putEntL s r m B x ps)) := by
  obtain rfl : ps.length = n := hr.1
  rw [entV_eq]
  have HBl := Lib.hid hBl
  have HBB := Lib.hid hB
  have HR := Lib.hid hr
  have HU := Lib.hid hu
  have H1 := Lib.hid h1
  have H2 := Lib.hid h2
  have H3 := Lib.hid h3
  have H4 := Lib.hid h4
  obtain ⟨s0, s1⟩ := h1
  obtain ⟨r0, r1⟩ := h2
  obtain ⟨m0, m1⟩ := h3
  obtain ⟨x0, x1⟩ := h4
  have HPL := Lib.hid (show putEntL s r m B x ps = putO 3 (entH s r m B x ++ numsL (flatN ps)) from rfl)
  have HHl := Lib.hid (entH_length (s := s) (r := r) (m := m) (x := x) hBl)
  generalize putEntL s r m B x ps = PL at *
  clear hBl hB hr hu
  go_enter Try.func11, Try.ntmps11
  go_upto_region 1 with fail
  have hX1 := heap_alloc_new w (.cells (entL s r m B x a ps.length c).toArray 32)
  have HB1 := Lib.hid (below_alloc w (.cells (entL s r m B x a ps.length c).toArray 32))
  generalize w.alloc (.cells (entL s r m B x a ps.length c).toArray 32) = w1 at hX1 HB1 ⊢
  obtain ⟨S, hS⟩ : ∃ S, w.heap.size = S := ⟨_, rfl⟩
  have HS := Lib.hid hS
  rw [hS] at hX1 ⊢
  have i0 : w1.cell? ⟨S, 0, none⟩ = some (.int .u64 s) := cell_of_heap hX1 0 _ rfl
  have i1 : w1.cell? ⟨S, 1, none⟩ = some (.int .u64 r) := cell_of_heap hX1 1 _ rfl
  have i2 : w1.cell? ⟨S, 2, none⟩ = some (.int .u64 m) := cell_of_heap hX1 2 _ rfl
  have HX1 := Lib.hid hX1
  have HL3 := Lib.hid (Rd.lits (Value.int .u64) 25 w1 [s, r, m] #[.int .u64 s, .int .u64 r, .int .u64 m] 3 rfl rfl (by omega))
  have HBA := Lib.hid (below_alloc w1 (.cells #[.int .u64 s, .int .u64 r, .int .u64 m] 25))
  clear hX1 hS
  go_wp2_with fail
  with_reducible refine (num3_any _ _ s r m _ HL3.out H1.out H2.out H3.out).mono ?_
  rintro e w3 ⟨a1, c1, rfl, ho1, hb3⟩
  have hb13 := HBA.out.trans (hb3.mono HBA.out.size)
  have HB3 := Lib.hid (HB1.out.trans (hb13.mono HB1.out.size))
  have hX3 := row_below hb13 (lt_of_heap HX1.out) HX1.out
  have HO1 := Lib.hid (show OwnB 5 w3.drew w1.heap.size a1 24 c1 (numsL [s, r, m]) from ⟨ho1.1, (ho1.2.base HBA.out.size).mono (below_drew w3)⟩)
  have hSlt := lt_of_heap hX3
  have hSw1 := lt_of_heap HX1.out
  have hz3 : w1.heap.size ≤ w3.heap.size := hb13.size
  have HAT := Lib.hid ((row_range (o := 3) hX3 B (fun j v h => entL_boots j v h)).rd HBl.out hSlt (by omega))
  have HX3 := Lib.hid hX3
  have i19 := cell_of_heap hX3 19 _ (entL_19 HBl.out)
  clear i0 i1 i2 ho1 hb3 hb13 hX3 HBA HL3
  have HIs := Lib.hid ((numsL_isB [s, r, m]).append HBB.out)
  have HAd := Lib.hid (HAT.out.mono (below_drew w3))
  have HAe := Lib.hid (HAT.out.mono ((below_alloc w3 (.cells #[.int .u64 x] 25)).drew))
  have HOe := Lib.hid (HO1.out.2.mono (show Below w3.drew.heap.size w3.drew (w3.alloc (.cells #[.int .u64 x] 25)).drew from (below_alloc w3.drew (.cells #[.int .u64 x] 25))))
  have HRe := Lib.hid (show Rd (Value.int .u64) (w3.alloc (.cells #[.int .u64 x] 25)).drew (some ⟨w3.heap.size, 0, none⟩) 1 1 [x] from (Rd.one (Value.int .u64) 25 w3 x).mono (below_drew _))
  have hz5 : w1.heap.size ≤ w3.drew.heap.size := hz3
  have hz6 : w1.heap.size ≤ (w3.alloc (.cells #[.int .u64 x] 25)).drew.heap.size := Nat.le_trans hz3 (below_alloc w3 (.cells #[.int .u64 x] 25)).size
  have HG1 := Lib.hid (fun z (hz : a1 = some z) => HO1.out.2.lt z hz)
  have HSn := Lib.hid (show S ∉ blk a1 from fun h => by obtain ⟨z, hz, hb⟩ := mem_blk.1 h; have := (HG1.out z hz).1; omega)
  have HWn := Lib.hid (show w3.heap.size ∉ blk a1 from fun h => by obtain ⟨z, hz, hb⟩ := mem_blk.1 h; have := (HG1.out z hz).2; simp at this; omega)
  have hf1 : (24 + 16) * 1 ≤ 140737488355328 := by omega
  have hf2 : 24 + 16 ≤ 140737488355328 := by omega
  go_upto_region 2 with fail
  go_region_law (first
    | (refine step_appAt rfl rfl Try.oneB rfl rfl HO1.out.2 HAd.out (fun _ => rfl) hf1 hf2 hz5 ?_; intro a5 c5 w5 ho5 hu5 _; have i19' := ucell hu5 HSn.out i19; have HT5 := Lib.hid ((Upd.ofBelow (F := (· ∈ blk a1)) (below_drew w3)).trans hu5 (fun _ _ h => h)); have HO5 := Lib.hid ho5.rd; clear ho5 hu5)
    | (refine step_appAt rfl rfl Try.oneB rfl rfl HOe.out HAe.out (fun _ => rfl) hf1 hf2 hz6 ?_; intro a5 c5 w5 ho5 hu5 _; have HT5 := Lib.hid ((((Upd.refl (· ∈ blk a1) w3).alloc (.cells #[.int .u64 x] 25)).drew).trans hu5 (fun _ _ h => h)); have HR5 := Lib.hid (HRe.out.upd hu5 (fun z hz h => by cases hz; exact HWn.out h)); have HO5 := Lib.hid ho5.rd; clear ho5 hu5)
    | (go_simp; go_at_call 30; with_reducible refine (num4_any a5 c5 _ _ s r m x B _ HBl.out (RdB.mk2 HIs.out HO5.out) HR5.out H4.out).mono ?_; rintro e w6 ⟨a6, c6, rfl, hr6, hb6⟩; have HT6 := Lib.hid (HT5.out.trans (Upd.ofBelow (F := (· ∈ blk a1)) hb6) (fun _ _ h => h)); have HR6 := Lib.hid hr6; clear hr6 hb6)
    | (go_simp; go_at_call 30; go_must (with_reducible refine (num4_any a5 c5 _ _ s r m x B _ HBl.out (RdB.mk2 HIs.out (HO5.out.mono (below_alloc _ _))) (Rd.one _ _ _ _) H4.out).mono ?_); rintro e w6 ⟨a6, c6, rfl, hr6, hb6⟩; have HT6 := Lib.hid ((HT5.out.alloc _).trans (Upd.ofBelow (F := (· ∈ blk a1)) hb6) (fun _ _ h => h)); have HR6 := Lib.hid hr6; clear hr6 hb6))
  all_goals
    clear HO5 HT5
    have HB6 := Lib.hid (HB3.out.trans (HT6.out.below HB3.out.size (fun j hj => by obtain ⟨z, hz, rfl⟩ := mem_blk.1 hj; have := (HG1.out z hz).1; have := HB1.out.size; omega)))
    have hX6 := row_upd HT6.out HSn.out HX3.out
    have HX6 := Lib.hid hX6
    have i20 := cell_of_heap hX6 20 _ (entL_20 HBl.out)
    clear hX6
    go_wp2_with fail
    go_loopw [3, 25] (fun s_ i wr => ∃ (k : Nat) (a' : Option Addr) (c' : Nat), k ≤ ps.length ∧ i = .int .i64 (k : Int) ∧ s_ = .slice a' (48 + 16 * k) c' ∧ RdB wr a' (48 + 16 * k) c' (entH s r m B x ++ numsL (flatN (ps.take k))) ∧ Below w6.heap.size w6 wr) (fun _ i _ => ps.length - (match i with | .int _ x => x.toNat | _ => 0))
    case atStart => exact ⟨0, a6, c6, Nat.zero_le _, rfl, rfl, by simpa [flatN, numsL] using HR6.out, Below.refl _ _⟩
    case round =>
      obtain ⟨k, a', c', hk, rfl, rfl, hrk, hB⟩ := hrel
      have HRK := Lib.hid hrk
      have HB := Lib.hid hB
      clear hrk hB
      by_cases hlt : k < ps.length
      · have hlt' : (k : Int) < (ps.length : Int) := by omega
        obtain ⟨g1, g2, g3, g4, g5⟩ := HR.out.below (HB6.out.trans (HB.out.mono HB6.out.size))
        obtain ⟨b, off, rfl, hbk, hcs⟩ := g5.resolve_left (by omega)
        obtain ⟨⟨u, v⟩, hp⟩ : ∃ p, ps[k]? = some p := ⟨_, List.getElem?_eq_getElem hlt⟩
        obtain ⟨hc0, hc1⟩ := hcs k _ hp
        obtain ⟨⟨u0, u1⟩, v0, v1⟩ := HU.out _ (List.mem_of_getElem? hp)
        simp only at hc0 hc1 u0 u1 v0 v1
        rw [show off + 2 * k = off + k * 2 by omega] at hc0
        rw [show off + (2 * k + 1) = off + k * 2 + 1 by omega] at hc1
        have HSn2 := Lib.hid (flatN_snoc ps k _ hp)
        clear g1 g2 g3 g4 g5 hcs hp
        go_upto_region 6 with fail
        have hB1 := HB.out.alloc HB.out.size (.cells #[.int .u64 u, .int .u64 v] 41)
        have hq0 : (wr.alloc (.cells #[.int .u64 u, .int .u64 v] 41)).cell? ⟨wr.heap.size, 0, none⟩ = some (.int .u64 u) := cell_of_heap (heap_alloc_new wr _) 0 _ rfl
        have hq1 : (wr.alloc (.cells #[.int .u64 u, .int .u64 v] 41)).cell? ⟨wr.heap.size, 1, none⟩ = some (.int .u64 v) := cell_of_heap (heap_alloc_new wr _) 1 _ rfl
        have hrk1 := HRK.out.mono (below_alloc wr (.cells #[.int .u64 u, .int .u64 v] 41))
        generalize wr.alloc (.cells #[.int .u64 u, .int .u64 v] 41) = w7 at hB1 hq0 hq1 hrk1 ⊢
        have HB2 := Lib.hid (hB1.alloc hB1.size (.cells #[.int .u64 u, .int .u64 v] 25))
        have HRK2 := Lib.hid (hrk1.mono (below_alloc w7 (.cells #[.int .u64 u, .int .u64 v] 25)))
        have HRD := Lib.hid (Rd.two (Value.int .u64) 25 w7 u v)
        clear hB1 hrk1
        go_wp2_with fail
        refine (entnums_any a' (48 + 16 * k) c' _ _ _ _ [u, v] _ HRK2.out HRD.out (by intro z hz; simp at hz; omega) (by omega) (by omega)).mono ?_
        rintro e w8 ⟨a3, c3, rfl, hr3, hb3, -⟩
        have hl3 : (entH s r m B x ++ numsL (flatN (ps.take k))).length + 8 * [u, v].length = 48 + 16 * (k + 1) := by
          rw [HRK.out.len]; simp; omega
        have he3 : entH s r m B x ++ numsL (flatN (ps.take k)) ++ numsL [u, v] = entH s r m B x ++ numsL (flatN (ps.take (k + 1))) := by rw [HSn2.out, numsL_append, List.append_assoc]
        rw [hl3, he3] at hr3
        rw [hl3]
        have HR3 := Lib.hid hr3
        have HB3 := Lib.hid (HB2.out.trans (hb3.mono HB2.out.size))
        clear hr3 hb3 hl3 he3
        go_wp2_with fail
        go_roundw
        case rel => exact ⟨k + 1, a3, c3, by omega, by congr 1, rfl, HR3.out, HB3.out⟩
        case measure => show ps.length - ((k : Int) + 1).toNat < ps.length - (k : Int).toNat; omega
      · obtain rfl : k = ps.length := by omega
        have hge : ¬ ((ps.length : Int) < (ps.length : Int)) := by omega
        have hh := HRK.out
        rw [List.take_length] at hh
        have HH := Lib.hid hh
        clear hh hlt
        go_wp2_with fail
        refine (put_obj a' (48 + 16 * ps.length) c' 3 _ wr HH.out (by omega)).mono ?_
        rw [← HPL.out]
        rintro e w' ⟨a9, c9, rfl, ho9, hb9⟩
        go_wp2_with fail
        go_ret
        have hbb := HB6.out.trans (HB.out.mono HB6.out.size)
        exact ⟨a9, c9, rfl, ⟨ho9.1, ho9.2.base hbb.size⟩, hbb.trans (hb9.mono hbb.size)⟩
end Go.Proofs.Ytojjgagcpkjkaaa
