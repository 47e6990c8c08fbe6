/- What entry.PutTable, entry.PutArray compute. Conditions stand as premises. -/
import Derived.Test.YtojjgagcpkjkaaaEntAll
import Derived.Test.YtojjgagcpkjkaaaPairs
import Derived.Deep.Cut
namespace Go.Proofs.Ytojjgagcpkjkaaa
open Go.ChangeShapes Go.WideShapes Go.ChangeAt Go.RowKit
set_option linter.unusedVariables false

theorem Rd.two {α : Type} (enc : α → Value) (e : TypeId) (w : World) (x y : α) : Rd enc (w.alloc (.cells #[enc x, enc y] e)) (some ⟨w.heap.size, 0, none⟩) 2 2 [x, y] :=
  (Own.lit (base := 0) (e := e) [x, y] #[enc x, enc y] 2 rfl rfl (Nat.zero_le _) (by unfold maxLen; omega)).rd
def U64 (v : Int) : Prop := 0 ≤ v ∧ v ≤ 18446744073709551615
def flatN (ps : List PR) : List Int := ps.flatMap fun p => [p.1, p.2]
theorem flatN_length (ps : List PR) : (flatN ps).length = 2 * ps.length := by
  induction ps with
  | nil => rfl
  | cons p t ih => simp only [flatN, List.flatMap_cons, List.length_append, List.length_cons, List.length_nil] at ih ⊢; omega
theorem flatN_snoc (ps : List PR) (k : Nat) (p : PR) (h : ps[k]? = some p) : flatN (ps.take (k + 1)) = flatN (ps.take k) ++ [p.1, p.2] := by
  unfold flatN
  rw [List.take_add_one, h, List.flatMap_append]; rfl
theorem numsL_append (a b : List Int) : numsL (a ++ b) = numsL a ++ numsL b := List.flatMap_append
def putTabL (kind : Int) (ps : List PR) : List Int := if tableF kind = true then putO kind (numsL (flatN ps)) else []

set_option maxHeartbeats 1000000 in
theorem puttable_any (kind : Int) (a : Option Addr) (n c : Nat) (ps : List PR) (w : World) (hr : RdP w a n c ps) (hu : ∀ p ∈ ps, U64 p.1 ∧ U64 p.2) (hn : n ≤ 1000) :
    Calls Try.prog 15 #[.int .i64 kind, .slice a n c] w (NewB w.heap.size w (putTabL kind ps)) := by
  obtain rfl : ps.length = n := hr.1
  have HT := Lib.hid (table_any kind)
  cases ht : tableF kind with
  | false =>
    rw [ht] at HT
    rw [show putTabL kind ps = [] by unfold putTabL; rw [if_neg (by rw [ht]; decide)]]
    go_enter Try.func15, Try.ntmps15
    go_wp2_with fail
    refine (HT.out _).mono ?_
    rintro e w' ⟨rfl, rfl⟩
    go_wp2_with fail
    go_ret
    exact ⟨none, 0, rfl, ⟨IsB.nil, Own.nil _ _ _ _⟩, Below.refl _ _⟩
  | true =>
    rw [ht] at HT
    rw [show putTabL kind ps = putO kind (numsL (flatN ps)) by unfold putTabL; rw [if_pos ht]]
    have HR := Lib.hid hr
    have HU := Lib.hid hu
    clear ht hr hu
    go_enter Try.func15, Try.ntmps15
    go_wp2_with fail
    refine (HT.out _).mono ?_
    rintro e w' ⟨rfl, rfl⟩
    go_wp2_with fail
    go_loopw [5, 13] (fun s i wr => ∃ (k : Nat) (a' : Option Addr) (c' : Nat), k ≤ ps.length ∧ i = .int .i64 (k : Int) ∧ s = .slice a' (16 * k) c' ∧ RdB wr a' (16 * k) c' (numsL (flatN (ps.take k))) ∧ Below w.heap.size w wr) (fun _ i _ => ps.length - (match i with | .int _ x => x.toNat | _ => 0))
    case atStart => exact ⟨0, none, 0, Nat.zero_le _, rfl, rfl, ⟨IsB.nil, (Own.nil (Value.int .u8) 5 _ 0).rd⟩, Below.refl _ _⟩
    case round =>
      obtain ⟨k, a', c', hk, rfl, rfl, hrk, hB⟩ := hrel
      have HRK := Lib.hid hrk
      have HB := Lib.hid hB
      clear hrk hB
      by_cases hlt : k < ps.length
      · have hlt' : (k : Int) < (ps.length : Int) := by omega
        obtain ⟨h1, h2, h3, h4, h5⟩ := HR.out.below HB.out
        obtain ⟨b, off, rfl, hbk, hcs⟩ := h5.resolve_left (by omega)
        obtain ⟨⟨x, y⟩, hp⟩ : ∃ p, ps[k]? = some p := ⟨_, List.getElem?_eq_getElem hlt⟩
        obtain ⟨hc0, hc1⟩ := hcs k _ hp
        obtain ⟨⟨x0, x1⟩, y0, y1⟩ := HU.out _ (List.mem_of_getElem? hp)
        simp only at hc0 hc1 x0 x1 y0 y1
        rw [show off + 2 * k = off + k * 2 by omega] at hc0
        rw [show off + (2 * k + 1) = off + k * 2 + 1 by omega] at hc1
        have HS := Lib.hid (flatN_snoc ps k _ hp)
        clear h1 h2 h3 h4 h5 hcs hp
        go_upto_region 7 with fail
        have hB1 := HB.out.alloc HB.out.size (.cells #[.int .u64 x, .int .u64 y] 45)
        have hq0 : (wr.alloc (.cells #[.int .u64 x, .int .u64 y] 45)).cell? ⟨wr.heap.size, 0, none⟩ = some (.int .u64 x) := cell_of_heap (heap_alloc_new wr _) 0 _ rfl
        have hq1 : (wr.alloc (.cells #[.int .u64 x, .int .u64 y] 45)).cell? ⟨wr.heap.size, 1, none⟩ = some (.int .u64 y) := cell_of_heap (heap_alloc_new wr _) 1 _ rfl
        have hrk1 := HRK.out.mono (below_alloc wr (.cells #[.int .u64 x, .int .u64 y] 45))
        generalize wr.alloc (.cells #[.int .u64 x, .int .u64 y] 45) = w1 at hB1 hq0 hq1 hrk1 ⊢
        have HB2 := Lib.hid (hB1.alloc hB1.size (.cells #[.int .u64 x, .int .u64 y] 25))
        have HRK2 := Lib.hid (hrk1.mono (below_alloc w1 (.cells #[.int .u64 x, .int .u64 y] 25)))
        have HRD := Lib.hid (Rd.two (Value.int .u64) 25 w1 x y)
        clear hB1 hrk1
        go_wp2_with fail
        refine (entnums_any a' (16 * k) c' _ _ _ _ [x, y] _ HRK2.out HRD.out (by intro v hv; simp at hv; omega) (by omega) (by omega)).mono ?_
        rintro e w2 ⟨a3, c3, rfl, hr3, hb3, -⟩
        have hl3 : (numsL (flatN (ps.take k))).length + 8 * [x, y].length = 16 * (k + 1) := by
          rw [HRK.out.len]; simp; omega
        have he3 : numsL (flatN (ps.take k)) ++ numsL [x, y] = numsL (flatN (ps.take (k + 1))) := by rw [HS.out, numsL_append]
        rw [hl3, he3] at hr3
        rw [hl3]
        have HR3 := Lib.hid hr3
        have HB3 := Lib.hid (HB2.out.trans (hb3.mono HB2.out.size))
        clear hr3 hb3 hl3 he3
        go_wp2_with fail
        go_roundw
        case rel => exact ⟨k + 1, a3, c3, by omega, by congr 1, rfl, HR3.out, HB3.out⟩
        case measure => show ps.length - ((k : Int) + 1).toNat < ps.length - (k : Int).toNat; omega
      · obtain rfl : k = ps.length := by omega
        have hge : ¬ ((ps.length : Int) < (ps.length : Int)) := by omega
        have h1 := HRK.out
        rw [List.take_length] at h1
        go_wp2_with fail
        refine (put_obj a' (16 * ps.length) c' kind _ wr h1 (by omega)).mono ?_
        rintro e w' ⟨a1, c1, rfl, ho1, hb1⟩
        go_wp2_with fail
        go_ret
        exact ⟨a1, c1, rfl, ⟨ho1.1, ho1.2.base HB.out.size⟩, HB.out.trans (hb1.mono HB.out.size)⟩
end Go.Proofs.Ytojjgagcpkjkaaa
