/- What Copy of sect.File computes. Conditions stand as premises. -/
import Derived.Test.YtenikpbnggkmgaaSectL
import Derived.Deep.RegionHeld3
namespace Go.Proofs.Ytenikpbnggkmgaa
open Go.ChangeShapes Go.WideShapes Go.ChangeAt Go.RowKit
set_option linter.unusedVariables false

/-- Another file, the same. -/
def NewFile (w : World) (b s : List Int) (e : Ending) (w' : World) : Prop := ∃ p F, e = .returned (.pointer (some ⟨p, 0, none⟩)) ∧ FileS w' w.heap.size p b s F ∧ Below w.heap.size w w'

theorem FileS.make {w : World} {B : Nat} {T : TypeId} {a1 a2 : Option Addr} {n1 c1 n2 c2 : Nat} {b s : List Int} (hB : B ≤ w.heap.size) (h1 : OwnB 5 w B a1 n1 c1 b) (h2 : OwnB 5 w B a2 n2 c2 s) (hd : ∀ k ∈ blk a1, k ∉ blk a2) (lb : b.length ≤ 32768) (ls : s.length ≤ 32768) :
    FileS (w.alloc (.cells #[.slice a1 n1 c1, .slice a2 n2 c2] T)) B w.heap.size b s (· ∈ w.heap.size :: (blk a1 ++ blk a2)) := by
  have h := heap_alloc_new w (.cells #[.slice a1 n1 c1, .slice a2 n2 c2] T)
  have hb := below_alloc w (.cells #[.slice a1 n1 c1, .slice a2 n2 c2] T)
  refine ⟨a1, n1, c1, a2, n2, c2, ⟨hB, lt_of_heap h, cell_of_heap h 0 _ rfl, cell_of_heap h 1 _ rfl, free_of_heap h _, free_of_heap h _, h1.mono hb, h2.mono hb, ?_, lb, ls⟩, fun j => Iff.rfl⟩
  refine nodup3 (fun hh => ?_) (fun hh => ?_) (blk_nodup _) (blk_nodup _) hd
  · obtain ⟨z, hz, e⟩ := mem_blk.1 hh
    have := (h1.2.lt z hz).2
    omega
  · obtain ⟨z, hz, e⟩ := mem_blk.1 hh
    have := (h2.2.lt z hz).2
    omega

set_option maxHeartbeats 2000000 in
theorem sectcopy (base p : Nat) (b s : List Int) (F : Nat → Prop) (w : World) (h : FileS w base p b s F) :
    Calls Try.prog 17 #[.pointer (some ⟨p, 0, none⟩)] w (NewFile w b s) := by
  obtain ⟨a, n, c, a', n', c', h1, h2⟩ := h
  have e0 := h1.c0
  have e1 := h1.c1
  have hlt := h1.lt
  have hnb : n ≤ 140737488351232 := by have := h1.lb; have := h1.x.len; omega
  have hnb2 : n' ≤ 140737488351232 := by have := h1.ls; have := h1.y.len; omega
  have HX := Lib.hid h1.x.rd
  have HY := Lib.hid h1.y.rd
  have hxd := HX.out.drewd
  have hyd := HY.out.drewd
  have HLB := Lib.hid h1.lb
  have HLS := Lib.hid h1.ls
  clear h1 h2
  go_enter Try.func17, Try.ntmps17
  go_wp2_with fail
  go_region_held3 (fun w' : World => w'.cell? ⟨p, 0, none⟩ = some (.slice a n c) ∧ w'.cell? ⟨p, 1, none⟩ = some (.slice a' n' c')) (first | exact ⟨e0, e1⟩ | exact ⟨d0, d1⟩ | exact ⟨g0, g1⟩ | go_keep) ((first | ((with_reducible refine (clone_any a n c b _ (by exact hxd) hnb).mono ?_); rintro e w2 ⟨x1, k1, rfl, ho1, hb1⟩; have d0 := bcell hb1 hlt e0; have d1 := bcell hb1 hlt e1; have hy2 := hyd.mono hb1) | ((with_reducible refine (clone_any a' n' c' s _ (by exact hy2) hnb2).mono ?_); rintro e w3 ⟨x2, k2, rfl, ho2, hb2⟩; have g0 := bcell hb2 (Nat.lt_of_lt_of_le hlt hb1.size) d0; have g1 := bcell hb2 (Nat.lt_of_lt_of_le hlt hb1.size) d1)))
  have hz1 : w.heap.size ≤ w2.heap.size := hb1.size
  have hB3 : Below w.heap.size w w3 := ((below_drew w).trans hb1).trans (hb2.mono hz1)
  have hF := FileS.make (T := 54) (B := w.heap.size) hB3.size (ho1.mono hb2) (ho2.base hz1) (fun k hk hk2 => by
    obtain ⟨z, hz, rfl⟩ := mem_blk.1 hk
    obtain ⟨y, hy, e⟩ := mem_blk.1 hk2
    have h1 := (ho1.2.lt z hz).2
    have h2 := (ho2.2.lt y hy).1
    omega) HLB.out HLS.out
  have HF := Lib.hid hF
  clear hF
  go_wp2_with fail
  go_ret
  exact ⟨_, _, rfl, HF.out, hB3.alloc hB3.size _⟩
end Go.Proofs.Ytenikpbnggkmgaa
