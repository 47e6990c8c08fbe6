/- What net.Net's Send computes. Conditions stand as premises. -/
import Derived.Test.YtnbikaiejeclnaaNetP
namespace Go.Proofs.Ytnbikaiejeclnaa
open Go.ChangeShapes Go.WideShapes Go.ChangeAt Go.RowKit
set_option linter.unusedVariables false

theorem netsend_no (k : Int) (v u : Value) (h0 : k ≠ 0) (h1 : k ≠ 1) (w : World) :
    Calls Try.prog 16 #[v, .int .i64 k, u] w fun e w' => e = .returned (.int .i64 1) ∧ w = w' := by
  go_enter Try.func16, Try.ntmps16
  go_wp2_with (go_at_call 26; refine (is_no _ h0 h1 _).mono ?_; rintro e w' ⟨rfl, rfl⟩)
  go_ret
  exact ⟨rfl, rfl⟩

theorem netsend_full (p k : Nat) (kI : Int) (u : Value) (base : Nat) (X Y : RowV) (w : World) (h : NetAt w base p k X Y) (hkI : kI = k) (hn : 32 ≤ X.n) :
    Calls Try.prog 16 #[.pointer (some ⟨p, 0, none⟩), .int .i64 kI, u] w fun e w' => e = .returned (.int .i64 15) ∧ w = w' := by
  have hk := h.way
  have hc := h.c0
  have hni : (32 : Int) ≤ (X.n : Int) := by omega
  rcases (by omega : k = 0 ∨ k = 1) with rfl | rfl
  · obtain rfl : kI = 0 := hkI
    go_enter Try.func16, Try.ntmps16
    go_wp2_with (go_at_call 26; refine (is_yes _ (.inl rfl) _).mono ?_; rintro e w' ⟨rfl, rfl⟩)
    go_ret
    exact ⟨rfl, rfl⟩
  · obtain rfl : kI = 1 := hkI
    go_enter Try.func16, Try.ntmps16
    go_wp2_with (go_at_call 26; refine (is_yes _ (.inr rfl) _).mono ?_; rintro e w' ⟨rfl, rfl⟩)
    go_ret
    exact ⟨rfl, rfl⟩

/-- The rows behind a call that answers a code. -/
def RowsP (w : World) (base p k : Nat) (X Y : RowV) (ls : List (List Int)) (w' : World) : Prop := ∃ X', X'.ls = ls ∧ NetP w base p k X Y X' w'
theorem RowsP.refl {w : World} {base p k : Nat} {X Y : RowV} (h : NetAt w base p k X Y) : RowsP w base p k X Y X.ls w := ⟨X, rfl, NetP.refl h⟩

set_option maxHeartbeats 1000000 in
theorem netsend_ok (p k : Nat) (kI : Int) (base : Nat) (X Y : RowV) (a : Option Addr) (n c : Nat) (l : List Int) (w : World) (h : NetAt w base p k X Y) (hkI : kI = k) (hn : X.n < 32) (hr : RdB w a n c l) (hlen : n ≤ 140737488351232) :
    Calls Try.prog 16 #[.pointer (some ⟨p, 0, none⟩), .int .i64 kI, .slice a n c] w fun e w' => e = .returned (.int .i64 0) ∧ RowsP w base p k X Y (X.ls ++ [l]) w' := by
  obtain rfl : l.length = n := hr.len
  have hk := h.way
  have hc := h.c0
  have hf := h.f0
  have hni : (X.n : Int) < (32 : Int) := by omega
  have hpl := h.lt
  have hbs : base ≤ w.heap.size := Nat.le_trans h.le (Nat.le_of_lt h.lt)
  have hpx : ¬ p ∈ blk X.a := fun hh => (List.nodup_cons.1 h.nd).1 (List.mem_append_left _ (List.mem_append_left _ hh))
  have hown := h.x.own
  have hfit1 : (X.n + 1) * 24 ≤ 140737488355328 := by omega
  have hfit2 : X.n + 1 ≤ 140737488355328 := by omega
  have HH := Lib.hid h
  have H2 := Lib.hid hpx
  clear h hpx
  rcases (by omega : k = 0 ∨ k = 1) with rfl | rfl
  · obtain rfl : kI = 0 := hkI
    go_enter Try.func16, Try.ntmps16
    go_wp2_with (go_at_call 26; refine (is_yes _ (.inl rfl) _).mono ?_; rintro e w' ⟨rfl, rfl⟩)
    go_region_law (first | (refine step_appAt rfl rfl Try.oneBB rfl rfl hox hrx (fun _ => rfl) hfit1 hfit2 hbs2 ?_; intro a2 c2 w2 ho2 hu2 hat2; have hc2 := ucell hu2 H2.out hc1a; have hf2 := ufree hu2 hpl2 H2.out hf1a) | (go_simp; go_at_call 27; refine (clone_any _ _ _ l w.drew hr.drewd hlen).mono ?_; rintro e w1 ⟨a1, c1, rfl, ho1, hb1⟩; have hB1 := (below_drew w).trans hb1; have hz1 := hB1.size; have hc1 := bcell hB1 hpl hc; have hB2 := hB1.alloc hz1 (.cells #[.slice a1 l.length c1] 29); have hc1a := bcell hB2 hpl hc; have hf1a := bfree hB2 hpl hf; have hox := hown.mono hB2; have hbs2 := Nat.le_trans hbs hB2.size; have hpl2 := Nat.lt_of_lt_of_le hpl hB2.size; have hrx := Rd.one encS 29 w1 (a1, l.length, c1)))
    all_goals
      go_wp2
      go_ret
      exact ⟨rfl, _, rfl, HH.out.sent hbs hB2 (ho1.mono (below_alloc _ _)) ho2 hu2 hat2⟩
  · obtain rfl : kI = 1 := hkI
    go_enter Try.func16, Try.ntmps16
    go_wp2_with (go_at_call 26; refine (is_yes _ (.inr rfl) _).mono ?_; rintro e w' ⟨rfl, rfl⟩)
    go_region_law (first | (refine step_appAt rfl rfl Try.oneBB rfl rfl hox hrx (fun _ => rfl) hfit1 hfit2 hbs2 ?_; intro a2 c2 w2 ho2 hu2 hat2; have hc2 := ucell hu2 H2.out hc1a; have hf2 := ufree hu2 hpl2 H2.out hf1a) | (go_simp; go_at_call 27; refine (clone_any _ _ _ l w.drew hr.drewd hlen).mono ?_; rintro e w1 ⟨a1, c1, rfl, ho1, hb1⟩; have hB1 := (below_drew w).trans hb1; have hz1 := hB1.size; have hc1 := bcell hB1 hpl hc; have hB2 := hB1.alloc hz1 (.cells #[.slice a1 l.length c1] 29); have hc1a := bcell hB2 hpl hc; have hf1a := bfree hB2 hpl hf; have hox := hown.mono hB2; have hbs2 := Nat.le_trans hbs hB2.size; have hpl2 := Nat.lt_of_lt_of_le hpl hB2.size; have hrx := Rd.one encS 29 w1 (a1, l.length, c1)))
    all_goals
      go_wp2
      go_ret
      exact ⟨rfl, _, rfl, HH.out.sent hbs hB2 (ho1.mono (below_alloc _ _)) ho2 hu2 hat2⟩
end Go.Proofs.Ytnbikaiejeclnaa
