/- What the methods of the document's own Net compute: Len, ask, Send. Conditions stand as premises. -/
import Derived.Test.YtnbikaiejeclnaaNetS
namespace Go.Proofs.Ytnbikaiejeclnaa
open Go.ChangeShapes Go.WideShapes Go.ChangeAt Go.RowKit
set_option linter.unusedVariables false

theorem rlen_no (k : Int) (v : Value) (hk : k < 0 ∨ 1 < k) (w : World) :
    Calls Try.prog 21 #[v, .int .i64 k] w fun e w' => e = .returned (.int .i64 0) ∧ w = w' := by
  rcases hk with hk | hk
  · go_enter Try.func21, Try.ntmps21
    go_wp2
    go_ret
    exact ⟨rfl, rfl⟩
  · have h0 : ¬ k < 0 := by omega
    go_enter Try.func21, Try.ntmps21
    go_wp2
    go_ret
    exact ⟨rfl, rfl⟩

theorem rlen_yes (p k : Nat) (kI : Int) (base : Nat) (X Y : RowV) (w : World) (h : NetAt w base p k X Y) (hkI : kI = k) :
    Calls Try.prog 21 #[.pointer (some ⟨p, 0, none⟩), .int .i64 kI] w fun e w' => e = .returned (.int .i64 X.n) ∧ w = w' := by
  have hk := h.way
  have hc := h.c0
  rcases (by omega : k = 0 ∨ k = 1) with rfl | rfl
  · obtain rfl : kI = 0 := hkI
    go_enter Try.func21, Try.ntmps21
    go_wp2
    go_ret
    exact ⟨rfl, rfl⟩
  · obtain rfl : kI = 1 := hkI
    go_enter Try.func21, Try.ntmps21
    go_wp2
    go_ret
    exact ⟨rfl, rfl⟩

theorem rask_no (k i : Int) (v : Value) (hk : k < 0 ∨ 1 < k) (w : World) :
    Calls Try.prog 31 #[v, .int .i64 k, .int .i64 i] w fun e w' => e = .returned (.int .i64 1) ∧ w = w' := by
  rcases hk with hk | hk
  · go_enter Try.func31, Try.ntmps31
    go_wp2
    go_ret
    exact ⟨rfl, rfl⟩
  · have h0 : ¬ k < 0 := by omega
    go_enter Try.func31, Try.ntmps31
    go_wp2
    go_ret
    exact ⟨rfl, rfl⟩

theorem rask_none (p k : Nat) (kI i : Int) (base : Nat) (X Y : RowV) (w : World) (h : NetAt w base p k X Y) (hkI : kI = k) (hi : i < 0 ∨ (X.n : Int) ≤ i) :
    Calls Try.prog 31 #[.pointer (some ⟨p, 0, none⟩), .int .i64 kI, .int .i64 i] w fun e w' => e = .returned (.int .i64 16) ∧ w = w' := by
  have hk := h.way
  have hc := h.c0
  rcases (by omega : k = 0 ∨ k = 1) with rfl | rfl
  · obtain rfl : kI = 0 := hkI
    by_cases hneg : i < 0
    · clear hi
      go_enter Try.func31, Try.ntmps31
      go_wp2
      go_ret
      exact ⟨rfl, rfl⟩
    · have h2 : (X.n : Int) ≤ i := by omega
      clear hi
      go_enter Try.func31, Try.ntmps31
      go_wp2
      go_ret
      exact ⟨rfl, rfl⟩
  · obtain rfl : kI = 1 := hkI
    by_cases hneg : i < 0
    · clear hi
      go_enter Try.func31, Try.ntmps31
      go_wp2
      go_ret
      exact ⟨rfl, rfl⟩
    · have h2 : (X.n : Int) ≤ i := by omega
      clear hi
      go_enter Try.func31, Try.ntmps31
      go_wp2
      go_ret
      exact ⟨rfl, rfl⟩

theorem rask_yes (p k : Nat) (kI iI : Int) (base : Nat) (X Y : RowV) (w : World) (h : NetAt w base p k X Y) (hkI : kI = k) (hi0 : 0 ≤ iI) (hi : iI < X.n) :
    Calls Try.prog 31 #[.pointer (some ⟨p, 0, none⟩), .int .i64 kI, .int .i64 iI] w fun e w' => e = .returned (.int .i64 0) ∧ w = w' := by
  have hk := h.way
  have hc := h.c0
  rcases (by omega : k = 0 ∨ k = 1) with rfl | rfl
  · obtain rfl : kI = 0 := hkI
    go_enter Try.func31, Try.ntmps31
    go_wp2
    go_ret
    exact ⟨rfl, rfl⟩
  · obtain rfl : kI = 1 := hkI
    go_enter Try.func31, Try.ntmps31
    go_wp2
    go_ret
    exact ⟨rfl, rfl⟩

theorem rsend_no (k : Int) (v u : Value) (hk : k < 0 ∨ 1 < k) (w : World) :
    Calls Try.prog 28 #[v, .int .i64 k, u] w fun e w' => e = .returned (.int .i64 1) ∧ w = w' := by
  rcases hk with hk | hk
  · go_enter Try.func28, Try.ntmps28
    go_wp2
    go_ret
    exact ⟨rfl, rfl⟩
  · have h0 : ¬ k < 0 := by omega
    go_enter Try.func28, Try.ntmps28
    go_wp2
    go_ret
    exact ⟨rfl, rfl⟩

theorem rsend_full (p k : Nat) (kI : Int) (u : Value) (base : Nat) (X Y : RowV) (w : World) (h : NetAt w base p k X Y) (hkI : kI = k) (hn : 32 ≤ X.n) :
    Calls Try.prog 28 #[.pointer (some ⟨p, 0, none⟩), .int .i64 kI, u] w fun e w' => e = .returned (.int .i64 15) ∧ w = w' := by
  have hk := h.way
  have hc := h.c0
  have hni : (32 : Int) ≤ (X.n : Int) := by omega
  rcases (by omega : k = 0 ∨ k = 1) with rfl | rfl
  · obtain rfl : kI = 0 := hkI
    go_enter Try.func28, Try.ntmps28
    go_wp2
    go_ret
    exact ⟨rfl, rfl⟩
  · obtain rfl : kI = 1 := hkI
    go_enter Try.func28, Try.ntmps28
    go_wp2
    go_ret
    exact ⟨rfl, rfl⟩

set_option maxHeartbeats 2000000 in
theorem rsend_ok (p k : Nat) (kI : Int) (base : Nat) (X Y : RowV) (a : Option Addr) (n c : Nat) (l : List Int) (w : World) (h : NetAt w base p k X Y) (hkI : kI = k) (hn : X.n < 32) (hr : RdB w a n c l) (hlen : n ≤ 140737488351232) :
    Calls Try.prog 28 #[.pointer (some ⟨p, 0, none⟩), .int .i64 kI, .slice a n c] w fun e w' => e = .returned (.int .i64 0) ∧ RowsP w base p k X Y (X.ls ++ [l]) w' := by
  obtain rfl : l.length = n := hr.len
  have hk := h.way
  have hc := h.c0
  have hf := h.f0
  have hni : (X.n : Int) < (32 : Int) := by omega
  have hpl := h.lt
  have hbs : base ≤ w.heap.size := Nat.le_trans h.le (Nat.le_of_lt h.lt)
  have hpx : ¬ p ∈ blk X.a := fun hh => (List.nodup_cons.1 h.nd).1 (List.mem_append_left _ (List.mem_append_left _ hh))
  have hown := h.x.own
  have hfit1 : (X.n + 1) * 24 ≤ 140737488355328 := by omega
  have hfit2 : X.n + 1 ≤ 140737488355328 := by omega
  have hfit3 : (0 + l.length) * 1 ≤ 140737488355328 := by omega
  have hfit4 : 0 + l.length ≤ 140737488355328 := by omega
  have HH := Lib.hid h
  have H2 := Lib.hid hpx
  have hbA : Below w.heap.size w (w.drew.alloc (.cells #[] 5)) := (below_drew w).alloc (Nat.le_refl _) _
  have hoA : Own (Value.int .u8) 5 (w.drew.alloc (.cells #[] 5)) w.heap.size (some ⟨w.heap.size, 0, none⟩) 0 0 [] := Own.lit [] _ 0 rfl rfl (Nat.le_refl _) (Nat.zero_le _)
  have hrA := (hr.mono hbA).2
  have hzA := hbA.size
  have hcA := bcell hbA hpl hc
  have HB := Lib.hid hr.1
  clear h hpx hr
  rcases (by omega : k = 0 ∨ k = 1) with rfl | rfl
  · obtain rfl : kI = 0 := hkI
    go_enter Try.func28, Try.ntmps28
    go_wp2_with fail
    go_region_law (first | (refine step_appAt (s := .tmp 29) (x := .tmp 30) rfl rfl Try.oneB rfl rfl hoA hrA (fun _ => rfl) hfit3 hfit4 hzA ?_; intro a1 c1 w1 ho1 hu1 hat1; simp only [Nat.zero_add, List.nil_append] at ho1; have hB1 := hbA.trans (hu1.below (B := w.heap.size) hzA (fun q hq => by obtain ⟨x, hx, rfl⟩ := mem_blk.1 hq; cases hx; exact Nat.le_refl _)); have hz1 := hB1.size; have hc1 := bcell hB1 hpl hc; have hB2 := hB1.alloc hz1 (.cells #[.slice a1 l.length c1] 29); have hc1a := bcell hB2 hpl hc; have hf1a := bfree hB2 hpl hf; have hox := hown.mono hB2; have hbs2 := Nat.le_trans hbs hB2.size; have hpl2 := Nat.lt_of_lt_of_le hpl hB2.size; have hrx := Rd.one encS 29 w1 (a1, l.length, c1)) | (refine step_appAt (s := .tmp 28) (x := .tmp 32) rfl rfl Try.oneBB rfl rfl hox hrx (fun _ => rfl) hfit1 hfit2 hbs2 ?_; intro a2 c2 w2 ho2 hu2 hat2; have hc2 := ucell hu2 H2.out hc1a; have hf2 := ufree hu2 hpl2 H2.out hf1a))
    all_goals
      go_wp2
      go_ret
      exact ⟨rfl, _, rfl, HH.out.sent hbs hB2 (OwnB.mono (w := w1) ⟨HB.out, ho1⟩ (below_alloc _ _)) ho2 hu2 hat2⟩
  · obtain rfl : kI = 1 := hkI
    go_enter Try.func28, Try.ntmps28
    go_wp2_with fail
    go_region_law (first | (refine step_appAt (s := .tmp 29) (x := .tmp 30) rfl rfl Try.oneB rfl rfl hoA hrA (fun _ => rfl) hfit3 hfit4 hzA ?_; intro a1 c1 w1 ho1 hu1 hat1; simp only [Nat.zero_add, List.nil_append] at ho1; have hB1 := hbA.trans (hu1.below (B := w.heap.size) hzA (fun q hq => by obtain ⟨x, hx, rfl⟩ := mem_blk.1 hq; cases hx; exact Nat.le_refl _)); have hz1 := hB1.size; have hc1 := bcell hB1 hpl hc; have hB2 := hB1.alloc hz1 (.cells #[.slice a1 l.length c1] 29); have hc1a := bcell hB2 hpl hc; have hf1a := bfree hB2 hpl hf; have hox := hown.mono hB2; have hbs2 := Nat.le_trans hbs hB2.size; have hpl2 := Nat.lt_of_lt_of_le hpl hB2.size; have hrx := Rd.one encS 29 w1 (a1, l.length, c1)) | (refine step_appAt (s := .tmp 28) (x := .tmp 32) rfl rfl Try.oneBB rfl rfl hox hrx (fun _ => rfl) hfit1 hfit2 hbs2 ?_; intro a2 c2 w2 ho2 hu2 hat2; have hc2 := ucell hu2 H2.out hc1a; have hf2 := ufree hu2 hpl2 H2.out hf1a))
    all_goals
      go_wp2
      go_ret
      exact ⟨rfl, _, rfl, HH.out.sent hbs hB2 (OwnB.mono (w := w1) ⟨HB.out, ho1⟩ (below_alloc _ _)) ho2 hu2 hat2⟩
end Go.Proofs.Ytnbikaiejeclnaa
