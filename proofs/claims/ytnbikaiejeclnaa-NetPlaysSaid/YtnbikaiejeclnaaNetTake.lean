/- What net.Net's Take, Drop, Double and Spoil compute. Conditions stand as premises. -/
import Derived.Test.YtnbikaiejeclnaaNetSend
namespace Go.Proofs.Ytnbikaiejeclnaa
open Go.ChangeShapes Go.WideShapes Go.ChangeAt Go.RowKit
set_option linter.unusedVariables false

/-- A message taken off a row. -/
def TakeP (w : World) (base p k : Nat) (X Y : RowV) (v : Option Addr × Nat × Nat) (l : List Int) (ls : List (List Int)) (e : Ending) (w' : World) : Prop :=
  e = .returned (.tuple #[.slice v.1 v.2.1 v.2.2, .int .i64 0]) ∧ RowsP w base p k X Y ls w' ∧ RdB w' v.1 v.2.1 v.2.2 l

set_option maxHeartbeats 1000000 in
theorem nettake_yes (p k i : Nat) (kI iI : Int) (base : Nat) (X Y : RowV) (v : Option Addr × Nat × Nat) (l : List Int) (w : World) (h : NetAt w base p k X Y) (hkI : kI = k) (hiI : iI = i) (hi : i < X.n) (hv : X.vs[i]? = some v) (hl : X.ls[i]? = some l) :
    Calls Try.prog 12 #[.pointer (some ⟨p, 0, none⟩), .int .i64 kI, .int .i64 iI] w (TakeP w base p k X Y v l (X.ls.eraseIdx i)) := by
  subst hiI
  have hk := h.way
  have hc := h.c0
  have hf := h.f0
  have hpl := h.lt
  obtain ⟨g, ha, hg1, hg2⟩ := h.x.own.at (by omega)
  have hown := h.x.own
  have hvl : X.vs.length = X.n := hown.1
  rw [ha, ← hvl] at hown
  have hpg : ¬ p = g := fun hh => (List.nodup_cons.1 h.nd).1 (List.mem_append_left _ (List.mem_append_left _ (mem_blk.2 ⟨_, ha, hh.symm⟩)))
  have h63 := hown.rd.2.2.1
  have hcap := hown.rd.2.1
  unfold maxLen at h63
  rw [ha] at hc
  have hwr : IntKind.i64.wrap ((i : Int) + 1) = (i : Int) + 1 := IntWalk.i64_in _ (by omega)
  have HG := fun kJ hkJ => netget_yes p k i kJ i base X Y w h hkJ rfl hi v hv
  have HH := Lib.hid h
  have HA := Lib.hid ha
  have HV := Lib.hid hv
  have HL := Lib.hid hl
  have hvi : i < X.vs.length := by omega
  rw [← hvl] at hc
  have HN := Lib.hid hvl
  obtain ⟨va, vn, vc⟩ := v
  clear h ha hv hl hvl
  simp only [encS] at HG
  rcases (by omega : k = 0 ∨ k = 1) with rfl | rfl
  · obtain rfl : kI = 0 := hkI
    have HG := Lib.hid (HG 0 rfl)
    go_enter Try.func12, Try.ntmps12
    go_wp2_with (go_at_call 24; refine HG.out.mono ?_; rintro e w' ⟨rfl, rfl⟩)
    go_region_law (go_simp; go_at_call 25; refine (delete_any g X.c i X.vs base w.drew hown hvi).mono ?_; rintro e w1 ⟨rfl, ho1, hu1⟩; have hc1 := ucell hu1 hpg hc; have hf1 := ufree hu1 hpl hpg hf)
    all_goals
      go_wp2
      go_ret2
      rw [HN.out] at ho1 ⊢
      have ht := HH.out.took (w2 := w1) (a2 := some ⟨g, 0, none⟩) (c2 := X.c) (by rw [HN.out]; exact hi) ho1 ((Upd.ofBelow (below_drew w)).trans hu1 (fun _ _ h => h)) (fun j _ hj => by rw [HA.out]; exact mem_blk.2 ⟨_, rfl, hj.symm⟩) (fun j hj => .inl (by rw [HA.out]; exact hj))
      exact ⟨rfl, ⟨_, rfl, ht.1⟩, ht.2 _ _ HV.out HL.out⟩
  · obtain rfl : kI = 1 := hkI
    have HG := Lib.hid (HG 1 rfl)
    go_enter Try.func12, Try.ntmps12
    go_wp2_with (go_at_call 24; refine HG.out.mono ?_; rintro e w' ⟨rfl, rfl⟩)
    go_region_law (go_simp; go_at_call 25; refine (delete_any g X.c i X.vs base w.drew hown hvi).mono ?_; rintro e w1 ⟨rfl, ho1, hu1⟩; have hc1 := ucell hu1 hpg hc; have hf1 := ufree hu1 hpl hpg hf)
    all_goals
      go_wp2
      go_ret2
      rw [HN.out] at ho1 ⊢
      have ht := HH.out.took (w2 := w1) (a2 := some ⟨g, 0, none⟩) (c2 := X.c) (by rw [HN.out]; exact hi) ho1 ((Upd.ofBelow (below_drew w)).trans hu1 (fun _ _ h => h)) (fun j _ hj => by rw [HA.out]; exact mem_blk.2 ⟨_, rfl, hj.symm⟩) (fun j hj => .inl (by rw [HA.out]; exact hj))
      exact ⟨rfl, ⟨_, rfl, ht.1⟩, ht.2 _ _ HV.out HL.out⟩

/-- Where get tells a code, Take tells it. -/
theorem nettake_bad (kI iI code : Int) (v : Value) (hne : (code != 0) = true) (w : World) (hg : Calls Try.prog 24 #[v, .int .i64 kI, .int .i64 iI] w fun e w' => e = .returned (.tuple #[.slice none 0 0, .int .i64 code]) ∧ w = w') :
    Calls Try.prog 12 #[v, .int .i64 kI, .int .i64 iI] w fun e w' => e = .returned (.tuple #[.slice none 0 0, .int .i64 code]) ∧ w = w' := by
  have HG := Lib.hid hg
  clear hg
  go_enter Try.func12, Try.ntmps12
  go_wp2_with (go_at_call 24; refine HG.out.mono ?_; rintro e w' ⟨rfl, rfl⟩)
  go_ret2
  exact ⟨rfl, rfl⟩

theorem netdrop_of {code : Int} (v : Value) (kI iI : Int) (w : World) (R : World → Prop) (hg : Calls Try.prog 12 #[v, .int .i64 kI, .int .i64 iI] w fun e w' => (∃ x n c, e = .returned (.tuple #[.slice x n c, .int .i64 code])) ∧ R w') :
    Calls Try.prog 17 #[v, .int .i64 kI, .int .i64 iI] w fun e w' => e = .returned (.int .i64 code) ∧ R w' := by
  have HG := Lib.hid hg
  clear hg
  go_enter Try.func17, Try.ntmps17
  go_wp2_with fail
  refine HG.out.mono ?_
  rintro e w' ⟨⟨x, n, c, rfl⟩, hR⟩
  have HR := Lib.hid hR
  clear hR
  go_wp2
  go_ret
  exact ⟨rfl, HR.out⟩

theorem netdouble_bad (kI iI code : Int) (v : Value) (hne : (code != 0) = true) (w : World) (hg : Calls Try.prog 24 #[v, .int .i64 kI, .int .i64 iI] w fun e w' => e = .returned (.tuple #[.slice none 0 0, .int .i64 code]) ∧ w = w') :
    Calls Try.prog 18 #[v, .int .i64 kI, .int .i64 iI] w fun e w' => e = .returned (.int .i64 code) ∧ w = w' := by
  have HG := Lib.hid hg
  clear hg
  go_enter Try.func18, Try.ntmps18
  go_wp2_with (go_at_call 24; refine HG.out.mono ?_; rintro e w' ⟨rfl, rfl⟩)
  go_ret
  exact ⟨rfl, rfl⟩

theorem netdouble_of (kI iI code : Int) (P : Value) (a : Option Addr) (n c : Nat) (w : World) (R : World → Prop) (hg : Calls Try.prog 24 #[P, .int .i64 kI, .int .i64 iI] w fun e w' => e = .returned (.tuple #[.slice a n c, .int .i64 0]) ∧ w = w')
    (hs : Calls Try.prog 16 #[P, .int .i64 kI, .slice a n c] w fun e w' => e = .returned (.int .i64 code) ∧ R w') :
    Calls Try.prog 18 #[P, .int .i64 kI, .int .i64 iI] w fun e w' => e = .returned (.int .i64 code) ∧ R w' := by
  have HG := Lib.hid hg
  have HS := Lib.hid hs
  clear hg hs
  go_enter Try.func18, Try.ntmps18
  go_wp2_with (first | (go_at_call 24; refine HG.out.mono ?_; rintro e w' ⟨rfl, rfl⟩) | (go_at_call 16; refine HS.out.mono ?_; rintro e w' ⟨rfl, hR⟩; have HR := Lib.hid hR; clear hR))
  go_ret
  exact ⟨rfl, HR.out⟩

theorem netspoil_bad (kI iI at_ code : Int) (v by_ : Value) (hne : (code != 0) = true) (w : World) (hg : Calls Try.prog 24 #[v, .int .i64 kI, .int .i64 iI] w fun e w' => e = .returned (.tuple #[.slice none 0 0, .int .i64 code]) ∧ w = w') :
    Calls Try.prog 19 #[v, .int .i64 kI, .int .i64 iI, .int .i64 at_, by_] w fun e w' => e = .returned (.int .i64 code) ∧ w = w' := by
  have HG := Lib.hid hg
  clear hg
  go_enter Try.func19, Try.ntmps19
  go_wp2_with (go_at_call 24; refine HG.out.mono ?_; rintro e w' ⟨rfl, rfl⟩)
  go_ret
  exact ⟨rfl, rfl⟩

theorem netspoil_none (kI iI at_ : Int) (v by_ : Value) (a : Option Addr) (n c : Nat) (hat : at_ < 0 ∨ (n : Int) ≤ at_) (w : World) (hg : Calls Try.prog 24 #[v, .int .i64 kI, .int .i64 iI] w fun e w' => e = .returned (.tuple #[.slice a n c, .int .i64 0]) ∧ w = w') :
    Calls Try.prog 19 #[v, .int .i64 kI, .int .i64 iI, .int .i64 at_, by_] w fun e w' => e = .returned (.int .i64 16) ∧ w = w' := by
  have HG := Lib.hid hg
  clear hg
  by_cases h : at_ < 0
  · clear hat
    go_enter Try.func19, Try.ntmps19
    go_wp2_with (go_at_call 24; refine HG.out.mono ?_; rintro e w' ⟨rfl, rfl⟩)
    go_ret
    exact ⟨rfl, rfl⟩
  · have h2 : (n : Int) ≤ at_ := by omega
    clear hat
    go_enter Try.func19, Try.ntmps19
    go_wp2_with (go_at_call 24; refine HG.out.mono ?_; rintro e w' ⟨rfl, rfl⟩)
    go_ret
    exact ⟨rfl, rfl⟩

/-- A byte of a message turned. -/
def spoilL (l : List Int) (j : Nat) (x : Int) : List Int := l.set j (bits .xor .u8 (l[j]?.getD 0) x)

theorem netspoil_yes (kI iI : Int) (j : Nat) (atI : Int) (v : Value) (x : Int) (g n c : Nat) (l : List Int) (base : Nat) (w : World) (hj : atI = j) (hlt : j < n) (ho : OwnB 5 w base (some ⟨g, 0, none⟩) n c l) (hg : Calls Try.prog 24 #[v, .int .i64 kI, .int .i64 iI] w fun e w' => e = .returned (.tuple #[.slice (some ⟨g, 0, none⟩) n c, .int .i64 0]) ∧ w = w') :
    Calls Try.prog 19 #[v, .int .i64 kI, .int .i64 iI, .int .i64 atI, .int .u8 x] w fun e w' => e = .returned (.int .i64 0) ∧ w.setCell ⟨g, j, none⟩ (.int .u8 (bits .xor .u8 (l[j]?.getD 0) x)) = w' := by
  subst hj
  have HG := Lib.hid hg
  have hl := ho.len
  have hcell := ho.2.cell j (l[j]?.getD 0) (by rw [List.getElem?_eq_getElem (by omega)]; rfl)
  have hfr := ho.2.free j
  have h63 := ho.rd.2.2.2.1
  have hcap := ho.rd.2.2.1
  unfold maxLen at h63
  generalize l[j]?.getD 0 = y at hcell ⊢
  clear hg hl ho
  go_enter Try.func19, Try.ntmps19
  go_wp2_with (go_at_call 24; refine HG.out.mono ?_; rintro e w' ⟨rfl, rfl⟩)
  go_ret
  exact ⟨rfl, rfl⟩
end Go.Proofs.Ytnbikaiejeclnaa
