/- What the document's own Net's Spoil computes; its methods, by what the rows read as. Conditions stand as premises. -/
import Derived.Test.YtnbikaiejeclnaaRefNet2
namespace Go.Proofs.Ytnbikaiejeclnaa
open Go.ChangeShapes Go.WideShapes Go.ChangeAt Go.RowKit
set_option linter.unusedVariables false

theorem flat_sub (vs : List (Option Addr × Nat × Nat)) (i : Nat) (u : Option Addr × Nat × Nat) (x : Nat) (h : x ∈ (vs.set i u).flatMap fun v => blk v.1) : x ∈ (vs.flatMap fun v => blk v.1) ∨ x ∈ blk u.1 := by
  obtain ⟨v, hv, hx⟩ := List.mem_flatMap.1 h
  rcases List.mem_or_eq_of_mem_set hv with hv | rfl
  · exact .inl (List.mem_flatMap.2 ⟨v, hv, hx⟩)
  · exact .inr hx
theorem flat_set {N : Nat} {u : Option Addr × Nat × Nat} (hu : ∀ x ∈ blk u.1, N ≤ x) : ∀ (vs : List (Option Addr × Nat × Nat)) (i : Nat), (vs.flatMap fun v => blk v.1).Nodup → (∀ x ∈ vs.flatMap (fun v => blk v.1), x < N) → ((vs.set i u).flatMap fun v => blk v.1).Nodup
  | [], _, _, _ => by simp
  | v :: r, i, h, hlt => by
    rw [List.flatMap_cons, List.nodup_append] at h
    have hb : (blk u.1).Nodup := by cases u.1 <;> simp [blk]
    have hr : ∀ x ∈ r.flatMap (fun v => blk v.1), x < N := fun x hx => hlt x (by rw [List.flatMap_cons]; exact List.mem_append_right _ hx)
    cases i with
    | zero =>
      rw [List.set_cons_zero, List.flatMap_cons, List.nodup_append]
      exact ⟨hb, h.2.1, fun a ha b hb' e => by subst e; have := hu a ha; have := hr a hb'; omega⟩
    | succ i =>
      rw [List.set_cons_succ, List.flatMap_cons, List.nodup_append]
      refine ⟨h.1, flat_set hu r i h.2.1 hr, fun a ha b hb' e => ?_⟩
      subst e
      rcases flat_sub r i u a hb' with h1 | h1
      · exact h.2.2 a ha a h1 rfl
      · have := hu a h1
        have := hlt a (by rw [List.flatMap_cons]; exact List.mem_append_left _ ha)
        omega

/-- A message put in the place of another one. -/
theorem NetAt.reset {w w1 : World} {base p k i g n1 c1 : Nat} {X Y : RowV} {a1 : Option Addr} {l' : List Int} (h : NetAt w base p k X Y) (hbs : base ≤ w.heap.size) (hb : Below w.heap.size w w1) (ha : X.a = some ⟨g, 0, none⟩) (hi : i < X.n)
    (ho1 : OwnB 5 w1 w.heap.size a1 n1 c1 l') : RowsP w base p k X Y (X.ls.set i l') (w1.setCell ⟨g, i, none⟩ (.slice a1 n1 c1)) := by
  have hN := h.nd
  rw [List.nodup_cons, List.nodup_append] at hN
  obtain ⟨hp, hnx, hny, hxy⟩ := hN
  have hnx0 := hnx
  rw [RowV.fp, List.nodup_append] at hnx
  obtain ⟨hn1, hn2, hn3⟩ := hnx
  have hgx : g ∈ X.fp := List.mem_append_left _ (mem_blk.2 ⟨_, ha, rfl⟩)
  have hga : g ∈ blk X.a := mem_blk.2 ⟨_, ha, rfl⟩
  have hpg : ¬ p = g := fun e => hp (List.mem_append_left _ (e ▸ hgx))
  have hglt : g < w.heap.size := (h.x.mem hgx).2
  have hu0 : Upd (fun _ => False) w w1 := Upd.ofBelow hb
  have hu : Upd (· = g) w1 (w1.setCell ⟨g, i, none⟩ (.slice a1 n1 c1)) := Upd.setCell w1 ⟨g, i, none⟩ _ rfl
  have h1 := h.upd hu0 (fun _ _ h => h)
  have hmem : ∀ j ∈ X.vs.flatMap (fun v => blk v.1), j < w.heap.size := fun j hj => (h.x.mem (List.mem_append_right _ hj)).2
  have h1mem : ∀ j ∈ blk a1, w.heap.size ≤ j := fun j hj => by
    obtain ⟨x, hx, rfl⟩ := mem_blk.1 hj
    exact (ho1.2.lt x hx).1
  have hown := h1.x.own
  rw [ha] at hown
  have hset := hown.set i (a1, n1, c1)
  have hlen := h.x.len
  refine ⟨⟨X.a, X.n, X.c, X.vs.set i (a1, n1, c1), X.ls.set i l'⟩, rfl, ⟨⟨h.le, by simpa using h1.lt, h.way, ucell hu hpg h1.c0, ucell hu hpg h1.c1, ufree hu h1.lt hpg h1.f0, ufree hu h1.lt hpg h1.f1, ?_, ?_, ?_⟩, ?_, ?_⟩⟩
  · refine ⟨by rw [ha]; exact hset, by simpa using hlen, ?_⟩
    intro q v l'' hv' hl'
    simp only at hv' hl'
    by_cases hq : q = i
    · subst hq
      have hq1 : q < X.vs.length := by have := (List.getElem?_eq_some_iff.1 hv').1; simpa using this
      rw [List.getElem?_set_self hq1] at hv'
      rw [List.getElem?_set_self (by omega)] at hl'
      cases hv'
      cases hl'
      exact (ho1.base hbs).upd hu (fun z hz e => by have := (ho1.2.lt z hz).1; omega)
    · rw [List.getElem?_set_ne (by omega)] at hv' hl'
      exact (h1.x.all q v l'' hv' hl').upd hu (fun z hz e => hn3 g hga g (List.mem_flatMap.2 ⟨v, List.mem_of_getElem? hv', mem_blk.2 ⟨z, hz, e⟩⟩) rfl)
  · exact h1.y.upd hu (fun q hq e => hxy g hgx q hq e.symm)
  · show (p :: ((blk X.a ++ (X.vs.set i (a1, n1, c1)).flatMap fun v => blk v.1) ++ Y.fp)).Nodup
    rw [List.nodup_cons, List.nodup_append, List.nodup_append]
    refine ⟨fun hh => ?_, ⟨hn1, flat_set h1mem _ _ hn2 hmem, fun a haa b hbb e => ?_⟩, hny, fun a haa b hbb e => ?_⟩
    · rcases List.mem_append.1 hh with hh | hh
      · rcases List.mem_append.1 hh with hh | hh
        · exact hp (List.mem_append_left _ (List.mem_append_left _ hh))
        · rcases flat_sub _ _ _ _ hh with hh | hh
          · exact hp (List.mem_append_left _ (List.mem_append_right _ hh))
          · have := h1mem p hh; have := h.lt; omega
      · exact hp (List.mem_append_right _ hh)
    · subst e
      rcases flat_sub _ _ _ _ hbb with hbb | hbb
      · exact hn3 a haa a hbb rfl
      · have := h1mem a hbb; have := (h.x.mem (List.mem_append_left _ haa)).2; omega
    · subst e
      rcases List.mem_append.1 haa with haa | haa
      · exact hxy a (List.mem_append_left _ haa) a hbb rfl
      · rcases flat_sub _ _ _ _ haa with haa | haa
        · exact hxy a (List.mem_append_right _ haa) a hbb rfl
        · have := h1mem a haa; have := (h.y.mem hbb).2; omega
  · exact (Upd.ofBelow hb).trans hu (fun q _ e => by rw [e]; exact List.mem_cons_of_mem _ (List.mem_append_left _ hgx))
  · intro j hj
    rcases List.mem_cons.1 hj with rfl | hj
    · exact .inl List.mem_cons_self
    · rcases List.mem_append.1 hj with hj | hj
      · rcases List.mem_append.1 hj with hj | hj
        · exact .inl (List.mem_cons_of_mem _ (List.mem_append_left _ (List.mem_append_left _ hj)))
        · rcases flat_sub _ _ _ _ hj with hj | hj
          · exact .inl (List.mem_cons_of_mem _ (List.mem_append_left _ (List.mem_append_right _ hj)))
          · exact .inr (h1mem j hj)
      · exact .inl (List.mem_cons_of_mem _ (List.mem_append_right _ hj))

theorem rspoil_bad (kI iI at_ code : Int) (v by_ : Value) (hne : (code != 0) = true) (w : World) (hg : Calls Try.prog 31 #[v, .int .i64 kI, .int .i64 iI] w fun e w' => e = .returned (.int .i64 code) ∧ w = w') :
    Calls Try.prog 30 #[v, .int .i64 kI, .int .i64 iI, .int .i64 at_, by_] w fun e w' => e = .returned (.int .i64 code) ∧ w = w' := by
  have HG := Lib.hid hg
  clear hg
  go_enter Try.func30, Try.ntmps30
  go_wp2_with (go_at_call 31; refine HG.out.mono ?_; rintro e w' ⟨rfl, rfl⟩)
  go_ret
  exact ⟨rfl, rfl⟩

set_option maxHeartbeats 2000000 in
theorem rspoil_none (p k i : Nat) (kI iI at_ : Int) (by_ : Value) (base : Nat) (X Y : RowV) (v : Option Addr × Nat × Nat) (w : World) (h : NetAt w base p k X Y) (hkI : kI = k) (hiI : iI = i) (hi : i < X.n) (hv : X.vs[i]? = some v) (hat : at_ < 0 ∨ (v.2.1 : Int) ≤ at_) :
    Calls Try.prog 30 #[.pointer (some ⟨p, 0, none⟩), .int .i64 kI, .int .i64 iI, .int .i64 at_, by_] w fun e w' => e = .returned (.int .i64 16) ∧ w = w' := by
  subst hiI
  have hk := h.way
  have hc := h.c0
  obtain ⟨g, ha, hg1, hg2⟩ := h.x.own.at (by omega)
  have hown := h.x.own
  rw [ha] at hown
  have h63 := hown.rd.2.2.1
  have hcap := hown.rd.2.1
  unfold maxLen at h63
  rw [ha] at hc
  have HG := Lib.hid (rask_yes p k kI i base X Y w h hkI (by omega) (by omega))
  have hcell := hown.cell i v hv
  obtain ⟨va, vn, vc⟩ := v
  simp only [encS] at hcell hat
  have hi1 : (i : Int) < (X.n : Int) := by omega
  clear h hv ha hown
  rcases (by omega : k = 0 ∨ k = 1) with rfl | rfl
  · obtain rfl : kI = 0 := hkI
    by_cases hneg : at_ < 0
    · clear hat
      go_enter Try.func30, Try.ntmps30
      go_wp2_with (go_at_call 31; refine HG.out.mono ?_; rintro e w' ⟨rfl, rfl⟩)
      go_ret
      exact ⟨rfl, rfl⟩
    · have h2 : (vn : Int) ≤ at_ := by omega
      clear hat
      go_enter Try.func30, Try.ntmps30
      go_wp2_with (go_at_call 31; refine HG.out.mono ?_; rintro e w' ⟨rfl, rfl⟩)
      go_ret
      exact ⟨rfl, rfl⟩
  · obtain rfl : kI = 1 := hkI
    by_cases hneg : at_ < 0
    · clear hat
      go_enter Try.func30, Try.ntmps30
      go_wp2_with (go_at_call 31; refine HG.out.mono ?_; rintro e w' ⟨rfl, rfl⟩)
      go_ret
      exact ⟨rfl, rfl⟩
    · have h2 : (vn : Int) ≤ at_ := by omega
      clear hat
      go_enter Try.func30, Try.ntmps30
      go_wp2_with (go_at_call 31; refine HG.out.mono ?_; rintro e w' ⟨rfl, rfl⟩)
      go_ret
      exact ⟨rfl, rfl⟩

set_option maxHeartbeats 2000000 in
theorem rspoil_yes (p k i j : Nat) (kI iI atI x : Int) (base : Nat) (X Y : RowV) (v : Option Addr × Nat × Nat) (l : List Int) (w : World) (h : NetAt w base p k X Y) (hkI : kI = k) (hiI : iI = i) (hi : i < X.n) (hv : X.vs[i]? = some v) (hl : X.ls[i]? = some l) (hj : atI = j) (hlt : j < v.2.1) (hlen : v.2.1 ≤ 140737488351232) :
    Calls Try.prog 30 #[.pointer (some ⟨p, 0, none⟩), .int .i64 kI, .int .i64 iI, .int .i64 atI, .int .u8 x] w fun e w' => e = .returned (.int .i64 0) ∧ RowsP w base p k X Y (X.ls.set i (spoilL l j x)) w' := by
  subst hiI
  subst hj
  have hk := h.way
  have hc := h.c0
  have hpl := h.lt
  have hbs : base ≤ w.heap.size := Nat.le_trans h.le (Nat.le_of_lt h.lt)
  obtain ⟨g, ha, hg1, hg2⟩ := h.x.own.at (by omega)
  have hown := h.x.own
  rw [ha] at hown
  have h63 := hown.rd.2.2.1
  have hcap := hown.rd.2.1
  unfold maxLen at h63
  rw [ha] at hc
  have HG := Lib.hid (rask_yes p k kI i base X Y w h hkI (by omega) (by omega))
  have hcell := hown.cell i v hv
  have hov := h.x.all i v l hv hl
  obtain ⟨va, vn, vc⟩ := v
  simp only [encS] at hcell hov hlt hlen
  have hi1 : (i : Int) < (X.n : Int) := by omega
  have hj1 : (j : Int) < (vn : Int) := by omega
  have hfr := hown.free i
  have HH := Lib.hid h
  have HA := Lib.hid ha
  have hbA := below_alloc w (.cells #[] 5)
  have hoA : Own (Value.int .u8) 5 (w.alloc (.cells #[] 5)) w.heap.size (some ⟨w.heap.size, 0, none⟩) 0 0 [] := Own.lit [] _ 0 rfl rfl (Nat.le_refl _) (Nat.zero_le _)
  have hrA := (hov.rd.mono hbA).2
  have hzA := hbA.size
  have HB := Lib.hid hov.1
  have HVN := Lib.hid hov.len
  clear h hv hl ha hown hov
  rcases (by omega : k = 0 ∨ k = 1) with rfl | rfl
  · obtain rfl : kI = 0 := hkI
    go_enter Try.func30, Try.ntmps30
    go_wp2_with (first | (go_at_call 31; refine HG.out.mono ?_; rintro e w' ⟨rfl, rfl⟩) | (at_builtin; go_must (refine wpList_appAt rfl rfl Try.oneB rfl rfl hoA hrA (fun _ => rfl) (by omega) (by omega) hzA ?_); intro a1 c1 w1 ho1 hu1 hat1; simp only [Nat.zero_add, List.nil_append] at ho1; have hB1 := hbA.trans (hu1.below (B := w.heap.size) hzA (fun q hq => by obtain ⟨z, hz, rfl⟩ := mem_blk.1 hq; cases hz; exact Nat.le_refl _)); obtain ⟨g1, rfl, hg3, hg4⟩ := ho1.at (by omega); have hcj := ho1.cell j (l[j]?.getD 0) (by rw [List.getElem?_eq_getElem (by have := HVN.out; omega)]; rfl); have hfj := ho1.free j; have hc1 := bcell hB1 hpl hc; have hcl1 := bcell hB1 hg2 hcell; have hfr1 := bfree hB1 hg2 hfr; have hng : ¬ g1 = g := by omega))
    go_ret
    refine ⟨rfl, HH.out.reset hbs (hB1.setCell hg3 _) HA.out hi ⟨fun z hz => ?_, ho1.set j _⟩⟩
    rcases List.mem_or_eq_of_mem_set hz with hz | hz
    · exact HB.out z hz
    · rw [hz]; exact xor_byte _ _
  · obtain rfl : kI = 1 := hkI
    go_enter Try.func30, Try.ntmps30
    go_wp2_with (first | (go_at_call 31; refine HG.out.mono ?_; rintro e w' ⟨rfl, rfl⟩) | (at_builtin; go_must (refine wpList_appAt rfl rfl Try.oneB rfl rfl hoA hrA (fun _ => rfl) (by omega) (by omega) hzA ?_); intro a1 c1 w1 ho1 hu1 hat1; simp only [Nat.zero_add, List.nil_append] at ho1; have hB1 := hbA.trans (hu1.below (B := w.heap.size) hzA (fun q hq => by obtain ⟨z, hz, rfl⟩ := mem_blk.1 hq; cases hz; exact Nat.le_refl _)); obtain ⟨g1, rfl, hg3, hg4⟩ := ho1.at (by omega); have hcj := ho1.cell j (l[j]?.getD 0) (by rw [List.getElem?_eq_getElem (by have := HVN.out; omega)]; rfl); have hfj := ho1.free j; have hc1 := bcell hB1 hpl hc; have hcl1 := bcell hB1 hg2 hcell; have hfr1 := bfree hB1 hg2 hfr; have hng : ¬ g1 = g := by omega))
    go_ret
    refine ⟨rfl, HH.out.reset hbs (hB1.setCell hg3 _) HA.out hi ⟨fun z hz => ?_, ho1.set j _⟩⟩
    rcases List.mem_or_eq_of_mem_set hz with hz | hz
    · exact HB.out z hz
    · rw [hz]; exact xor_byte _ _

/-! ### By what the rows read as -/
theorem noW {k : Int} (hk : ¬ isW k = true) : k < 0 ∨ 1 < k := by have := isW_no hk; omega

theorem r_len (base p : Nat) (S : St) (F : Nat → Prop) (k : Int) (w : World) (h : NetS w base p S F) :
    Calls Try.prog 21 #[.pointer (some ⟨p, 0, none⟩), .int .i64 k] w fun e w' => e = .returned (.int .i64 (if isW k then ((rowS S k).length : Int) else 0)) ∧ w = w' := by
  by_cases hk : isW k = true
  · obtain ⟨X, Y, h1, h2, h3, h4, h5⟩ := h.row hk
    rw [if_pos hk, ← h3, h1.x.num]
    exact rlen_yes p k.toNat k base X Y w h1 h2
  · rw [if_neg hk]
    exact rlen_no k _ (noW hk) w

theorem r_send (base p : Nat) (S : St) (F : Nat → Prop) (k : Int) (a : Option Addr) (n c : Nat) (l : List Int) (w : World) (h : NetS w base p S F) (hr : RdB w a n c l) (hlen : n ≤ 140737488351232) :
    Calls Try.prog 28 #[.pointer (some ⟨p, 0, none⟩), .int .i64 k, .slice a n c] w fun e w' => e = .returned (.int .i64 (sendC S k)) ∧ NetStep w base p S F (sendS S k l) w' := by
  unfold sendS sendC
  by_cases hk : isW k = true
  · obtain ⟨X, Y, h1, h2, h3, h4, h5⟩ := h.row hk
    have hn := h1.x.num
    rw [if_pos hk, ← h3, hn]
    by_cases hl : 32 ≤ X.n
    · rw [if_pos hl, if_neg (by decide)]
      refine (rsend_full p k.toNat k _ base X Y w h1 h2 hl).mono ?_
      rintro e w' ⟨rfl, rfl⟩
      exact ⟨rfl, NetStep.refl h⟩
    · rw [if_neg hl, if_pos rfl]
      refine (rsend_ok p k.toNat k base X Y a n c l w h1 h2 (by omega) hr hlen).mono ?_
      rintro e w' ⟨rfl, hR⟩
      exact ⟨rfl, hR.step h4 h5⟩
  · rw [if_neg hk, if_neg (by decide)]
    refine (rsend_no k _ _ (noW hk) w).mono ?_
    rintro e w' ⟨rfl, rfl⟩
    exact ⟨rfl, NetStep.refl h⟩

theorem r_ask_bad (base p : Nat) (S : St) (F : Nat → Prop) (k i : Int) (w : World) (h : NetS w base p S F) (hne : ¬ getC S k i = 0) :
    (getC S k i != 0) = true ∧ Calls Try.prog 31 #[.pointer (some ⟨p, 0, none⟩), .int .i64 k, .int .i64 i] w fun e w' => e = .returned (.int .i64 (getC S k i)) ∧ w = w' := by
  refine ⟨by simpa using hne, ?_⟩
  unfold getC at hne ⊢
  by_cases hk : isW k = true
  · obtain ⟨X, Y, h1, h2, h3, h4, h5⟩ := h.row hk
    have hn := h1.x.num
    rw [if_pos hk, ← h3, hn] at hne ⊢
    by_cases hi : 0 ≤ i ∧ i < X.n
    · rw [if_pos hi] at hne; exact absurd rfl hne
    · rw [if_neg hi]
      exact rask_none p k.toNat k i base X Y w h1 h2 (by omega)
  · rw [if_neg hk]
    exact rask_no k i _ (noW hk) w

theorem r_take (base p : Nat) (S : St) (F : Nat → Prop) (k i : Int) (w : World) (h : NetS w base p S F) (hsm : (rowS S k).length ≤ 1000000) :
    Calls Try.prog 23 #[.pointer (some ⟨p, 0, none⟩), .int .i64 k, .int .i64 i] w (TakeS w base p S F k i) := by
  by_cases h0 : getC S k i = 0
  · obtain ⟨X, Y, v, h1, h2, h3, h4, h5, h6, h7, h8, h9⟩ := s_get_at base p S F k i w h h0
    have hn := h1.x.num
    refine (rtake_yes p k.toNat i.toNat k i base X Y v _ w h1 h2 h3 h7 (by rw [← hn, h4]; exact hsm) h8 h9).mono ?_
    rintro e w' ⟨rfl, hR, hr⟩
    refine ⟨v.1, v.2.1, v.2.2, by rw [h0], by rw [if_pos h0]; exact hr, fun x hx => (h6 _).2 (List.mem_cons_of_mem _ (List.mem_append_left _ (List.mem_append_right _ (List.mem_flatMap.2 ⟨v, List.mem_of_getElem? h8, mem_blk.2 ⟨x, hx, rfl⟩⟩)))), ?_⟩
    unfold takeS
    rw [if_pos h0, ← h4]
    exact hR.step h5 h6
  · obtain ⟨g1, g2⟩ := r_ask_bad base p S F k i w h h0
    refine (rtake_bad k i _ _ g1 w g2).mono ?_
    rintro e w' ⟨rfl, rfl⟩
    refine ⟨none, 0, 0, rfl, by rw [if_neg h0]; exact RdB.nilW w, fun x hx => (by cases hx), ?_⟩
    unfold takeS
    rw [if_neg h0]
    exact NetStep.refl h

theorem r_double (base p : Nat) (S : St) (F : Nat → Prop) (k i : Int) (w : World) (h : NetS w base p S F) (hsm : ∀ l ∈ rowS S k, l.length ≤ 140737488351232) :
    Calls Try.prog 29 #[.pointer (some ⟨p, 0, none⟩), .int .i64 k, .int .i64 i] w fun e w' => e = .returned (.int .i64 (dblC S k i)) ∧ NetStep w base p S F (dblS S k i) w' := by
  unfold dblC dblS
  by_cases h0 : getC S k i = 0
  · rw [if_pos h0, if_pos h0]
    obtain ⟨X, Y, v, h1, h2, h3, h4, h5, h6, h7, h8, h9⟩ := s_get_at base p S F k i w h h0
    have hr := (h1.x.all _ v _ h8 h9).rd
    have hl := hsm (getL S k i) (h4 ▸ List.mem_of_getElem? h9)
    rw [hr.len] at hl
    exact rdouble_of p k.toNat i.toNat k i _ base X Y v w _ h1 h2 h3 h7 h8 (r_send base p S F k v.1 v.2.1 v.2.2 _ w h hr hl)
  · rw [if_neg h0, if_neg h0]
    obtain ⟨g1, g2⟩ := r_ask_bad base p S F k i w h h0
    refine (rdouble_bad k i _ _ g1 w g2).mono ?_
    rintro e w' ⟨rfl, rfl⟩
    exact ⟨rfl, NetStep.refl h⟩

theorem r_spoil (base p : Nat) (S : St) (F : Nat → Prop) (k i at_ x : Int) (w : World) (h : NetS w base p S F) (hsm : ∀ l ∈ rowS S k, l.length ≤ 140737488351232) :
    Calls Try.prog 30 #[.pointer (some ⟨p, 0, none⟩), .int .i64 k, .int .i64 i, .int .i64 at_, .int .u8 x] w fun e w' => e = .returned (.int .i64 (spoC S k i at_)) ∧ NetStep w base p S F (spoS S k i at_ x) w' := by
  unfold spoS spoC
  by_cases h0 : getC S k i = 0
  · rw [if_pos h0]
    obtain ⟨X, Y, v, h1, h2, h3, h4, h5, h6, h7, h8, h9⟩ := s_get_at base p S F k i w h h0
    have ho := h1.x.all _ _ _ h8 h9
    have hl : (getL S k i).length = v.2.1 := ho.len
    have hle := hsm (getL S k i) (h4 ▸ List.mem_of_getElem? h9)
    by_cases hat : 0 ≤ at_ ∧ at_ < (getL S k i).length
    · rw [if_pos hat, if_pos rfl]
      refine (rspoil_yes p k.toNat i.toNat at_.toNat k i at_ x base X Y v _ w h1 h2 h3 h7 h8 h9 (by omega) (by omega) (by omega)).mono ?_
      rintro e w' ⟨rfl, hR⟩
      rw [h4] at hR
      exact ⟨rfl, hR.step h5 h6⟩
    · rw [if_neg hat, if_neg (by decide)]
      refine (rspoil_none p k.toNat i.toNat k i at_ _ base X Y v w h1 h2 h3 h7 h8 (by omega)).mono ?_
      rintro e w' ⟨rfl, rfl⟩
      exact ⟨rfl, NetStep.refl h⟩
  · rw [if_neg h0]
    obtain ⟨g1, g2⟩ := r_ask_bad base p S F k i w h h0
    rw [if_neg h0]
    refine (rspoil_bad k i at_ _ _ _ g1 w g2).mono ?_
    rintro e w' ⟨rfl, rfl⟩
    exact ⟨rfl, NetStep.refl h⟩
end Go.Proofs.Ytnbikaiejeclnaa
