/- The walk of EntryBack. Conditions stand as premises. -/
import Derived.Test.YtojjgagcpkjkaaaEntBackN
import Derived.Test.YtojjgagcpkjkaaaPairs2
import Derived.Test.YtojjgagcpkjkaaaStruct2
import Derived.Test.YtojjgagcpkjkaaaEntXor
import Derived.Test.YtojjgagcpkjkaaaNum
namespace Go.Proofs.Ytojjgagcpkjkaaa
open Go.ChangeShapes Go.WideShapes Go.ChangeAt Go.RowKit
set_option linter.unusedVariables false
set_option linter.unusedSimpArgs false

theorem blist16 {B : List Int} (h : B.length = 16) : ∃ b0 b1 b2 b3 b4 b5 b6 b7 b8 b9 b10 b11 b12 b13 b14 b15, B = [b0, b1, b2, b3, b4, b5, b6, b7, b8, b9, b10, b11, b12, b13, b14, b15] := by
  match B, h with
  | [b0, b1, b2, b3, b4, b5, b6, b7, b8, b9, b10, b11, b12, b13, b14, b15], _ => exact ⟨b0, b1, b2, b3, b4, b5, b6, b7, b8, b9, b10, b11, b12, b13, b14, b15, rfl⟩

theorem bd_snoc {ps : List PR} {P : Int} (h : ∀ p ∈ ps, U64 p.1 ∧ U64 p.2) (hp : U64 P) : ∀ p ∈ ps ++ [(P, 0)], U64 p.1 ∧ U64 p.2 := by
  intro q hq
  rcases List.mem_append.1 hq with hq | hq
  · exact h q hq
  · simp at hq; subst hq; exact ⟨hp, by show (0 : Int) ≤ 0; omega, by show (0 : Int) ≤ 18446744073709551615; omega⟩
theorem keep_other {w : World} {b o G j : Nat} {v u : Value} (h : ¬ (b = G)) (hc : w.cell? ⟨b, o, none⟩ = some u) : (w.setCell ⟨G, j, none⟩ v).cell? ⟨b, o, none⟩ = some u :=
  ucell (Upd.setCell (F := (· = G)) w ⟨G, j, none⟩ v rfl) h hc
theorem AtB.upd {F : Nat → Prop} {w w' : World} {b o : Nat} {B : List Int} (h : AtB w b o B) (hu : Upd F w w') (hf : ¬ F b) : AtB w' b o B := fun j v hv => ucell hu hf (h j v hv)
/-- What stands throughout: the entry, its name, its items. -/
structure BackF (s x : Int) (B : List Int) (ps : List PR) (S E : Nat) (a' : Option Addr) (c' : Nat) (w : World) : Prop where
  rE : w.heap[E]? = some (.cells (entL s x s B x a' ps.length c').toArray 32 (0, 0))
  nm : AtB w S 0 B
  it : RdP w a' ps.length c' ps
theorem BackF.mono {s x : Int} {B : List Int} {ps : List PR} {S E : Nat} {a' : Option Addr} {c' : Nat} {w w' : World} (h : BackF s x B ps S E a' c' w) (hb : Below w.heap.size w w') : BackF s x B ps S E a' c' w' :=
  ⟨row_below hb (lt_of_heap h.rE) h.rE, h.nm.mono hb, h.it.below hb⟩
theorem entput_L (s r m : Int) (B : List Int) (x : Int) (a : Option Addr) (n c : Nat) (ps : List PR) (w : World) (hB : IsB B) (hBl : B.length = 16) (h1 : U64 s) (h2 : U64 r) (h3 : U64 m) (h4 : U64 x) (hr : RdP w a n c ps) (hu : ∀ p ∈ ps, U64 p.1 ∧ U64 p.2) (hn : n ≤ 1000) :
    Calls Try.prog 11 #[.agg (entL s r m B x a n c).toArray] w (NewB w.heap.size w (putEntL s r m B x ps)) :=
  entV_eq s r m B x a n c ▸ entput_any s r m B x a n c ps w hB hBl h1 h2 h3 h4 hr hu hn
/-- entry.Read of what was put: where its number is none, and where it is one. -/
theorem readback_0 (r m : Int) (B : List Int) (x : Int) (ps : List PR) (C : Int) (PL : List Int) (a : Option Addr) (c : Nat) (w : World) (hr : RdB w a PL.length c PL) (hl : PL.length ≤ 2000) (hC : entRC PL 0 = C) (h0 : C ≠ 0) :
    Calls Try.prog 17 #[.slice a PL.length c, .int .u64 0] w fun e w' => e = .returned (.tuple #[.agg (entL 0 0 0 zero16 0 none 0 0).toArray, .int .i64 C]) ∧ Below w.heap.size w w' := by
  refine (entread_any 0 a PL.length c PL w hr (by omega) (by omega) (by omega)).mono ?_
  rw [hC]
  rintro e w' ⟨s', r', m', B', x', a', n', c', rfl, -, h2, hb⟩
  obtain ⟨rfl, rfl, rfl, rfl, rfl, rfl, rfl, rfl⟩ := h2 h0
  exact ⟨by rw [entV_eq], hb⟩
theorem readback_1 (s r m : Int) (B : List Int) (x : Int) (ps : List PR) (PL : List Int) (a : Option Addr) (c : Nat) (w : World) (hr : RdB w a PL.length c PL) (hl : PL.length ≤ 2000) (hC : entRC PL 0 = 0) (hN : numsOf PL 0 = entNs s r m B x ps) (hBo : bootOf PL 0 = B) (hI : itemsOf PL 0 = ps) :
    Calls Try.prog 17 #[.slice a PL.length c, .int .u64 0] w fun e w' => ∃ a1 c1, e = .returned (.tuple #[.agg (entL s r m B x a1 ps.length c1).toArray, .int .i64 0]) ∧ RdP w' a1 ps.length c1 ps ∧ Below w.heap.size w w' := by
  refine (entread_any 0 a PL.length c PL w hr (by omega) (by omega) (by omega)).mono ?_
  rw [hC]
  rintro e w' ⟨s', r', m', B', x', a', n', c', rfl, h2, -, hb⟩
  obtain ⟨rfl, rfl, rfl, rfl, rfl, ho⟩ := h2 rfl
  rw [hI] at ho
  have hp := ho.rd
  obtain rfl : ps.length = n' := hp.1
  rw [hN, hBo]
  exact ⟨a', c', by rw [entV_eq]; rfl, hp, hb⟩

set_option maxRecDepth 100000 in
set_option maxHeartbeats 2000000 in
theorem entryback_law (s x : Int) (B : List Int) (a : Option Addr) (n c : Nat) (l : List Int) (at_ : Int) (w0 : World) (h1 : U64 s) (h2 : U64 x) (hB : IsB B) (hBl : B.length = 16) (hr : Rd (Value.int .i64) w0 a n c l) :
    Calls Try.prog 6 #[.int .u64 s, .int .u64 x, .agg (B.map (Value.int .u8)).toArray, .slice a n c, .int .i64 at_] w0 fun e w' => e = .returned (.bool true) ∧ Below w0.heap.size w0 w' := by
  obtain rfl : l.length = n := hr.1
  have hlen : l.length ≤ 9223372036854775807 := by have h1 := hr.2.1; have h2 := hr.2.2.1; unfold maxLen at h2; omega
  have HBl := Lib.hid hBl
  have HBB := Lib.hid hB
  have HR := Lib.hid hr
  have H1 := Lib.hid h1
  have H2 := Lib.hid h2
  obtain ⟨s0, s1⟩ := h1
  obtain ⟨x0, x1⟩ := h2
  have hX1 := heap_alloc_new w0 (.cells (B.map (Value.int .u8)).toArray 29)
  have HB1 := Lib.hid (below_alloc w0 (.cells (B.map (Value.int .u8)).toArray 29))
  obtain ⟨w1, hw1⟩ : ∃ w1, w0.alloc (.cells (B.map (Value.int .u8)).toArray 29) = w1 := ⟨_, rfl⟩
  rw [hw1] at hX1 HB1
  have HW1 := Lib.hid hw1
  have HX1 := Lib.hid hX1
  clear hBl hB hr hX1 hw1
  by_cases hways : decide (30 < (l.length : Int)) = true ∨ (decide (30 < (l.length : Int)) = false ∧ ((l.length : Int) == 0) = true)
  · rcases hways with q1 | ⟨q1, q2⟩
    all_goals
      go_enter Try.func6, Try.ntmps6
      go_upto_region 1 with fail
      rw [HW1.out]
      go_wp2_with fail
      refine (first_any _).mono ?_
      rintro e w ⟨rfl, hb1⟩
      have HBo := Lib.hid (HB1.out.trans (hb1.mono HB1.out.size))
      clear hb1
      go_wp2_with fail
      go_ret
      exact ⟨rfl, HBo.out⟩
  have hl30 : l.length ≤ 30 := by
    refine Classical.byContradiction fun h => hways (.inl ?_)
    simp; omega
  have hl1 : 1 ≤ l.length := by
    refine Classical.byContradiction fun h => hways (.inr ⟨by simp; omega, ?_⟩)
    rw [show l.length = 0 by omega]; rfl
  have q1 : decide (30 < (l.length : Int)) = false := by simp; omega
  have q2 : ((l.length : Int) == 0) = false := beq_eq_false_iff_ne.2 (by omega)
  clear hways
  go_enter Try.func6, Try.ntmps6
  go_upto_region 1 with fail
  rw [HW1.out]
  obtain ⟨S, hS⟩ : ∃ S, w0.heap.size = S := ⟨_, rfl⟩
  have HS := Lib.hid hS
  rw [hS] at HX1 ⊢
  clear hS
  go_wp2_with fail
  refine (first_any _).mono ?_
  rintro e w ⟨rfl, hb1⟩
  have HXa := Lib.hid (row_below hb1 (lt_of_heap HX1.out) HX1.out)
  have hAT := row_range (o := 0) HXa.out B (fun j v h => by rw [Nat.zero_add, List.getElem?_toArray]; exact h)
  have HAT := Lib.hid hAT
  have HBo := Lib.hid (HB1.out.trans (hb1.mono HB1.out.size))
  have HZ := Lib.hid (heap_alloc_new w (.cells #[Value.int .u64 0, Value.int .u64 0, Value.int .u64 0, Value.int .u8 0, Value.int .u8 0, Value.int .u8 0, Value.int .u8 0, Value.int .u8 0, Value.int .u8 0, Value.int .u8 0, Value.int .u8 0, Value.int .u8 0, Value.int .u8 0, Value.int .u8 0, Value.int .u8 0, Value.int .u8 0, Value.int .u8 0, Value.int .u8 0, Value.int .u8 0, Value.int .u64 0, Value.slice none 0 0] 32))
  obtain ⟨b0, b1, b2, b3, b4, b5, b6, b7, b8, b9, b10, b11, b12, b13, b14, b15, hBe⟩ := blist16 HBl.out
  have HBe := Lib.hid hBe
  rw [hBe] at hAT
  have HATe := Lib.hid hAT
  have hBl2 := HBl.out
  rw [hBe] at hBl2
  have HBl2 := Lib.hid hBl2
  clear hb1 HX1 HW1 hAT hBe hBl2
  go_upto_region 7 with (first | (with_reducible refine wpList_loadB rfl rfl Try.idT rfl HATe.out HBl2.out ?_) | (with_reducible refine wpList_storeS rfl rfl Try.rowE rfl rfl HZ.out (by with_unfolding_all rfl) (by with_unfolding_all rfl) (by with_unfolding_all rfl) ?_; intro w3 HX3 hu3))
  have HX3' : Hid (w3.heap[w.heap.size]? = some (.cells (entL s x s B x none 0 0).toArray 32 (0, 0))) := by rw [HBe.out]; exact HX3
  have hBz := below_alloc w (.cells #[Value.int .u64 0, Value.int .u64 0, Value.int .u64 0, Value.int .u8 0, Value.int .u8 0, Value.int .u8 0, Value.int .u8 0, Value.int .u8 0, Value.int .u8 0, Value.int .u8 0, Value.int .u8 0, Value.int .u8 0, Value.int .u8 0, Value.int .u8 0, Value.int .u8 0, Value.int .u8 0, Value.int .u8 0, Value.int .u8 0, Value.int .u8 0, Value.int .u64 0, Value.slice none 0 0] 32)
  have hB3 : Below w.heap.size w w3 := hBz.trans (hu3.below hBz.size (fun k hk => by subst hk; exact Nat.le_refl _))
  have HB3 := Lib.hid (HBo.out.trans (hB3.mono HBo.out.size))
  have HAT3 := Lib.hid (HAT.out.mono hB3)
  have hSE := lt_of_heap HXa.out
  obtain ⟨E, hE⟩ : ∃ E, w.heap.size = E := ⟨_, rfl⟩
  rw [hE] at HX3' hSE ⊢
  have HWE := Lib.hid (show w0.heap.size ≤ E by have := HBo.out.size; omega)
  have HSE := Lib.hid (show ¬ (S = E) by omega)
  have HE3 := Lib.hid (lt_of_heap HX3'.out)
  clear hBz hB3 hu3 HX3 hE hSE HXa HZ HATe HAT HBo HBe HBl2
  go_wp2_with fail
  go_loopw [13, 14] (fun p i wr => ∃ (k : Nat) (a' : Option Addr) (c' : Nat), k ≤ l.length ∧ p = .int .u64 (sumP l k) ∧ i = .int .i64 (k : Int) ∧ Hid (wr.heap[E]? = some (.cells (entL s x s B x a' k c').toArray 32 (0, 0))) ∧ OwnP 41 wr w3.heap.size a' k c' (backP l x k) ∧ Upd (· = E) w3 wr) (fun _ i _ => l.length - (intOf i).toNat)
  case atStart => exact ⟨0, none, 0, Nat.zero_le _, rfl, rfl, HX3', OwnP.nil _ _ _, Upd.refl _ _⟩
  case round =>
    obtain ⟨k, a', c', hk, rfl, rfl, HXr, hown, hur⟩ := hrel
    have HO := Lib.hid hown
    have HUr := Lib.hid hur
    have hBr := HB3.out.trans (hur.below HB3.out.size (fun j hj => by subst hj; exact HWE.out))
    clear hown hur
    by_cases hlt : k < l.length
    · have hlt' : (k : Int) < (l.length : Int) := by omega
      obtain ⟨b, off, rfl, hc⟩ := cellAt (HR.out.mono hBr) k hlt
      have hzz : l.getD k 0 = l[k] := by rw [List.getD_eq_getElem?_getD, List.getElem?_eq_getElem hlt]; rfl
      obtain ⟨p, hp⟩ : ∃ p, sumP l k = p := ⟨_, rfl⟩
      obtain ⟨q, hq⟩ : ∃ q, l[k] % 90 = q := ⟨_, rfl⟩
      obtain ⟨z, hz⟩ : ∃ z, l[k] = z := ⟨_, rfl⟩
      rw [hz] at hzz hq hc
      have hbd := sumP_bd l k
      rw [hp] at hbd ⊢
      have HPn := Lib.hid (show sumP l (k + 1) = p + 1 + q by simp only [sumP]; rw [hp, hzz, hq])
      have HPk := Lib.hid (show backP l x (k + 1) = backP l x k ++ [(p + 1 + q, (x + (k : Int)) % 18446744073709551616)] by rw [backP_succ, HPn.out])
      have HNm := Lib.hid (number_yes z 90 (by omega) (by omega) wr)
      rw [hq] at HNm
      have hq0 : 0 ≤ q := by omega
      have hq1 : q < 90 := by omega
      have hp0 : 0 ≤ p := by omega
      have hp1 : p ≤ 2700 := by omega
      have i20 := cell_of_heap HXr.out 20 _ (entL_20 HBl.out)
      have f20 := free_of_heap HXr.out 20
      have HK := Lib.hid hlt
      clear hzz hp hq hz hbd hlt hBr
      go_wp2_with fail
      refine HNm.out.mono ?_
      rintro e w' ⟨rfl, rfl⟩
      go_upto_region 12 with fail
      obtain ⟨h, hh⟩ : ∃ h, (x + (k : Int)) % 18446744073709551616 = h := ⟨_, rfl⟩
      rw [hh] at HPk
      have hh2 : IntKind.u64.wrap (x + (k : Int)) = h := by rw [IntKind.wrap_u64]; exact hh
      have hh0 : 0 ≤ h := by omega
      have hh1 : h ≤ 18446744073709551615 := by omega
      have HBA := Lib.hid (below_alloc wr (.cells #[.int .u64 (p + 1 + q), .int .u64 h] 41))
      have HOW := Lib.hid (HO.out.mono HBA.out)
      have HS0 := Lib.hid (cell_of_heap (heap_alloc_new wr (.cells #[.int .u64 (p + 1 + q), .int .u64 h] 41)) 0 _ rfl)
      have HS1 := Lib.hid (cell_of_heap (heap_alloc_new wr (.cells #[.int .u64 (p + 1 + q), .int .u64 h] 41)) 1 _ rfl)
      have hff1 : (k + 1) * 16 ≤ 140737488355328 := by omega
      have hff2 : k + 1 ≤ 140737488355328 := by omega
      have hz3 := Nat.le_trans HUr.out.size HBA.out.size
      have HNb := Lib.hid (show ∀ j, j < w3.heap.size → j ∉ blk a' from fun j hj h => by obtain ⟨z, hz, hb⟩ := mem_blk.1 h; have := (HO.out.lt z hz).1; omega)
      have HXB := Lib.hid (row_below HBA.out (lt_of_heap HXr.out) HXr.out)
      go_wp2_with (at_builtin; go_must (refine wpList_appP (p := (p + 1 + q, h)) rfl rfl Try.twoI rfl rfl HOW.out HS0.out HS1.out hff1 hff2 hz3 ?_); intro a5 c5 w5 ho5 hu5 _; have HX5 := Lib.hid (row_upd hu5 (HNb.out E HE3.out) HXB.out); have HU5 := Lib.hid ((HUr.out.trans (Upd.ofBelow (F := (· = E)) HBA.out) (fun _ _ h => h)).trans hu5 (fun j hj hg => absurd hg (HNb.out j hj))); have HO5 := Lib.hid ho5; have hh5 := free_of_heap HX5.out 20; have hg5 := cell_of_heap HX5.out 20 _ (entL_20 HBl.out); clear ho5 hu5)
      have hx6 := row_set HX5.out 20 (.slice a5 (k + 1) c5)
      rw [entL_set HBl.out] at hx6
      have HX7 := Lib.hid hx6
      have hsu := Upd.setCell (F := (· = E)) w5 ⟨E, 20, none⟩ (.slice a5 (k + 1) c5) rfl
      have HO7 := Lib.hid (HO5.out.upd hsu (fun z hz h => by have := (HO5.out.lt z hz).1; have := HE3.out; omega))
      have HU7 := Lib.hid (HU5.out.trans hsu (fun _ _ h => h))
      clear hx6 hsu hh5 hg5
      go_roundw
      case rel => exact ⟨k + 1, a5, c5, HK.out, by rw [HPn.out], by congr 1, HX7, by rw [HPk.out]; exact HO7.out, HU7.out⟩
      case measure => simp [intOf]; have := HK.out; omega
    · obtain rfl : k = l.length := by omega
      have hge : ¬ ((l.length : Int) < (l.length : Int)) := by omega
      have HBr := Lib.hid hBr
      have HPl := Lib.hid (backP_length l x l.length)
      have HPb := Lib.hid (backP_bd l x l.length (by omega))
      have HPr := Lib.hid (backP_rise l x l.length)
      have HPg := Lib.hid (show ∀ j, j < l.length → ∃ P h, (backP l x l.length)[j]? = some (P, h) ∧ riseB (backP l x l.length ++ [(P, 0)]) = false ∧ U64 P from fun j hj => ⟨_, _, backP_get l x l.length j hj, backP_bad l x l.length j 0 hj, (backP_bd l x l.length (by omega) _ (List.mem_of_getElem? (backP_get l x l.length j hj))).1⟩)
      generalize backP l x l.length = ps at HO HPl HPb HPr HPg
      have hpl := HPl.out
      have hpn : ps.length ≤ 30 := by omega
      have hp1 : 1 ≤ ps.length := by omega
      have hne : ps ≠ [] := fun h => by rw [h] at hp1; simp at hp1
      have HBK := Lib.hid (ent_back s x s B x ps HBB.out HBl.out H1.out H2.out H1.out H2.out HPb.out hne (by omega))
      have hF := (show BackF s x B ps S E a' c' wr from ⟨by rw [hpl]; exact HXr.out, HAT3.out.upd HUr.out HSE.out, by rw [hpl]; exact HO.out.rd⟩)
      have HF := Lib.hid hF
      have hsz : ps.length = l.length := hpl
      have HNE := Lib.hid hne
      have HPL := Lib.hid hpl
      have HEP := Lib.hid (fun (w : World) (a' : Option Addr) (c' : Nat) (h : RdP w a' ps.length c' ps) => entput_L s x s B x a' ps.length c' ps w HBB.out HBl.out H1.out H2.out H1.out H2.out h HPb.out (by omega))
      have HX1 := Lib.hid hF.rE
      clear hF hpl hsz hne hBr HO HXr
      go_wp2_with (with_reducible refine wpList_loadS rfl rfl Try.rowE rfl HX1.out (entL_size HBl.out) ?_)
      refine (HEP.out wr a' c' HF.out.it).mono ?_
      rintro e w6 ⟨p6, k6, rfl, ho6, hb6⟩
      have HF6 := Lib.hid (HF.out.mono hb6)
      have HB6 := Lib.hid (HBr.out.trans (hb6.mono HBr.out.size))
      have HR6 := Lib.hid ho6.rd
      clear ho6 hb6 HX1
      by_cases hs : s = 0
      · have hs1 : (s == 0) = true := by simp [hs]
        have hs2 : decide (0 < s) = false := by simp [hs]
        have HRD := Lib.hid (readback_0 x s B x ps 13 _ p6 k6 w6 HR6.out HBK.out.2.2.2.2 (by rw [HBK.out.1, if_pos hs]) (by decide))
        generalize putEntL s x s B x ps = PL at *
        go_wp2_with fail
        refine HRD.out.mono ?_
        rintro e w7 ⟨rfl, hb7⟩
        have HZ7 := Lib.hid (heap_alloc_new w7 (.cells #[Value.int .u64 0, Value.int .u64 0, Value.int .u64 0, Value.int .u8 0, Value.int .u8 0, Value.int .u8 0, Value.int .u8 0, Value.int .u8 0, Value.int .u8 0, Value.int .u8 0, Value.int .u8 0, Value.int .u8 0, Value.int .u8 0, Value.int .u8 0, Value.int .u8 0, Value.int .u8 0, Value.int .u8 0, Value.int .u8 0, Value.int .u8 0, Value.int .u64 0, Value.slice none 0 0] 32))
        have HB7 := Lib.hid (HB6.out.trans (hb7.mono HB6.out.size))
        have hBz := below_alloc w7 (.cells #[Value.int .u64 0, Value.int .u64 0, Value.int .u64 0, Value.int .u8 0, Value.int .u8 0, Value.int .u8 0, Value.int .u8 0, Value.int .u8 0, Value.int .u8 0, Value.int .u8 0, Value.int .u8 0, Value.int .u8 0, Value.int .u8 0, Value.int .u8 0, Value.int .u8 0, Value.int .u8 0, Value.int .u8 0, Value.int .u8 0, Value.int .u8 0, Value.int .u64 0, Value.slice none 0 0] 32)
        clear hb7 hs
        go_wp2_with (with_reducible refine wpList_storeS rfl rfl Try.rowE rfl rfl HZ7.out (by with_unfolding_all rfl) (by with_unfolding_all rfl) (by with_unfolding_all rfl) ?_; intro w8 HX8 hu8)
        go_ret
        have hB78 : Below w7.heap.size w7 w8 := hBz.trans (hu8.below hBz.size (fun k hk => by subst hk; exact Nat.le_refl _))
        exact ⟨by simp, HB7.out.trans (hB78.mono HB7.out.size)⟩
      · have hs1 : (s == 0) = false := by simp [hs]
        have hs2 : decide (0 < s) = true := by simp; omega
        have HS0 := Lib.hid hs
        have HRD := Lib.hid (readback_1 s x s B x ps _ p6 k6 w6 HR6.out HBK.out.2.2.2.2 (by rw [HBK.out.1, if_neg hs, if_pos HPr.out]) HBK.out.2.1 HBK.out.2.2.1 HBK.out.2.2.2.1)
        generalize putEntL s x s B x ps = PL at HRD HR6 ⊢
        clear hs
        go_wp2_with fail
        refine HRD.out.mono ?_
        rintro e w7 ⟨a1, c1, rfl, hp7, hb7⟩
        have HZ7 := Lib.hid (heap_alloc_new w7 (.cells #[Value.int .u64 0, Value.int .u64 0, Value.int .u64 0, Value.int .u8 0, Value.int .u8 0, Value.int .u8 0, Value.int .u8 0, Value.int .u8 0, Value.int .u8 0, Value.int .u8 0, Value.int .u8 0, Value.int .u8 0, Value.int .u8 0, Value.int .u8 0, Value.int .u8 0, Value.int .u8 0, Value.int .u8 0, Value.int .u8 0, Value.int .u8 0, Value.int .u64 0, Value.slice none 0 0] 32))
        have HB7 := Lib.hid (HB6.out.trans (hb7.mono HB6.out.size))
        have hBz := below_alloc w7 (.cells #[Value.int .u64 0, Value.int .u64 0, Value.int .u64 0, Value.int .u8 0, Value.int .u8 0, Value.int .u8 0, Value.int .u8 0, Value.int .u8 0, Value.int .u8 0, Value.int .u8 0, Value.int .u8 0, Value.int .u8 0, Value.int .u8 0, Value.int .u8 0, Value.int .u8 0, Value.int .u8 0, Value.int .u8 0, Value.int .u8 0, Value.int .u8 0, Value.int .u64 0, Value.slice none 0 0] 32)
        have HF7 := Lib.hid (HF6.out.mono hb7)
        have HP7 := Lib.hid hp7
        clear hb7 hp7
        go_upto_region 14 with (with_reducible refine wpList_storeS rfl rfl Try.rowE rfl rfl HZ7.out (by with_unfolding_all rfl) (entL_size HBl.out) entL_one ?_; intro w8 HX8 hu8)
        have hB78 : Below w7.heap.size w7 w8 := hBz.trans (hu8.below hBz.size (fun k hk => by subst hk; exact Nat.le_refl _))
        have HB8 := Lib.hid (HB7.out.trans (hB78.mono HB7.out.size))
        have HF8 := Lib.hid (HF7.out.mono hB78)
        have HP8 := Lib.hid (HP7.out.below hB78)
        obtain ⟨F, hF⟩ : ∃ F, w7.heap.size = F := ⟨_, rfl⟩
        rw [hF] at HX8 ⊢
        have i0 : w8.cell? ⟨F, 0, none⟩ = some (.int .u64 s) := cell_of_heap HX8.out 0 _ rfl
        have i1 : w8.cell? ⟨F, 1, none⟩ = some (.int .u64 x) := cell_of_heap HX8.out 1 _ rfl
        have i2 : w8.cell? ⟨F, 2, none⟩ = some (.int .u64 s) := cell_of_heap HX8.out 2 _ rfl
        have i19 := cell_of_heap HX8.out 19 _ (entL_19 HBl.out)
        have i20 := cell_of_heap HX8.out 20 _ (entL_20 HBl.out)
        have j20 := cell_of_heap HF8.out.rE 20 _ (entL_20 HBl.out)
        have HLF := Lib.hid (row_range (o := 3) HX8.out B (fun j v h => entL_boots j v h))
        have HLS := Lib.hid HF8.out.nm
        clear hB78 hBz hu8 HZ7 HF7 HP7 HB7 HRD HR6 HF6 HB6 hF HF HBr
        go_wp2_with (first | (with_reducible refine wpList_loadBG rfl rfl Try.idT rfl HLF.out HBl.out ?_) | (with_reducible refine wpList_loadBG rfl rfl Try.idT rfl HLS.out HBl.out ?_) | (with_reducible refine wpList_neqBG rfl rfl Try.idT HBB.out HBB.out HBl.out HBl.out rfl rfl ?_))
        go_loopw [17] (fun i wz => ∃ k : Nat, k ≤ ps.length ∧ i = .int .i64 (k : Int) ∧ Below w8.heap.size w8 wz) (fun i _ => ps.length - (intOf i).toNat)
        case atStart => exact ⟨0, Nat.zero_le _, rfl, Below.refl _ _⟩
        case round =>
          obtain ⟨k, hk, rfl, hBz⟩ := hrel
          have HBZ := Lib.hid hBz
          have q20 := bcell hBz (lt_of_heap HX8.out) i20
          have p20 := bcell hBz (lt_of_heap HF8.out.rE) j20
          clear hBz
          by_cases hlt : k < ps.length
          · obtain ⟨_, _, _, _, h5⟩ := HP8.out.below HBZ.out
            obtain ⟨_, _, _, _, h5'⟩ := HF8.out.it.below HBZ.out
            obtain ⟨b, o, rfl, hbk, hcs⟩ := h5.resolve_left (by omega)
            obtain ⟨b', o', rfl, hbk', hcs'⟩ := h5'.resolve_left (by omega)
            obtain ⟨⟨u, v⟩, hp⟩ : ∃ p, ps[k]? = some p := ⟨_, List.getElem?_eq_getElem hlt⟩
            obtain ⟨c0, c1⟩ := hcs k _ hp
            obtain ⟨d0, d1⟩ := hcs' k _ hp
            simp only at c0 c1 d0 d1
            rw [show o + 2 * k = o + k * 2 by omega] at c0
            rw [show o + (2 * k + 1) = o + k * 2 + 1 by omega] at c1
            rw [show o' + 2 * k = o' + k * 2 by omega] at d0
            rw [show o' + (2 * k + 1) = o' + k * 2 + 1 by omega] at d1
            have hk0 : (0 : Int) ≤ (k : Int) := by omega
            have hk1 : (k : Int) < (ps.length : Int) := by omega
            clear hp hcs hcs' h5 h5'
            go_upto_region 23 with fail
            go_quiet (fail)
            go_wp2_with fail
            go_roundw
            case rel => exact ⟨k + 1, by omega, by congr 1, below_dN HBZ.out _⟩
            case measure => simp [intOf]; omega
          · have hge : ¬ ((k : Int) < (ps.length : Int)) := by omega
            have HF9 := Lib.hid (HF8.out.mono HBZ.out)
            have HB9 := Lib.hid (HB8.out.trans (HBZ.out.mono HB8.out.size))
            have HX9 := Lib.hid HF9.out.rE
            have HZ9 := Lib.hid (heap_alloc_new wr (.cells #[Value.int .u64 0, Value.int .u64 0, Value.int .u64 0, Value.int .u8 0, Value.int .u8 0, Value.int .u8 0, Value.int .u8 0, Value.int .u8 0, Value.int .u8 0, Value.int .u8 0, Value.int .u8 0, Value.int .u8 0, Value.int .u8 0, Value.int .u8 0, Value.int .u8 0, Value.int .u8 0, Value.int .u8 0, Value.int .u8 0, Value.int .u8 0, Value.int .u64 0, Value.slice none 0 0] 32))
            have hBz := below_alloc wr (.cells #[Value.int .u64 0, Value.int .u64 0, Value.int .u64 0, Value.int .u8 0, Value.int .u8 0, Value.int .u8 0, Value.int .u8 0, Value.int .u8 0, Value.int .u8 0, Value.int .u8 0, Value.int .u8 0, Value.int .u8 0, Value.int .u8 0, Value.int .u8 0, Value.int .u8 0, Value.int .u8 0, Value.int .u8 0, Value.int .u8 0, Value.int .u8 0, Value.int .u64 0, Value.slice none 0 0] 32)
            clear i0 i1 i2 i19 i20 j20 HLF HLS HBZ HX8 HP8 HF8 HB8 hk hlt
            go_upto_region 26 with (first | (with_reducible refine wpList_loadS rfl rfl Try.rowE rfl HX9.out (entL_size HBl.out) ?_) | (with_reducible refine wpList_storeS rfl rfl Try.rowE rfl rfl HZ9.out (by with_unfolding_all rfl) (entL_size HBl.out) entL_one ?_; intro w10 HX10 hu10))
            have hB10 : Below wr.heap.size wr w10 := hBz.trans (hu10.below hBz.size (fun k hk => by subst hk; exact Nat.le_refl _))
            have HB10 := Lib.hid (HB9.out.trans (hB10.mono HB9.out.size))
            have HF10 := Lib.hid (HF9.out.mono hB10)
            have hEG := lt_of_heap HF9.out.rE
            have hbG : ∀ z, a' = some z → z.block < wr.heap.size := fun z hz => by
              obtain ⟨_, _, _, _, q5⟩ := HF9.out.it
              obtain ⟨b', o', hb', hl', _⟩ := q5.resolve_left (by omega)
              rw [hz] at hb'; cases hb'; exact hl'
            obtain ⟨G, hG⟩ : ∃ G, wr.heap.size = G := ⟨_, rfl⟩
            rw [hG] at HX10 hEG hbG ⊢
            have hGl := lt_of_heap HX10.out
            clear hBz hB10 hu10 HZ9 HX9 HB9 HF9 hG q20 p20
            obtain ⟨_, g1, g2, _, g5⟩ := HF10.out.it
            obtain ⟨b', o', rfl, hbk, hcs⟩ := g5.resolve_left (by omega)
            have hbG := hbG _ rfl
            simp only at hbG
            obtain ⟨J, hJ⟩ : ∃ J : Nat, at_ % (ps.length : Int) = (J : Int) := ⟨(at_ % (ps.length : Int)).toNat, by have := Int.emod_nonneg at_ (show (ps.length : Int) ≠ 0 by omega); omega⟩
            have hJl : J < ps.length := by have := Int.emod_lt_of_pos at_ (show (0 : Int) < (ps.length : Int) by omega); omega
            obtain ⟨P, h, hPJ, hbad, hPb⟩ := HPg.out J (by rw [← HPL.out]; exact hJl)
            have z1 := (hcs J _ hPJ).1
            simp only at z1
            rw [show o' + 2 * J = o' + J * 2 by omega] at z1
            have z0 := cell_of_heap HF10.out.rE 20 _ (entL_20 HBl.out)
            have HNm := Lib.hid (fun w : World => number_yes at_ (ps.length : Int) (by omega) (by omega) w)
            rw [hJ] at HNm
            have HBad := Lib.hid hbad
            have HPB := Lib.hid hPb
            obtain ⟨P0, P1⟩ := hPb
            have hJ0 : (0 : Int) ≤ (J : Int) := by omega
            have hJ1 : (J : Int) < (ps.length : Int) := by omega
            have hEl := lt_of_heap HF10.out.rE
            have HIT := Lib.hid HF10.out.it
            have BE := Lib.hid ((below_alloc w10 (.cells #[] 41)).drew)
            have BI := Lib.hid ((below_alloc w10 (.cells #[.int .u64 P, .int .u64 0] 41)).drew)
            have BEI := Lib.hid (((below_alloc w10 (.cells #[] 41)).alloc (below_alloc w10 (.cells #[] 41)).size (.cells #[.int .u64 P, .int .u64 0] 41)).drew)
            have BIE := Lib.hid (((below_alloc w10 (.cells #[.int .u64 P, .int .u64 0] 41)).alloc (below_alloc w10 (.cells #[.int .u64 P, .int .u64 0] 41)).size (.cells #[] 41)).drew)
            have D0 : w10.drew.cell? ⟨E, 20, none⟩ = some (.slice (some ⟨b', o', none⟩) ps.length c') ∧ w10.drew.cell? ⟨b', o' + J * 2, none⟩ = some (.int .u64 P) := ⟨z0, z1⟩
            have D1 : (w10.alloc (.cells #[] 41)).drew.cell? ⟨E, 20, none⟩ = some (.slice (some ⟨b', o', none⟩) ps.length c') ∧ (w10.alloc (.cells #[] 41)).drew.cell? ⟨b', o' + J * 2, none⟩ = some (.int .u64 P) := ⟨bcell BE.out hEl z0, bcell BE.out hbk z1⟩
            have D2 : (w10.alloc (.cells #[.int .u64 P, .int .u64 0] 41)).drew.cell? ⟨E, 20, none⟩ = some (.slice (some ⟨b', o', none⟩) ps.length c') ∧ (w10.alloc (.cells #[.int .u64 P, .int .u64 0] 41)).drew.cell? ⟨b', o' + J * 2, none⟩ = some (.int .u64 P) := ⟨bcell BI.out hEl z0, bcell BI.out hbk z1⟩
            have D3 : ((w10.alloc (.cells #[] 41)).alloc (.cells #[.int .u64 P, .int .u64 0] 41)).drew.cell? ⟨E, 20, none⟩ = some (.slice (some ⟨b', o', none⟩) ps.length c') ∧ ((w10.alloc (.cells #[] 41)).alloc (.cells #[.int .u64 P, .int .u64 0] 41)).drew.cell? ⟨b', o' + J * 2, none⟩ = some (.int .u64 P) := ⟨bcell BEI.out hEl z0, bcell BEI.out hbk z1⟩
            have D4 : ((w10.alloc (.cells #[.int .u64 P, .int .u64 0] 41)).alloc (.cells #[] 41)).drew.cell? ⟨E, 20, none⟩ = some (.slice (some ⟨b', o', none⟩) ps.length c') ∧ ((w10.alloc (.cells #[.int .u64 P, .int .u64 0] 41)).alloc (.cells #[] 41)).drew.cell? ⟨b', o' + J * 2, none⟩ = some (.int .u64 P) := ⟨bcell BIE.out hEl z0, bcell BIE.out hbk z1⟩
            have HD0 := Lib.hid D0
            have HD1 := Lib.hid D1
            have HD2 := Lib.hid D2
            have HD3 := Lib.hid D3
            have HD4 := Lib.hid D4
            have hs10 : (w10.alloc (.cells #[] 41)).heap.size = w10.heap.size + 1 := by simp
            have hs11 : (w10.alloc (.cells #[.int .u64 P, .int .u64 0] 41)).heap.size = w10.heap.size + 1 := by simp
            have OV1 := Lib.hid (show OwnP 41 (w10.alloc (.cells #[] 41)).drew w10.heap.size (some ⟨w10.heap.size, 0, none⟩) 0 0 [] from (OwnP.lit0 41 w10 w10.heap.size (Nat.le_refl _)).mono (below_drew _))
            have OV2 := Lib.hid (show OwnP 41 ((w10.alloc (.cells #[] 41)).alloc (.cells #[.int .u64 P, .int .u64 0] 41)).drew w10.heap.size (some ⟨w10.heap.size, 0, none⟩) 0 0 [] from ((OwnP.lit0 41 w10 w10.heap.size (Nat.le_refl _)).mono (below_alloc _ (.cells #[.int .u64 P, .int .u64 0] 41))).mono (below_drew _))
            have OV3 := Lib.hid (show OwnP 41 ((w10.alloc (.cells #[.int .u64 P, .int .u64 0] 41)).alloc (.cells #[] 41)).drew w10.heap.size (some ⟨w10.heap.size + 1, 0, none⟩) 0 0 [] from hs11 ▸ ((OwnP.lit0 41 (w10.alloc (.cells #[.int .u64 P, .int .u64 0] 41)) w10.heap.size (by rw [hs11]; omega)).mono (below_drew _)))
            have PV1 := Lib.hid (HIT.out.below BE.out)
            have PV2 := Lib.hid (HIT.out.below BEI.out)
            have PV3 := Lib.hid (HIT.out.below BIE.out)
            have I2a := Lib.hid (show ((w10.alloc (.cells #[] 41)).alloc (.cells #[.int .u64 P, .int .u64 0] 41)).drew.cell? ⟨w10.heap.size + 1, 0, none⟩ = some (.int .u64 P) from hs10 ▸ cell_of_heap (heap_alloc_new (w10.alloc (.cells #[] 41)) (.cells #[.int .u64 P, .int .u64 0] 41)) 0 _ rfl)
            have I2b := Lib.hid (show ((w10.alloc (.cells #[] 41)).alloc (.cells #[.int .u64 P, .int .u64 0] 41)).drew.cell? ⟨w10.heap.size + 1, 1, none⟩ = some (.int .u64 0) from hs10 ▸ cell_of_heap (heap_alloc_new (w10.alloc (.cells #[] 41)) (.cells #[.int .u64 P, .int .u64 0] 41)) 1 _ rfl)
            have I3a := Lib.hid (show ((w10.alloc (.cells #[.int .u64 P, .int .u64 0] 41)).alloc (.cells #[] 41)).drew.cell? ⟨w10.heap.size, 0, none⟩ = some (.int .u64 P) from bcell ((below_alloc (w10.alloc (.cells #[.int .u64 P, .int .u64 0] 41)) (.cells #[] 41)).drew) (lt_of_heap (heap_alloc_new w10 (.cells #[.int .u64 P, .int .u64 0] 41))) (cell_of_heap (heap_alloc_new w10 (.cells #[.int .u64 P, .int .u64 0] 41)) 0 _ rfl))
            have I3b := Lib.hid (show ((w10.alloc (.cells #[.int .u64 P, .int .u64 0] 41)).alloc (.cells #[] 41)).drew.cell? ⟨w10.heap.size, 1, none⟩ = some (.int .u64 0) from bcell ((below_alloc (w10.alloc (.cells #[.int .u64 P, .int .u64 0] 41)) (.cells #[] 41)).drew) (lt_of_heap (heap_alloc_new w10 (.cells #[.int .u64 P, .int .u64 0] 41))) (cell_of_heap (heap_alloc_new w10 (.cells #[.int .u64 P, .int .u64 0] 41)) 1 _ rfl))
            have HZ0 := Lib.hid z0
            have HZ1 := Lib.hid z1
            have hEGn : ¬ (E = G) := by omega
            have hbGn : ¬ (b' = G) := by omega
            have hfa : ps.length * 16 ≤ 140737488355328 := by omega
            have hfb : ps.length ≤ 140737488355328 := by omega
            have hfc : (ps.length + 1) * 16 ≤ 140737488355328 := by omega
            have hfd : ps.length + 1 ≤ 140737488355328 := by omega
            have HGl := Lib.hid hGl
            clear z0 z1 hs10 hs11 hcs g5 hPJ hbad hJ D1 D2 D3 D4
            have HPS2 := Lib.hid (show (ps ++ [(P, 0)]).length = ps.length + 1 by simp)
            have HBK2 := Lib.hid (ent_back s x s B x (ps ++ [(P, 0)]) HBB.out HBl.out H1.out H2.out H1.out H2.out (bd_snoc HPb.out HPB.out) (by simp) (by rw [HPS2.out]; omega))
            have HBK0 := Lib.hid (ent_back0 s x s B x HBl.out)
            have HPb2 := Lib.hid (bd_snoc HPb.out HPB.out)
            have HW1 := Lib.hid (show w0.heap.size ≤ G by have := HB10.out.size; have := HWE.out; omega)
            go_region_held3 (fun w' : World => w'.cell? ⟨E, 20, none⟩ = some (.slice (some ⟨b', o', none⟩) ps.length c') ∧ w'.cell? ⟨b', o' + J * 2, none⟩ = some (.int .u64 P)) (first | exact HD0.out | exact HD1.out | exact HD2.out | exact HD3.out | exact HD4.out | assumption) ((first | (refine step_appPs0 rfl rfl Try.twoI rfl rfl OV1.out PV1.out hp1 hfa hfb BE.out.size ?_; intro a5 c5 w5 ho5 hu5 _; have HB5 := Lib.hid (BE.out.trans (hu5.below BE.out.size (fun j hj => by obtain ⟨z, hz, rfl⟩ := mem_blk.1 hj; cases hz; show w10.heap.size ≤ w10.heap.size; omega))); have hS5 : w5.cell? ⟨E, 20, none⟩ = some (.slice (some ⟨b', o', none⟩) ps.length c') ∧ w5.cell? ⟨b', o' + J * 2, none⟩ = some (.int .u64 P) := ⟨bcell HB5.out hEl HZ0.out, bcell HB5.out hbk HZ1.out⟩; have hS5a : (w5.alloc (.cells #[.int .u64 P, .int .u64 0] 41)).cell? ⟨E, 20, none⟩ = some (.slice (some ⟨b', o', none⟩) ps.length c') ∧ (w5.alloc (.cells #[.int .u64 P, .int .u64 0] 41)).cell? ⟨b', o' + J * 2, none⟩ = some (.int .u64 P) := ⟨bcell (HB5.out.alloc HB5.out.size (.cells #[.int .u64 P, .int .u64 0] 41)) hEl HZ0.out, bcell (HB5.out.alloc HB5.out.size (.cells #[.int .u64 P, .int .u64 0] 41)) hbk HZ1.out⟩; have HO5 := Lib.hid ho5; clear ho5 hu5) | (refine step_appPs0 rfl rfl Try.twoI rfl rfl OV2.out PV2.out hp1 hfa hfb BEI.out.size ?_; intro a5 c5 w5 ho5 hu5 _; have HB5 := Lib.hid (BEI.out.trans (hu5.below BEI.out.size (fun j hj => by obtain ⟨z, hz, rfl⟩ := mem_blk.1 hj; cases hz; show w10.heap.size ≤ w10.heap.size; omega))); have hS5 : w5.cell? ⟨E, 20, none⟩ = some (.slice (some ⟨b', o', none⟩) ps.length c') ∧ w5.cell? ⟨b', o' + J * 2, none⟩ = some (.int .u64 P) := ⟨bcell HB5.out hEl HZ0.out, bcell HB5.out hbk HZ1.out⟩; have hS5a : (w5.alloc (.cells #[.int .u64 P, .int .u64 0] 41)).cell? ⟨E, 20, none⟩ = some (.slice (some ⟨b', o', none⟩) ps.length c') ∧ (w5.alloc (.cells #[.int .u64 P, .int .u64 0] 41)).cell? ⟨b', o' + J * 2, none⟩ = some (.int .u64 P) := ⟨bcell (HB5.out.alloc HB5.out.size (.cells #[.int .u64 P, .int .u64 0] 41)) hEl HZ0.out, bcell (HB5.out.alloc HB5.out.size (.cells #[.int .u64 P, .int .u64 0] 41)) hbk HZ1.out⟩; have HO5 := Lib.hid ho5; have HI5a := Lib.hid (ucell hu5 (show w10.heap.size + 1 ∉ blk _ from fun h => by obtain ⟨z, hz, hb⟩ := mem_blk.1 h; cases hz; simp at hb) I2a.out); have HI5b := Lib.hid (ucell hu5 (show w10.heap.size + 1 ∉ blk _ from fun h => by obtain ⟨z, hz, hb⟩ := mem_blk.1 h; cases hz; simp at hb) I2b.out); clear ho5 hu5) | (refine step_appPs0 rfl rfl Try.twoI rfl rfl OV3.out PV3.out hp1 hfa hfb BIE.out.size ?_; intro a5 c5 w5 ho5 hu5 _; have HB5 := Lib.hid (BIE.out.trans (hu5.below BIE.out.size (fun j hj => by obtain ⟨z, hz, rfl⟩ := mem_blk.1 hj; cases hz; show w10.heap.size ≤ w10.heap.size + 1; omega))); have hS5 : w5.cell? ⟨E, 20, none⟩ = some (.slice (some ⟨b', o', none⟩) ps.length c') ∧ w5.cell? ⟨b', o' + J * 2, none⟩ = some (.int .u64 P) := ⟨bcell HB5.out hEl HZ0.out, bcell HB5.out hbk HZ1.out⟩; have hS5a : (w5.alloc (.cells #[.int .u64 P, .int .u64 0] 41)).cell? ⟨E, 20, none⟩ = some (.slice (some ⟨b', o', none⟩) ps.length c') ∧ (w5.alloc (.cells #[.int .u64 P, .int .u64 0] 41)).cell? ⟨b', o' + J * 2, none⟩ = some (.int .u64 P) := ⟨bcell (HB5.out.alloc HB5.out.size (.cells #[.int .u64 P, .int .u64 0] 41)) hEl HZ0.out, bcell (HB5.out.alloc HB5.out.size (.cells #[.int .u64 P, .int .u64 0] 41)) hbk HZ1.out⟩; have HO5 := Lib.hid ho5; have HI5a := Lib.hid (ucell hu5 (show w10.heap.size ∉ blk _ from fun h => by obtain ⟨z, hz, hb⟩ := mem_blk.1 h; cases hz; simp at hb) I3a.out); have HI5b := Lib.hid (ucell hu5 (show w10.heap.size ∉ blk _ from fun h => by obtain ⟨z, hz, hb⟩ := mem_blk.1 h; cases hz; simp at hb) I3b.out); clear ho5 hu5) | (go_at_call 26; refine (HNm.out _).mono ?_; rintro e w' ⟨rfl, rfl⟩) | (have HBx := Lib.hid HB5.out; refine step_appP (p := (P, 0)) rfl rfl Try.twoI rfl rfl HO5.out HI5a.out HI5b.out hfc hfd HBx.out.size ?_; intro a6 c6 w6 ho6 hu6 _; have HB6 := Lib.hid (HBx.out.trans (hu6.below HBx.out.size (fun j hj => by obtain ⟨z, hz, rfl⟩ := mem_blk.1 hj; exact (HO5.out.lt z hz).1))); have hS6 : w6.cell? ⟨E, 20, none⟩ = some (.slice (some ⟨b', o', none⟩) ps.length c') ∧ w6.cell? ⟨b', o' + J * 2, none⟩ = some (.int .u64 P) := ⟨bcell HB6.out hEl HZ0.out, bcell HB6.out hbk HZ1.out⟩; have HXG := Lib.hid (row_below HB6.out hGl HX10.out); have hh6 := free_of_heap HXG.out 20; have hg6 := cell_of_heap HXG.out 20 _ (entL_20 HBl.out); have hS7 : (w6.setCell ⟨G, 20, none⟩ (.slice a6 (ps.length + 1) c6)).cell? ⟨E, 20, none⟩ = some (.slice (some ⟨b', o', none⟩) ps.length c') ∧ (w6.setCell ⟨G, 20, none⟩ (.slice a6 (ps.length + 1) c6)).cell? ⟨b', o' + J * 2, none⟩ = some (.int .u64 P) := ⟨keep_other hEGn hS6.1, keep_other hbGn hS6.2⟩; have HO6 := Lib.hid ho6; clear ho6 hu6) | (have HBx := Lib.hid (HB5.out.alloc HB5.out.size (.cells #[.int .u64 P, .int .u64 0] 41)); refine step_appP (p := (P, 0)) rfl rfl Try.twoI rfl rfl (HO5.out.mono (below_alloc w5 (.cells #[.int .u64 P, .int .u64 0] 41))) (cell_of_heap (heap_alloc_new w5 (.cells #[.int .u64 P, .int .u64 0] 41)) 0 _ rfl) (cell_of_heap (heap_alloc_new w5 (.cells #[.int .u64 P, .int .u64 0] 41)) 1 _ rfl) hfc hfd HBx.out.size ?_; intro a6 c6 w6 ho6 hu6 _; have HB6 := Lib.hid (HBx.out.trans (hu6.below HBx.out.size (fun j hj => by obtain ⟨z, hz, rfl⟩ := mem_blk.1 hj; exact (HO5.out.lt z hz).1))); have hS6 : w6.cell? ⟨E, 20, none⟩ = some (.slice (some ⟨b', o', none⟩) ps.length c') ∧ w6.cell? ⟨b', o' + J * 2, none⟩ = some (.int .u64 P) := ⟨bcell HB6.out hEl HZ0.out, bcell HB6.out hbk HZ1.out⟩; have HXG := Lib.hid (row_below HB6.out hGl HX10.out); have hh6 := free_of_heap HXG.out 20; have hg6 := cell_of_heap HXG.out 20 _ (entL_20 HBl.out); have hS7 : (w6.setCell ⟨G, 20, none⟩ (.slice a6 (ps.length + 1) c6)).cell? ⟨E, 20, none⟩ = some (.slice (some ⟨b', o', none⟩) ps.length c') ∧ (w6.setCell ⟨G, 20, none⟩ (.slice a6 (ps.length + 1) c6)).cell? ⟨b', o' + J * 2, none⟩ = some (.int .u64 P) := ⟨keep_other hEGn hS6.1, keep_other hbGn hS6.2⟩; have HO6 := Lib.hid ho6; clear ho6 hu6)))
            all_goals
              have hx7 := row_set HXG.out 20 (.slice a6 (ps.length + 1) c6)
              rw [entL_set HBl.out] at hx7
              have HX7 := Lib.hid hx7
              have hsu := Upd.setCell (F := (· = G)) w6 ⟨G, 20, none⟩ (.slice a6 (ps.length + 1) c6) rfl
              have HR7 := Lib.hid ((HO6.out.upd hsu (fun z hz h => by have := (HO6.out.lt z hz).1; have := HGl.out; omega)).rd)
              have HB7 := Lib.hid (HB10.out.trans ((HB6.out.mono HB10.out.size).trans (hsu.below (Nat.le_trans HB10.out.size HB6.out.size) (fun j hj => by subst hj; exact HW1.out))))
              clear hx7 hsu hh6 hg6 hS5 hS5a hS6 hS7 D0
              generalize w6.setCell ⟨G, 20, none⟩ (.slice a6 (ps.length + 1) c6) = w7 at HX7 HR7 HB7 ⊢
              go_wp2_with (with_reducible refine wpList_loadS rfl rfl Try.rowE rfl HX7.out (entL_size HBl.out) ?_)
              refine (entput_L s x s B x a6 (ps.length + 1) c6 (ps ++ [(P, 0)]) w7 HBB.out HBl.out H1.out H2.out H1.out H2.out HR7.out HPb2.out (by omega)).mono ?_
              rintro e w8 ⟨p8, k8, rfl, ho8, hb8⟩
              have HB8 := Lib.hid (HB7.out.trans (hb8.mono HB7.out.size))
              have HX8 := Lib.hid (row_below hb8 (lt_of_heap HX7.out) HX7.out)
              have HRD := Lib.hid (readback_0 x s B x ps 11 _ p8 k8 w8 ho8.rd HBK2.out.2.2.2.2 (by rw [HBK2.out.1, if_neg HS0.out, if_neg (by rw [HBad.out]; decide)]) (by decide))
              generalize putEntL s x s B x (ps ++ [(P, 0)]) = PL2 at HRD ⊢
              clear ho8 hb8 HX7 HB7 HR7
              go_wp2_with fail
              refine HRD.out.mono ?_
              rintro e w9 ⟨rfl, hb9⟩
              have HB9 := Lib.hid (HB8.out.trans (hb9.mono HB8.out.size))
              have HX9 := Lib.hid (row_below hb9 (lt_of_heap HX8.out) HX8.out)
              have HZ9 := Lib.hid (heap_alloc_new w9 (.cells #[Value.int .u64 0, Value.int .u64 0, Value.int .u64 0, Value.int .u8 0, Value.int .u8 0, Value.int .u8 0, Value.int .u8 0, Value.int .u8 0, Value.int .u8 0, Value.int .u8 0, Value.int .u8 0, Value.int .u8 0, Value.int .u8 0, Value.int .u8 0, Value.int .u8 0, Value.int .u8 0, Value.int .u8 0, Value.int .u8 0, Value.int .u8 0, Value.int .u64 0, Value.slice none 0 0] 32))
              have hBz := below_alloc w9 (.cells #[Value.int .u64 0, Value.int .u64 0, Value.int .u64 0, Value.int .u8 0, Value.int .u8 0, Value.int .u8 0, Value.int .u8 0, Value.int .u8 0, Value.int .u8 0, Value.int .u8 0, Value.int .u8 0, Value.int .u8 0, Value.int .u8 0, Value.int .u8 0, Value.int .u8 0, Value.int .u8 0, Value.int .u8 0, Value.int .u8 0, Value.int .u8 0, Value.int .u64 0, Value.slice none 0 0] 32)
              clear hb9 HX8 HB8 HRD
              go_upto_region 28 with (with_reducible refine wpList_storeS rfl rfl Try.rowE rfl rfl HZ9.out (by with_unfolding_all rfl) (by with_unfolding_all rfl) (by with_unfolding_all rfl) ?_; intro w11 HX11 hu11)
              have hB11 : Below w9.heap.size w9 w11 := hBz.trans (hu11.below hBz.size (fun k hk => by subst hk; exact Nat.le_refl _))
              have HB11 := Lib.hid (HB9.out.trans (hB11.mono HB9.out.size))
              have HXG11 := Lib.hid (row_below hB11 (lt_of_heap HX9.out) HX9.out)
              have hh := free_of_heap HXG11.out 20
              have hg := cell_of_heap HXG11.out 20 _ (entL_20 HBl.out)
              have hx12 := row_set HXG11.out 20 (.slice none 0 0)
              rw [entL_set HBl.out] at hx12
              have HX12 := Lib.hid hx12
              have HB12 := Lib.hid (HB11.out.trans ((Upd.setCell (F := (· = G)) w11 ⟨G, 20, none⟩ (.slice none 0 0) rfl).below HB11.out.size (fun j hj => by subst hj; exact HW1.out)))
              clear hB11 hBz hu11 HX9 HZ9 HX11 HB9 hx12
              go_upto_region 29 with fail
              generalize w11.setCell ⟨G, 20, none⟩ (.slice none 0 0) = w12 at HX12 HB12 ⊢
              clear hh hg
              go_wp2_with (with_reducible refine wpList_loadS rfl rfl Try.rowE rfl HX12.out (entL_size HBl.out) ?_)
              refine (entput_L s x s B x none 0 0 [] w12 HBB.out HBl.out H1.out H2.out H1.out H2.out ⟨rfl, Nat.le_refl _, Nat.zero_le _, (fun _ => rfl), .inl rfl⟩ (by intro p hp; cases hp) (by omega)).mono ?_
              rintro e w13 ⟨p13, k13, rfl, ho13, hb13⟩
              have HB13 := Lib.hid (HB12.out.trans (hb13.mono HB12.out.size))
              have HRD := Lib.hid (readback_0 x s B x ps 5 _ p13 k13 w13 ho13.rd HBK0.out.2 HBK0.out.1 (by decide))
              generalize putEntL s x s B x [] = PL0 at HRD ⊢
              clear ho13 hb13 HX12 HB12
              go_wp2_with fail
              refine HRD.out.mono ?_
              rintro e w14 ⟨rfl, hb14⟩
              have HB14 := Lib.hid (HB13.out.trans (hb14.mono HB13.out.size))
              have HZ14 := Lib.hid (heap_alloc_new w14 (.cells #[Value.int .u64 0, Value.int .u64 0, Value.int .u64 0, Value.int .u8 0, Value.int .u8 0, Value.int .u8 0, Value.int .u8 0, Value.int .u8 0, Value.int .u8 0, Value.int .u8 0, Value.int .u8 0, Value.int .u8 0, Value.int .u8 0, Value.int .u8 0, Value.int .u8 0, Value.int .u8 0, Value.int .u8 0, Value.int .u8 0, Value.int .u8 0, Value.int .u64 0, Value.slice none 0 0] 32))
              have hBz := below_alloc w14 (.cells #[Value.int .u64 0, Value.int .u64 0, Value.int .u64 0, Value.int .u8 0, Value.int .u8 0, Value.int .u8 0, Value.int .u8 0, Value.int .u8 0, Value.int .u8 0, Value.int .u8 0, Value.int .u8 0, Value.int .u8 0, Value.int .u8 0, Value.int .u8 0, Value.int .u8 0, Value.int .u8 0, Value.int .u8 0, Value.int .u8 0, Value.int .u8 0, Value.int .u64 0, Value.slice none 0 0] 32)
              clear hb14 HRD HB13
              go_wp2_with (with_reducible refine wpList_storeS rfl rfl Try.rowE rfl rfl HZ14.out (by with_unfolding_all rfl) (by with_unfolding_all rfl) (by with_unfolding_all rfl) ?_; intro w15 HX15 hu15)
              go_ret
              have hB15 : Below w14.heap.size w14 w15 := hBz.trans (hu15.below hBz.size (fun k hk => by subst hk; exact Nat.le_refl _))
              exact ⟨by simp, HB14.out.trans (hB15.mono HB14.out.size)⟩
end Go.Proofs.Ytojjgagcpkjkaaa
