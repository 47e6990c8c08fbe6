/- Contracts and plain laws that this claim uses, each with its conditions as premises. -/
import Derived.Test.YtpkmdnfkeebgbaaJm6
import Derived.Test.YtpkmdnfkeebgbaaJm7
import Derived.Test.YtpkmdnfkeebgbaaJm1
/- What the Maker's Append does. Conditions stand as premises. -/
namespace Go.Proofs.Ytpkmdnfkeebgbaa
open Go.ChangeShapes Go.WideShapes Go.ChangeAt Go.RowKit
set_option linter.unusedVariables false
set_option linter.unusedSimpArgs false

/-- The Maker with so many entries. -/
def MkE (base M D F : Nat) (kd : Bool) (E : Nat) (x : Mk) (w : World) : Prop := MkI base M D F kd E (480 + 2100 * E) (4 * E) (4 * E) (4 * E) x w ∧ ChainOK x.bl.length x.ml E
def AppE (base M D F : Nat) (kd : Bool) (E : Nat) (x : Mk) (w : World) (e : Ending) (w' : World) : Prop :=
  ∃ (v k : Int) (x' : Mk) (E' : Nat), e = .returned (.tuple #[.int .u64 v, .int .i64 k]) ∧ (E' = E ∨ E' = E + 1) ∧ MkE base M D F kd E' x' w' ∧ Step M x w x' w' ∧ ∀ k ∈ x'.ds, ∀ z, k.arr.1 = some z → z.block ∈ ablk x ∨ w.heap.size ≤ z.block
theorem Try.intInfo : (Try.prog.info? 3).map (fun i => (i.zero, i.size, i.bytes)) = some (some (.int .i64 0), 1, 8) := by kernel_rfl
theorem Try.oneI : OneInfo Try.prog 46 3 8 := by
  obtain ⟨i, hi, h0, h1, h2⟩ := info_parts Try.intInfo
  exact ⟨Try.underlying46, i, _, hi, h0, h1, h2, rfl⟩
theorem Try.idR : RowInfo Try.prog 26 16 := ⟨by kernel_rfl, by kernel_rfl⟩
theorem Try.itemInf : (Try.prog.info? 113).map (fun i => (i.zero, i.size, i.bytes)) = some (some (.agg #[.int .u64 0, .int .u64 0]), 2, 16) := by kernel_rfl
theorem Try.twoIt : TwoInfo Try.prog 104 113 16 := by
  obtain ⟨i, hi, h0, h1, h2⟩ := info_parts Try.itemInf
  exact ⟨Try.underlying104, i, _, hi, h0, h1, h2, rfl⟩
theorem Try.builtItem (a b : Int) : Try.prog.built 113 [(0, .int .u64 a), (1, .int .u64 b)] = some #[.int .u64 a, .int .u64 b] := by kernel_rfl
theorem step_storeSN {P : Program} {w : World} {o : Oper} {a : Act} {ops : Array Oper} {Q : Exit → Act → World → Prop} {K : Act → World → Prop} {E : Prop} (hgd : o.guard = none) {ty : TypeId} {x y : Operand} (ho : o.op = .store ty x y) (hd : o.dst = none) {S n : Nat} {cells old : Array Value} {T : TypeId} (hI : RowInfo P ty n)
    (hx : a.eval x = .pointer (some ⟨S, 0, none⟩)) (hy : a.eval y = .agg cells) (hg : w.heap[S]? = some (.cells old T (0, 0))) (hs : old.size = n) (hc : cells.size = n) (h1 : cells.all (·.oneCell') = true)
    (h : ∀ w', Hid (w'.heap[S]? = some (.cells cells T (0, 0))) → Upd (· = S) w w' → K a w') :
    if Region.wanted o (yielded ops a.tmps) = true then Oper.wp P o a w K Q else E :=
  step_storeS hgd ho hI hx hy hg hs hc h1 (fun w' h2 h3 => by rw [hd]; exact h w' h2 h3)
theorem Try.builtE0 (s r m x b0 b1 b2 b3 b4 b5 b6 b7 b8 b9 b10 b11 b12 b13 b14 b15 : Int) (a : Option Addr) (n c : Nat) : Try.prog.built 118 [(0, .int .u64 s), (1, .int .u64 r), (2, .int .u64 m), (3, .agg #[.int .u8 b0, .int .u8 b1, .int .u8 b2, .int .u8 b3, .int .u8 b4, .int .u8 b5, .int .u8 b6, .int .u8 b7, .int .u8 b8, .int .u8 b9, .int .u8 b10, .int .u8 b11, .int .u8 b12, .int .u8 b13, .int .u8 b14, .int .u8 b15]), (4, .int .u64 x), (5, .slice a n c)] = some (entL s r m [b0, b1, b2, b3, b4, b5, b6, b7, b8, b9, b10, b11, b12, b13, b14, b15] x a n c).toArray := by kernel_rfl
theorem Try.builtE (s r m x : Int) (B : List Int) (h : B.length = 16) (a : Option Addr) (n c : Nat) : Try.prog.built 118 [(0, .int .u64 s), (1, .int .u64 r), (2, .int .u64 m), (3, .agg (B.map (Value.int .u8)).toArray), (4, .int .u64 x), (5, .slice a n c)] = some (entL s r m B x a n c).toArray := by
  obtain ⟨b0, b1, b2, b3, b4, b5, b6, b7, b8, b9, b10, b11, b12, b13, b14, b15, rfl⟩ := list16 h
  exact Try.builtE0 s r m x b0 b1 b2 b3 b4 b5 b6 b7 b8 b9 b10 b11 b12 b13 b14 b15 a n c
theorem putEntL_len (s r m : Int) (B : List Int) (x : Int) (ps : List PR) (h : B.length = 16) : (putEntL s r m B x ps).length = 64 + 16 * ps.length := by
  unfold putEntL putO
  rw [if_pos (by omega), objL_length, List.length_append, entH_length h, numsL_length, flatN_length]
  omega
theorem entH_isB (s r m : Int) (B : List Int) (x : Int) (h : IsB B) : IsB (entH s r m B x) := ((numsL_isB _).append h).append (numsL_isB _)
theorem putEntL_isB (s r m : Int) (B : List Int) (x : Int) (ps : List PR) (h : IsB B) : IsB (putEntL s r m B x ps) := by
  unfold putEntL putO
  rw [if_pos (by omega)]
  exact objL_isB (by omega) ((entH_isB s r m B x h).append (numsL_isB _))
theorem cutH_ex {α : Type} {enc : α → Value} {P : Program} {t e : TypeId} {bytes : Nat} (hI : OneInfo P t e bytes) (xa : Option Addr) (xn xc : Nat) (j : Nat) (hj : j ≤ xn) (hc : xn ≤ xc) : ∃ a', (∀ (w : World) (ρ : Operand → Value) (o : Oper) {x hi : Operand}, o.op = .slice t x none (some hi) none → ρ x = .slice xa xn xc → ρ hi = .int .i64 (j : Int) → (execOp ρ o).run P w = .ok (.value (.slice a' j xc)) w) ∧ (∀ (w' : World) (l : List α), Rd enc w' xa xn xc l → Rd enc w' a' j xc (l.take j)) := by
  refine ⟨if xc = 0 then xa else xa.map (·.add (0 * 1)), fun w ρ o x hi ho hx hhi => ?_, fun w' l h => ?_⟩
  · have ht : P.underlying t = some (.slice (P.elem t)) := by rw [elem_of hI.1]; exact hI.1
    have hrun := run_slice_h (P := P) (w := w) t xa xn xc ht .i64 (j : Int) (by omega) (by omega)
    rw [sizeOf_one hI] at hrun
    have hat := run_sliceAt_slice (P := P) (w := w) t (.slice xa xn xc) none (some (.int .i64 (j : Int))) none ht
    simp only [execOp, ho, hx, hhi, Option.map_some, Option.map_none, Sem.run_bind, hat, hrun, Result.andThen, Sem.run_pure, sliced]
    rfl
  · have hs := h.sliced 0 j (by omega) (by omega)
    simp only [List.drop_zero, Nat.sub_zero] at hs
    exact hs
theorem cutL_ex {α : Type} {enc : α → Value} {P : Program} {t e : TypeId} {bytes : Nat} (hI : OneInfo P t e bytes) (xa : Option Addr) (xn xc : Nat) (j : Nat) (hj : j ≤ xn) (hc : xn ≤ xc) : ∃ a', (∀ (w : World) (ρ : Operand → Value) (o : Oper) {x lo : Operand}, o.op = .slice t x (some lo) none none → ρ x = .slice xa xn xc → ρ lo = .int .i64 (j : Int) → (execOp ρ o).run P w = .ok (.value (.slice a' (xn - j) (xc - j))) w) ∧ (∀ (w' : World) (l : List α), Rd enc w' xa xn xc l → Rd enc w' a' (xn - j) (xc - j) (l.drop j)) := by
  refine ⟨if xc = j then xa else xa.map (·.add (j * 1)), fun w ρ o x lo ho hx hlo => ?_, fun w' l h => ?_⟩
  · have ht : P.underlying t = some (.slice (P.elem t)) := by rw [elem_of hI.1]; exact hI.1
    have hrun := run_slice_l (P := P) (w := w) t xa xn xc ht .i64 (j : Int) (by omega) (by omega)
    rw [sizeOf_one hI] at hrun
    have hat := run_sliceAt_slice (P := P) (w := w) t (.slice xa xn xc) (some (.int .i64 (j : Int))) none none ht
    simp only [execOp, ho, hx, hlo, Option.map_some, Option.map_none, Sem.run_bind, hat, hrun, Result.andThen, Sem.run_pure, sliced]
    rfl
  · have hs := h.sliced j xn (by omega) (by omega)
    rw [List.take_of_length_le (by have := h.1; simp; omega)] at hs
    exact hs
set_option maxRecDepth 100000 in
set_option maxHeartbeats 8000000 in
theorem append_lo {base M D F : Nat} {kd : Bool} {E : Nat} {x : Mk} {w : World} (h : MkE base M D F kd E x w) (hE : E ≤ 11) (ra : Option Addr) (rn rc : Nat) (R : List PB) (hr : RdK encPB 2 w ra rn rc R) (hR : ∀ p ∈ R, PairOK p) (hrn : rn ≤ 4)
    (real mono : Int) (hreal : U64 real) (hmono : U64 mono) (B : List Int) (hB : IsB B) (hBl : B.length = 16) (hb : base ≤ w.heap.size) :
    Calls Try.prog 45 #[.pointer (some ⟨M, 0, none⟩), .slice ra rn rc, .int .u64 real, .int .u64 mono, .agg (B.map (Value.int .u8)).toArray] w (AppE base M D F kd E x w) := by
  have H := Lib.hid h.1
  have HCh := Lib.hid h.2
  have HR := Lib.hid hR
  have HBB := Lib.hid hB
  have HBl := Lib.hid hBl
  have HReal := Lib.hid hreal
  have HMono := Lib.hid hmono
  have HQ := Lib.hid (show ∀ (v k : Int) (w' : World), Below w.heap.size w w' → AppE base M D F kd E x w (.returned (.tuple #[.int .u64 v, .int .i64 k])) w' from fun v k w' hb => ⟨v, k, x, E, rfl, .inl rfl, ⟨h.1.below hb, h.2⟩, Step.below hb, fun q hq z hz => .inl (mem_ablk hq hz)⟩)
  have hb0 := below_alloc w (.cells (B.map (Value.int .u8)).toArray 26)
  have HB0 := Lib.hid hb0
  have HR0 := Lib.hid (hr.below hb0)
  have hX0 := heap_alloc_new w (.cells (B.map (Value.int .u8)).toArray 26)
  clear h hB hBl hreal hmono hr hb0 hR
  go_enter Try.func45, Try.ntmps45
  go_upto_region 1 with fail
  generalize w.alloc (.cells (B.map (Value.int .u8)).toArray 26) = w0 at HB0 HR0 hX0 ⊢
  obtain ⟨X, hX⟩ : ∃ X, w.heap.size = X := ⟨_, rfl⟩
  have HX := Lib.hid hX
  rw [hX] at hX0 ⊢
  have HX0 := Lib.hid hX0
  clear hX hX0
  go_upto_region 2 with (go_at_call 48; refine (list_lo ra rn rc R _ HR0.out HR.out (by omega)).mono ?_; rintro e w1 ⟨la, lc, LL, k, rfl, ho, hln, hlp, hb1⟩)
  have HLL := Lib.hid (ho.rd encPB_E)
  have HLp := Lib.hid hlp
  have HB1 := Lib.hid (HB0.out.trans (hb1.mono HB0.out.size))
  have HX1 := Lib.hid (row_below hb1 (lt_of_heap HX0.out) HX0.out)
  have HLo := Lib.hid (show ∀ z, la = some z → w.heap.size ≤ z.block from fun z hz => by have := (ho.lt z hz).1; have := HB0.out.size; omega)
  clear ho hlp hb1 HB0 HR0 HX0
  by_cases hk : k = 0
  case neg =>
    have hk' : (k != 0) = true := by rw [bne_iff_ne]; exact hk
    go_wp2_with fail
    go_ret2
    exact HQ.out _ _ _ HB1.out
  subst hk
  have HM1 := Lib.hid (H.out.below HB1.out)
  go_upto_region 5 with (go_at_call 44; refine (tail_lo HM1.out.mi).mono ?_; rintro e w2 ⟨t, rfl, ht, rfl⟩)
  case _ =>
    go_wp2_with fail
    go_ret2
    exact HQ.out _ _ _ HB1.out
  clear ht
  refine (copy_lo HM1.out.mi (by have := HM1.out.hi; omega) (by have := HCh.out.short; omega) (by have := HM1.out.dn; omega) (by have := HM1.out.fn; omega) (fun y hy => by have := (HM1.out.arrs y hy).1; omega)).mono ?_
  rintro e w2 ⟨O, rfl, hb2⟩
  have HB2 := Lib.hid (HB1.out.trans (hb2.mono HB1.out.size))
  have HX2 := Lib.hid (row_below hb2 (lt_of_heap HX1.out) HX1.out)
  have HLL2 := Lib.hid (HLL.out.below hb2)
  have HM2 := Lib.hid (HM1.out.below hb2)
  clear hb2 HB1 HX1 HLL HM1
  have HXO := Lib.hid (show X ∉ mset M x from fun e => by have := (mset_lt H.out.mi X e).2; have := HX.out; omega)
  have HLO := Lib.hid (show ∀ z, la = some z → z.block ∉ mset M x from fun z hz e => by have := (mset_lt H.out.mi _ e).2; have := HLo.out z hz; omega)
  go_wp2_with fail
  go_loopw [16, 17, 18] (fun who_ pay_ i_ wr => ∃ (i : Nat) (y : Mk) (wa : Option Addr) (cw : Nat) (W : List Int) (pa : Option Addr) (pc : Nat) (L : List SL), who_ = .slice wa W.length cw ∧ pay_ = .slice pa L.length pc ∧ i_ = .int .i64 (i : Int) ∧ i ≤ LL.length ∧ W.length = i ∧ L.length = i ∧ L1 base M D F kd E (480 + 2100 * E + 168 * i) (4 * E + i) (4 * E + i) (4 * E) x w2 y wa cw W pa pc L wr) (fun _ _ i_ _ => LL.length - (intOf i_).toNat)
  case atStart => exact ⟨0, x, none, 0, [], none, 0, [], rfl, rfl, rfl, Nat.zero_le _, rfl, rfl, L1.start HM2.out⟩
  case round =>
    obtain ⟨i, y, wa, cw, W, pa, pc, L, rfl, rfl, rfl, hi, hWi, hLi, hl1⟩ := hrel
    have HL := Lib.hid hl1
    have HWi := Lib.hid hWi
    have HLi := Lib.hid hLi
    have hL4 : L.length ≤ LL.length := by omega
    have hW4 : W.length ≤ LL.length := by omega
    clear hl1 hWi hLi
    have hhi := HL.out.ki.hi
    have hhd := HL.out.ki.dn
    have hhf := HL.out.ki.fn
    by_cases hlt : i < LL.length
    · have hlt' : (i : Int) < (LL.length : Int) := by omega
      have hi0 : (0 : Int) ≤ (i : Int) := by omega
      have HLr := Lib.hid (HLL2.out.upd HL.out.st.upd HLO.out)
      obtain ⟨b, off, hab, hbl, hcs⟩ := HLr.out.at (by omega)
      obtain ⟨p, hp⟩ : ∃ p, LL[i]? = some p := ⟨_, List.getElem?_eq_getElem (by omega)⟩
      have HRg := Lib.hid (hcs.range i p hp (off + i * 2) rfl)
      have hpo := HLp.out p (List.mem_of_getElem? hp)
      have HPO := Lib.hid hpo
      rw [hab]
      clear hcs hp hpo
      go_upto_region 14 with (first
        | (with_reducible refine wpList_loadK rfl rfl Try.pairI rfl HRg.out encPB_E ?_)
        | (go_at_call 51; go_must (refine (data_lo HL.out.ki.mi p HPO.out HL.out.ki.fs HL.out.ki.ds (by omega) (by omega) (by omega) HL.out.ki.lo (Nat.le_trans (by have := HL.out.st.upd.size; have := HB2.out.size; omega) (Nat.le_refl _))).mono ?_); rintro e w3 ⟨k, y3, rfl, hk3, hm3, hs3, hmm3, hml3, hf3, hd3, hfn3, hds3, hbl3, hbl3', hmd3⟩))
      have hK3 : MkI base M D F kd E (480 + 2100 * E + 168 * (i + 1)) (4 * E + (i + 1)) (4 * E + (i + 1)) (4 * E) y3 w3 :=
        ⟨hm3, hf3, hd3, by rw [hmd3]; exact HL.out.ki.md, by have := HL.out.ki.lo; omega, by omega, by rcases hds3 with h | ⟨q, h, _⟩; (rw [h]; omega); (rw [h, List.length_append, List.length_singleton]; omega), by omega, fun q hq => by
          rcases hds3 with h | ⟨u, h, h0, _⟩
          · rw [h] at hq; exact HL.out.ki.cn q hq
          · rw [h] at hq
            rcases List.mem_append.1 hq with hq | hq
            · exact HL.out.ki.cn q hq
            · rw [List.mem_singleton.1 hq, h0]; exact Nat.zero_le _⟩
      have HL3 := Lib.hid (HL.out.step hK3 hs3 hmm3 hml3 (fun q hq z hz => by
          rcases hds3 with h | ⟨u, h, _, h0⟩
          · rw [h] at hq; exact HL.out.ar q hq z hz
          · rw [h] at hq
            rcases List.mem_append.1 hq with hq | hq
            · exact HL.out.ar q hq z hz
            · rw [List.mem_singleton.1 hq, h0] at hz; cases hz) (by rcases hds3 with h | ⟨q, h, _⟩; (rw [h]; omega); (rw [h, List.length_append, List.length_singleton]; omega)) hbl3)
      clear hK3 hm3 hs3 hmm3 hml3 hf3 hfn3 hds3 hbl3 hbl3' hmd3 HL HLr HRg HPO hhi hhd hhf hab hbl
      have cd := HL3.out.ki.mi.cd
      have hdl : y3.ds.length = y3.d.2.1 := HL3.out.ki.mi.dO.1
      obtain ⟨b, off, hab, hbl, hcs⟩ := (HL3.out.ki.mi.dO.rd encKn_E).at (by omega)
      obtain ⟨q, hq⟩ : ∃ q, y3.ds[k]? = some q := ⟨_, List.getElem?_eq_getElem hk3⟩
      have hqs := (hd3 q (List.mem_of_getElem? hq)).2.2.1
      have c0 : w3.cell? ⟨b, off + k * 5, none⟩ = some (.string q.text) := hcs k q hq 0 _ rfl
      have hk0 : (0 : Int) ≤ (k : Int) := by omega
      have hk3' : (k : Int) < (y3.d.2.1 : Int) := by omega
      rw [hab] at cd
      clear hcs hq hd3
      go_upto_region 16 with (first
        | (with_reducible refine wpList_strBytes rfl rfl Try.underlying9 Try.underlying22 Try.underlying5 rfl (by omega) ?_; intro a4 c4 w4 hr4 hb4 hf4; have HL4 := Lib.hid (HL3.out.below hb4); have HL4a := Lib.hid (HL4.out.below (below_alloc w4 (.cells #[.slice a4 q.text.size c4] 22))); have HR4 := Lib.hid (Rd.one encSL 22 w4 (a4, q.text.size, c4)))
        | (at_builtin; go_must (refine wpList_appAt rfl rfl Try.oneBB rfl rfl HL4a.out.po HR4.out (fun _ => rfl) (by omega) (by omega) (by have := HL4a.out.st.upd.size; exact this) ?_); intro pa5 pc5 w5 ho5 hu5 hn5))
      have HL5 := Lib.hid (HL4a.out.pay (z := (a4, q.text.size, c4)) ho5 hu5 hn5 ⟨strL q.text, hr4.mono (below_alloc w4 _), by show q.text.size ≤ 1000; omega⟩ (fun z hz => ⟨fun e => by have := (mset_lt HL3.out.ki.mi _ e).2; have := hf4 z hz; omega, by have := (hf4 z hz).2; simp; omega, fun e => by
          obtain ⟨u, hu, hzu⟩ := mem_blk.1 e
          have := (HL3.out.po.lt u hu).2
          have := hf4 z hz
          omega⟩))
      have hkd : k < y3.ds.length := hk3
      have HKD := Lib.hid hkd
      have hsz5 : w2.heap.size ≤ w5.heap.size := HL5.out.st.upd.size
      clear HL3 HL4 HL4a HR4 hr4 hb4 hf4 ho5 hu5 hn5 cd c0 hqs hab hbl hk3' hkd
      go_wp2_with fail
      go_loopw [20] (fun at_ wx => ∃ j : Nat, at_ = .int .i64 (j : Int) ∧ j ≤ W.length ∧ Below w5.heap.size w5 wx) (fun at_ _ => (intOf at_).toNat)
      case atStart => exact ⟨W.length, rfl, Nat.le_refl _, Below.refl _ _⟩
      case round =>
        obtain ⟨j, rfl, hj, hbx⟩ := hrel
        have HBx := Lib.hid hbx
        clear hbx
        have HL6 := Lib.hid (HL5.out.below HBx.out)
        go_upto_region 16 with fail
        go_cut [92] from 68 to 94 (fun s_ wx => ∃ b : Bool, s_ = .bool b ∧ (b = true → 0 < j) ∧ Below wr.heap.size wr wx)
        case first =>
          rcases Nat.eq_zero_or_pos j with hj0 | hj0
          · have hjd : decide ((0 : Int) < (j : Int)) = false := by simp [hj0]
            have hjd2 : decide (0 < j) = false := by simp [hj0]
            have HJ := Lib.hid hj0
            clear hj0
            go_quiet (fail)
            go_wp2_with fail
            go_meet
            exact ⟨false, rfl, fun h => (by cases h), Below.drewN' wr nq⟩
          · obtain ⟨j1, rfl⟩ : ∃ j1, j = j1 + 1 := ⟨j - 1, by omega⟩
            have hjd : decide ((0 : Int) < ((j1 + 1 : Nat) : Int)) = true := decide_eq_true (by omega)
            have hjd2 : decide (0 < j1 + 1) = true := by simp
            have hjd3 : decide ((0 : Int) < (j1 : Int) + 1) = true := decide_eq_true (by omega)
            have hw1 : IntKind.i64.wrap (((j1 + 1 : Nat) : Int) - 1) = (j1 : Int) := by rw [IntKind.wrap_i64]; omega
            have hw2 : IntKind.i64.wrap ((j1 : Int) + 1 - 1) = (j1 : Int) := by rw [IntKind.wrap_i64]; omega
            obtain ⟨bw, ow, hwa, hbw, hcw⟩ := HL6.out.wo.rd.at (by omega)
            obtain ⟨v, hv⟩ : ∃ v, W[j1]? = some v := ⟨_, List.getElem?_eq_getElem (by omega)⟩
            obtain ⟨hv0, hv1⟩ := HL6.out.wb v (List.mem_of_getElem? hv)
            obtain ⟨vn, rfl⟩ := Int.eq_ofNat_of_zero_le hv0
            have cwv := hcw j1 _ hv
            have cd := HL6.out.ki.mi.cd
            obtain ⟨b, off, hab, hbl, hcs⟩ := (HL6.out.ki.mi.dO.rd encKn_E).at (by omega)
            obtain ⟨q1, hq1⟩ : ∃ q, y3.ds[vn]? = some q := ⟨_, List.getElem?_eq_getElem (by omega)⟩
            obtain ⟨q2, hq2⟩ : ∃ q, y3.ds[k]? = some q := ⟨_, List.getElem?_eq_getElem hk3⟩
            have c1 : wr.cell? ⟨b, off + vn * 5 + 1, none⟩ = some (.int .u64 (q1.pl : Int)) := by rw [Nat.add_assoc]; exact hcs vn q1 hq1 1 _ rfl
            have c2 : wr.cell? ⟨b, off + k * 5 + 1, none⟩ = some (.int .u64 (q2.pl : Int)) := by rw [Nat.add_assoc]; exact hcs k q2 hq2 1 _ rfl
            have hj2 : (j1 : Int) < (W.length : Int) := by omega
            have hj3 : (0 : Int) ≤ (j1 : Int) := by omega
            have hvl : (vn : Int) < (y3.d.2.1 : Int) := by omega
            have hkl : (k : Int) < (y3.d.2.1 : Int) := by omega
            rw [hab] at cd
            subst hwa
            clear hcs hq1 hq2 hv hcw hab hbl
            by_cases hpp : q2.pl < q1.pl
            · have hp1 : decide ((q2.pl : Int) < (q1.pl : Int)) = true := by simp; omega
              have hp2 : decide (q2.pl < q1.pl) = true := by simp; omega
              go_quiet (fail)
              go_wp2_with fail
              go_meet
              exact ⟨true, rfl, fun h => (by omega), Below.drewN' wr nq⟩
            · have hp1 : decide ((q2.pl : Int) < (q1.pl : Int)) = false := by simp; omega
              have hp2 : decide (q2.pl < q1.pl) = false := by simp; omega
              go_quiet (fail)
              go_wp2_with fail
              go_meet
              exact ⟨false, rfl, fun h => (by cases h), Below.drewN' wr nq⟩
        case' rest =>
          obtain ⟨b, rfl, hbj, hbw⟩ := hcut
        have HB6 := Lib.hid (HBx.out.trans (hbw.mono HBx.out.size))
        clear hbw
        rcases b with _ | _
        · have HL7 := Lib.hid (HL5.out.below HB6.out)
          clear HBx HL6 HB6 hbj
          go_upto_region 18 with fail
          have hwcap : W.length ≤ cw := HL7.out.wo.rd.2.1
          obtain ⟨aH, xH, rH⟩ := cutH_ex (enc := Value.int .i64) Try.oneI wa W.length cw j hj hwcap
          obtain ⟨aL, xL, rL⟩ := cutL_ex (enc := Value.int .i64) Try.oneI wa W.length cw j hj hwcap
          have HRH := Lib.hid (rH _ _ HL7.out.wo.rd)
          have HRL := Lib.hid (rL _ _ HL7.out.wo.rd)
          have HXH := Lib.hid xH
          have HXL := Lib.hid xL
          clear xH rH xL rL
          have HLen := Lib.hid (show (W.take j ++ ((k : Int) :: W.drop j)).length = W.length + 1 by rw [List.length_append, List.length_take, List.length_cons, List.length_drop]; omega)
          have HWB := Lib.hid (show ∀ u ∈ W.take j ++ ((k : Int) :: W.drop j), 0 ≤ u ∧ u < (y3.ds.length : Int) from fun u hu => by
            rcases List.mem_append.1 hu with hu | hu
            · exact HL7.out.wb u (List.mem_of_mem_take hu)
            · rcases List.mem_cons.1 hu with rfl | hu
              · exact ⟨by omega, by omega⟩
              · exact HL7.out.wb u (List.mem_of_mem_drop hu))
          have HBd := Lib.hid (below_drew wc)
          have HRH2 := Lib.hid (HRH.out.mono HBd.out)
          have HRL2 := Lib.hid (HRL.out.mono HBd.out)
          refine wp_region_held (S := fun _ => True) (by kernel_rfl) ?_
          change wpAnyH _ _ _ _ _ _ _ _ wc.drew
          have hC : True := trivial
          generalize wc.drew = wd at HBd HRH2 HRL2 ⊢
          refine held_take 1 (d := some 96) (v := (.slice wa W.length cw)) rfl rfl (by kernel_rfl) (by kernel_rfl) (by kernel_rfl) (fun _ _ _ h => h) hC (by kernel_rfl) (fun w hSw => by clear hSw; go_simp) ?_
          try simp only [Act.put, List.setIfInBounds_toArray, List.set_cons_zero, List.set_cons_succ]
          refine held_take 2 (d := some 97) (v := (.int .i64 (j : Int))) rfl rfl (by kernel_rfl) (by kernel_rfl) (by kernel_rfl) (fun _ _ _ h => h) hC (by kernel_rfl) (fun w hSw => by clear hSw; go_simp) ?_
          try simp only [Act.put, List.setIfInBounds_toArray, List.set_cons_zero, List.set_cons_succ]
          refine held_take 3 (d := some 98) (v := (.slice aH j cw)) rfl rfl (by kernel_rfl) (by kernel_rfl) (by kernel_rfl) (fun _ _ _ h => h) hC (by kernel_rfl) (fun w hSw => by exact HXH.out w _ _ rfl rfl rfl) ?_
          try simp only [Act.put, List.setIfInBounds_toArray, List.set_cons_zero, List.set_cons_succ]
          refine held_take 5 (d := some 100) (v := (.int .i64 (k : Int))) rfl rfl (by kernel_rfl) (by kernel_rfl) (by kernel_rfl) (fun _ _ _ h => h) hC (by kernel_rfl) (fun w hSw => by clear hSw; go_simp) ?_
          try simp only [Act.put, List.setIfInBounds_toArray, List.set_cons_zero, List.set_cons_succ]
          refine held_take 8 (d := some 103) (v := (.slice wa W.length cw)) rfl rfl (by kernel_rfl) (by kernel_rfl) (by kernel_rfl) (fun _ _ _ h => h) hC (by kernel_rfl) (fun w hSw => by clear hSw; go_simp) ?_
          try simp only [Act.put, List.setIfInBounds_toArray, List.set_cons_zero, List.set_cons_succ]
          refine held_take 9 (d := some 104) (v := (.int .i64 (j : Int))) rfl rfl (by kernel_rfl) (by kernel_rfl) (by kernel_rfl) (fun _ _ _ h => h) hC (by kernel_rfl) (fun w hSw => by clear hSw; go_simp) ?_
          try simp only [Act.put, List.setIfInBounds_toArray, List.set_cons_zero, List.set_cons_succ]
          refine held_take 10 (d := some 105) (v := (.slice aL (W.length - j) (cw - j))) rfl rfl (by kernel_rfl) (by kernel_rfl) (by kernel_rfl) (fun _ _ _ h => h) hC (by kernel_rfl) (fun w hSw => by exact HXL.out w _ _ rfl rfl rfl) ?_
          try simp only [Act.put, List.setIfInBounds_toArray, List.set_cons_zero, List.set_cons_succ]
          refine held_two 0 6 rfl rfl (by kernel_rfl) (fun K hK => ?_) (fun K hK => ?_)
          · go_simp
            have HB1 := Lib.hid (show Below wd.heap.size wd (wd.alloc (.cells #[] 3)) from (((Below.refl _ _) : Below wd.heap.size wd wd)).alloc ((Below.refl _ _) : Below wd.heap.size wd wd).size (.cells #[] 3))
            have HO1 := Lib.hid (show Own (Value.int .i64) 3 (wd.alloc (.cells #[] 3)) wd.heap.size (some ⟨wd.heap.size, 0, none⟩) 0 0 [] from  Own.lit (enc := Value.int .i64) (e := 3) (base := wd.heap.size) (w := wd) [] #[] 0 rfl rfl ((Below.refl _ _) : Below wd.heap.size wd wd).size (by unfold maxLen; omega))
            refine hK _ _ trivial ?_
            clear hK K
            try simp only [Act.put, List.setIfInBounds_toArray, List.set_cons_zero, List.set_cons_succ, Nat.zero_add]
            refine held_two 4 6 rfl rfl (by kernel_rfl) (fun K hK => ?_) (fun K hK => ?_)
            · refine step_appOwn rfl rfl Try.oneI rfl rfl HO1.out (HRH2.out.mono (show Below wd.heap.size wd (wd.alloc (.cells #[] 3)) from HB1.out)) (fun _ => rfl) (by omega) (by omega) (HB1.out : Below wd.heap.size wd (wd.alloc (.cells #[] 3))).size ?_
              intro a2q c2q v2a ho2q hb2q _ hg2q
              have HB2a := Lib.hid ((HB1.out : Below wd.heap.size wd (wd.alloc (.cells #[] 3))).trans hb2q)
              have HO2a := Lib.hid (show Own (Value.int .i64) 3 v2a wd.heap.size a2q j c2q (W.take j) by rw [Nat.zero_add, List.nil_append] at ho2q; exact ho2q)
              refine hK _ _ trivial ?_
              clear hK K
              try simp only [Act.put, List.setIfInBounds_toArray, List.set_cons_zero, List.set_cons_succ, Nat.zero_add]
              clear ho2q hb2q hg2q
              refine held_one 6 rfl (by kernel_rfl) (fun K hK => ?_)
              go_simp
              have HB3ap := Lib.hid (show Below wd.heap.size wd (v2a.alloc (.cells #[.int .i64 (k : Int)] 3)) from ((HB2a.out : Below wd.heap.size wd v2a)).alloc (HB2a.out : Below wd.heap.size wd v2a).size (.cells #[.int .i64 (k : Int)] 3))
              have HK3ap := Lib.hid (show Rd (Value.int .i64) (v2a.alloc (.cells #[.int .i64 (k : Int)] 3)) (some ⟨v2a.heap.size, 0, none⟩) 1 1 [(k : Int)] from  Rd.one (Value.int .i64) 3 v2a (k : Int))
              have HO3ap := Lib.hid (HO2a.out.mono (below_alloc v2a (.cells #[.int .i64 (k : Int)] 3)))
              refine hK _ _ trivial ?_
              clear hK K
              try simp only [Act.put, List.setIfInBounds_toArray, List.set_cons_zero, List.set_cons_succ, Nat.zero_add]
              refine held_one 7 rfl (by kernel_rfl) (fun K hK => ?_)
              refine step_appOwn rfl rfl Try.oneI rfl rfl HO3ap.out HK3ap.out (fun _ => rfl) (by omega) (by omega) (HB3ap.out : Below wd.heap.size wd (v2a.alloc (.cells #[.int .i64 (k : Int)] 3))).size ?_
              intro a4q c4q v4ap ho4q hb4q _ hg4q
              have HB4ap := Lib.hid ((HB3ap.out : Below wd.heap.size wd (v2a.alloc (.cells #[.int .i64 (k : Int)] 3))).trans hb4q)
              have HO4ap := Lib.hid (show Own (Value.int .i64) 3 v4ap wd.heap.size a4q (j + 1) c4q (W.take j ++ [(k : Int)]) by exact ho4q)
              refine hK _ _ trivial ?_
              clear hK K
              try simp only [Act.put, List.setIfInBounds_toArray, List.set_cons_zero, List.set_cons_succ, Nat.zero_add]
              clear ho4q hb4q hg4q
              refine held_one 11 rfl (by kernel_rfl) (fun K hK => ?_)
              refine step_appOwn rfl rfl Try.oneI rfl rfl HO4ap.out (HRL2.out.mono (show Below wd.heap.size wd v4ap from HB4ap.out)) (fun _ => rfl) (by omega) (by omega) (HB4ap.out : Below wd.heap.size wd v4ap).size ?_
              intro a5q c5q v5ap ho5q hb5q _ hg5q
              have HB5ap := Lib.hid ((HB4ap.out : Below wd.heap.size wd v4ap).trans hb5q)
              have HO5ap := Lib.hid (show Own (Value.int .i64) 3 v5ap wd.heap.size a5q (W.length + 1) c5q (W.take j ++ ((k : Int) :: W.drop j)) by rw [List.append_assoc, show j + 1 + (W.length - j) = W.length + 1 by omega] at ho5q; exact ho5q)
              refine hK _ _ trivial ?_
              clear hK K
              try simp only [Act.put, List.setIfInBounds_toArray, List.set_cons_zero, List.set_cons_succ, Nat.zero_add]
              rw [show j + 1 + (W.length - j) = W.length + 1 by omega]
              clear ho5q hb5q hg5q
              refine held_take 12 (d := some 16) (v := (.slice a5q (W.length + 1) c5q)) rfl rfl (by kernel_rfl) (by kernel_rfl) (by kernel_rfl) (fun _ _ _ h => h) hC (by kernel_rfl) (fun w hSw => by clear hSw; go_simp) ?_
              try simp only [Act.put, List.setIfInBounds_toArray, List.set_cons_zero, List.set_cons_succ]
              refine wpAnyH_done (by kernel_rfl) ?_ _
              have HL9 := Lib.hid ((HL7.out.below HBd.out).who (W' := W.take j ++ ((k : Int) :: W.drop j)) (by rw [HLen.out]; exact HO5ap.out) HB5ap.out (fun u hu => HWB.out u hu))
              go_wp2_with fail
              go_roundw
              case rel => exact ⟨i + 1, y3, _, _, W.take j ++ ((k : Int) :: W.drop j), pa5, pc5, L ++ [(a4, q.text.size, c4)], by rw [HLen.out], by rw [List.length_append, List.length_singleton], by congr 1, by omega, by rw [HLen.out, HWi.out], by rw [List.length_append, List.length_singleton, HLi.out], HL9.out⟩
              case measure => simp [intOf]; omega
            · go_simp
              have HB2a := Lib.hid (show Below wd.heap.size wd ((wd.alloc (.cells #[] 3)).alloc (.cells #[.int .i64 (k : Int)] 3)) from ((HB1.out : Below wd.heap.size wd (wd.alloc (.cells #[] 3)))).alloc (HB1.out : Below wd.heap.size wd (wd.alloc (.cells #[] 3))).size (.cells #[.int .i64 (k : Int)] 3))
              have HK2a := Lib.hid (show Rd (Value.int .i64) ((wd.alloc (.cells #[] 3)).alloc (.cells #[.int .i64 (k : Int)] 3)) (some ⟨wd.heap.size + 1, 0, none⟩) 1 1 [(k : Int)] from (World.size_alloc wd _) ▸ Rd.one (Value.int .i64) 3 (wd.alloc (.cells #[] 3)) (k : Int))
              have HO2a := Lib.hid (HO1.out.mono (below_alloc (wd.alloc (.cells #[] 3)) (.cells #[.int .i64 (k : Int)] 3)))
              refine hK _ _ trivial ?_
              clear hK K
              try simp only [Act.put, List.setIfInBounds_toArray, List.set_cons_zero, List.set_cons_succ, Nat.zero_add]
              refine held_one 4 rfl (by kernel_rfl) (fun K hK => ?_)
              refine step_appOwn rfl rfl Try.oneI rfl rfl HO2a.out (HRH2.out.mono (show Below wd.heap.size wd ((wd.alloc (.cells #[] 3)).alloc (.cells #[.int .i64 (k : Int)] 3)) from HB2a.out)) (fun _ => rfl) (by omega) (by omega) (HB2a.out : Below wd.heap.size wd ((wd.alloc (.cells #[] 3)).alloc (.cells #[.int .i64 (k : Int)] 3))).size ?_
              intro a3q c3q v3ak ho3q hb3q _ hg3q
              have HB3ak := Lib.hid ((HB2a.out : Below wd.heap.size wd ((wd.alloc (.cells #[] 3)).alloc (.cells #[.int .i64 (k : Int)] 3))).trans hb3q)
              have HO3ak := Lib.hid (show Own (Value.int .i64) 3 v3ak wd.heap.size a3q j c3q (W.take j) by rw [Nat.zero_add, List.nil_append] at ho3q; exact ho3q)
              have HK3ak := Lib.hid (HK2a.out.grown hg3q (fun z hz => by cases hz; simp [Value.ownBlock]))
              refine hK _ _ trivial ?_
              clear hK K
              try simp only [Act.put, List.setIfInBounds_toArray, List.set_cons_zero, List.set_cons_succ, Nat.zero_add]
              clear ho3q hb3q hg3q
              refine held_one 7 rfl (by kernel_rfl) (fun K hK => ?_)
              refine step_appOwn rfl rfl Try.oneI rfl rfl HO3ak.out HK3ak.out (fun _ => rfl) (by omega) (by omega) (HB3ak.out : Below wd.heap.size wd v3ak).size ?_
              intro a4q c4q v4ak ho4q hb4q _ hg4q
              have HB4ak := Lib.hid ((HB3ak.out : Below wd.heap.size wd v3ak).trans hb4q)
              have HO4ak := Lib.hid (show Own (Value.int .i64) 3 v4ak wd.heap.size a4q (j + 1) c4q (W.take j ++ [(k : Int)]) by exact ho4q)
              refine hK _ _ trivial ?_
              clear hK K
              try simp only [Act.put, List.setIfInBounds_toArray, List.set_cons_zero, List.set_cons_succ, Nat.zero_add]
              clear ho4q hb4q hg4q
              refine held_one 11 rfl (by kernel_rfl) (fun K hK => ?_)
              refine step_appOwn rfl rfl Try.oneI rfl rfl HO4ak.out (HRL2.out.mono (show Below wd.heap.size wd v4ak from HB4ak.out)) (fun _ => rfl) (by omega) (by omega) (HB4ak.out : Below wd.heap.size wd v4ak).size ?_
              intro a5q c5q v5ak ho5q hb5q _ hg5q
              have HB5ak := Lib.hid ((HB4ak.out : Below wd.heap.size wd v4ak).trans hb5q)
              have HO5ak := Lib.hid (show Own (Value.int .i64) 3 v5ak wd.heap.size a5q (W.length + 1) c5q (W.take j ++ ((k : Int) :: W.drop j)) by rw [List.append_assoc, show j + 1 + (W.length - j) = W.length + 1 by omega] at ho5q; exact ho5q)
              refine hK _ _ trivial ?_
              clear hK K
              try simp only [Act.put, List.setIfInBounds_toArray, List.set_cons_zero, List.set_cons_succ, Nat.zero_add]
              rw [show j + 1 + (W.length - j) = W.length + 1 by omega]
              clear ho5q hb5q hg5q
              refine held_take 12 (d := some 16) (v := (.slice a5q (W.length + 1) c5q)) rfl rfl (by kernel_rfl) (by kernel_rfl) (by kernel_rfl) (fun _ _ _ h => h) hC (by kernel_rfl) (fun w hSw => by clear hSw; go_simp) ?_
              try simp only [Act.put, List.setIfInBounds_toArray, List.set_cons_zero, List.set_cons_succ]
              refine wpAnyH_done (by kernel_rfl) ?_ _
              have HL9 := Lib.hid ((HL7.out.below HBd.out).who (W' := W.take j ++ ((k : Int) :: W.drop j)) (by rw [HLen.out]; exact HO5ak.out) HB5ak.out (fun u hu => HWB.out u hu))
              go_wp2_with fail
              go_roundw
              case rel => exact ⟨i + 1, y3, _, _, W.take j ++ ((k : Int) :: W.drop j), pa5, pc5, L ++ [(a4, q.text.size, c4)], by rw [HLen.out], by rw [List.length_append, List.length_singleton], by congr 1, by omega, by rw [HLen.out, HWi.out], by rw [List.length_append, List.length_singleton, HLi.out], HL9.out⟩
              case measure => simp [intOf]; omega
          · go_simp
            have HB1 := Lib.hid (show Below wd.heap.size wd (wd.alloc (.cells #[.int .i64 (k : Int)] 3)) from (((Below.refl _ _) : Below wd.heap.size wd wd)).alloc ((Below.refl _ _) : Below wd.heap.size wd wd).size (.cells #[.int .i64 (k : Int)] 3))
            have HK1 := Lib.hid (show Rd (Value.int .i64) (wd.alloc (.cells #[.int .i64 (k : Int)] 3)) (some ⟨wd.heap.size, 0, none⟩) 1 1 [(k : Int)] from  Rd.one (Value.int .i64) 3 wd (k : Int))
            refine hK _ _ trivial ?_
            clear hK K
            try simp only [Act.put, List.setIfInBounds_toArray, List.set_cons_zero, List.set_cons_succ, Nat.zero_add]
            refine held_one 0 rfl (by kernel_rfl) (fun K hK => ?_)
            go_simp
            have HB2k := Lib.hid (show Below wd.heap.size wd ((wd.alloc (.cells #[.int .i64 (k : Int)] 3)).alloc (.cells #[] 3)) from ((HB1.out : Below wd.heap.size wd (wd.alloc (.cells #[.int .i64 (k : Int)] 3)))).alloc (HB1.out : Below wd.heap.size wd (wd.alloc (.cells #[.int .i64 (k : Int)] 3))).size (.cells #[] 3))
            have HO2k := Lib.hid (show Own (Value.int .i64) 3 ((wd.alloc (.cells #[.int .i64 (k : Int)] 3)).alloc (.cells #[] 3)) wd.heap.size (some ⟨wd.heap.size + 1, 0, none⟩) 0 0 [] from (World.size_alloc wd _) ▸ Own.lit (enc := Value.int .i64) (e := 3) (base := wd.heap.size) (w := (wd.alloc (.cells #[.int .i64 (k : Int)] 3))) [] #[] 0 rfl rfl (HB1.out : Below wd.heap.size wd (wd.alloc (.cells #[.int .i64 (k : Int)] 3))).size (by unfold maxLen; omega))
            have HK2k := Lib.hid (HK1.out.mono (below_alloc (wd.alloc (.cells #[.int .i64 (k : Int)] 3)) (.cells #[] 3)))
            refine hK _ _ trivial ?_
            clear hK K
            try simp only [Act.put, List.setIfInBounds_toArray, List.set_cons_zero, List.set_cons_succ, Nat.zero_add]
            refine held_one 4 rfl (by kernel_rfl) (fun K hK => ?_)
            refine step_appOwn rfl rfl Try.oneI rfl rfl HO2k.out (HRH2.out.mono (show Below wd.heap.size wd ((wd.alloc (.cells #[.int .i64 (k : Int)] 3)).alloc (.cells #[] 3)) from HB2k.out)) (fun _ => rfl) (by omega) (by omega) (HB2k.out : Below wd.heap.size wd ((wd.alloc (.cells #[.int .i64 (k : Int)] 3)).alloc (.cells #[] 3))).size ?_
            intro a3q c3q v3k ho3q hb3q _ hg3q
            have HB3k := Lib.hid ((HB2k.out : Below wd.heap.size wd ((wd.alloc (.cells #[.int .i64 (k : Int)] 3)).alloc (.cells #[] 3))).trans hb3q)
            have HO3k := Lib.hid (show Own (Value.int .i64) 3 v3k wd.heap.size a3q j c3q (W.take j) by rw [Nat.zero_add, List.nil_append] at ho3q; exact ho3q)
            have HK3k := Lib.hid (HK2k.out.grown hg3q (fun z hz => by cases hz; simp [Value.ownBlock]))
            refine hK _ _ trivial ?_
            clear hK K
            try simp only [Act.put, List.setIfInBounds_toArray, List.set_cons_zero, List.set_cons_succ, Nat.zero_add]
            clear ho3q hb3q hg3q
            refine held_one 7 rfl (by kernel_rfl) (fun K hK => ?_)
            refine step_appOwn rfl rfl Try.oneI rfl rfl HO3k.out HK3k.out (fun _ => rfl) (by omega) (by omega) (HB3k.out : Below wd.heap.size wd v3k).size ?_
            intro a4q c4q v4k ho4q hb4q _ hg4q
            have HB4k := Lib.hid ((HB3k.out : Below wd.heap.size wd v3k).trans hb4q)
            have HO4k := Lib.hid (show Own (Value.int .i64) 3 v4k wd.heap.size a4q (j + 1) c4q (W.take j ++ [(k : Int)]) by exact ho4q)
            refine hK _ _ trivial ?_
            clear hK K
            try simp only [Act.put, List.setIfInBounds_toArray, List.set_cons_zero, List.set_cons_succ, Nat.zero_add]
            clear ho4q hb4q hg4q
            refine held_one 11 rfl (by kernel_rfl) (fun K hK => ?_)
            refine step_appOwn rfl rfl Try.oneI rfl rfl HO4k.out (HRL2.out.mono (show Below wd.heap.size wd v4k from HB4k.out)) (fun _ => rfl) (by omega) (by omega) (HB4k.out : Below wd.heap.size wd v4k).size ?_
            intro a5q c5q v5k ho5q hb5q _ hg5q
            have HB5k := Lib.hid ((HB4k.out : Below wd.heap.size wd v4k).trans hb5q)
            have HO5k := Lib.hid (show Own (Value.int .i64) 3 v5k wd.heap.size a5q (W.length + 1) c5q (W.take j ++ ((k : Int) :: W.drop j)) by rw [List.append_assoc, show j + 1 + (W.length - j) = W.length + 1 by omega] at ho5q; exact ho5q)
            refine hK _ _ trivial ?_
            clear hK K
            try simp only [Act.put, List.setIfInBounds_toArray, List.set_cons_zero, List.set_cons_succ, Nat.zero_add]
            rw [show j + 1 + (W.length - j) = W.length + 1 by omega]
            clear ho5q hb5q hg5q
            refine held_take 12 (d := some 16) (v := (.slice a5q (W.length + 1) c5q)) rfl rfl (by kernel_rfl) (by kernel_rfl) (by kernel_rfl) (fun _ _ _ h => h) hC (by kernel_rfl) (fun w hSw => by clear hSw; go_simp) ?_
            try simp only [Act.put, List.setIfInBounds_toArray, List.set_cons_zero, List.set_cons_succ]
            refine wpAnyH_done (by kernel_rfl) ?_ _
            have HL9 := Lib.hid ((HL7.out.below HBd.out).who (W' := W.take j ++ ((k : Int) :: W.drop j)) (by rw [HLen.out]; exact HO5k.out) HB5k.out (fun u hu => HWB.out u hu))
            go_wp2_with fail
            go_roundw
            case rel => exact ⟨i + 1, y3, _, _, W.take j ++ ((k : Int) :: W.drop j), pa5, pc5, L ++ [(a4, q.text.size, c4)], by rw [HLen.out], by rw [List.length_append, List.length_singleton], by congr 1, by omega, by rw [HLen.out, HWi.out], by rw [List.length_append, List.length_singleton, HLi.out], HL9.out⟩
            case measure => simp [intOf]; omega
        · obtain ⟨j1, rfl⟩ : ∃ j1, j = j1 + 1 := ⟨j - 1, by have := hbj rfl; omega⟩
          have hw1 : IntKind.i64.wrap (((j1 + 1 : Nat) : Int) - 1) = (j1 : Int) := by rw [IntKind.wrap_i64]; omega
          have hw2 : IntKind.i64.wrap ((j1 : Int) + 1 - 1) = (j1 : Int) := by rw [IntKind.wrap_i64]; omega
          go_wp2_with fail
          go_roundw
          case rel => exact ⟨j1, by first | rfl | congr 1, by omega, HB6.out⟩
          case measure => simp [intOf]
    · obtain rfl : i = LL.length := by omega
      have hge : ¬ ((LL.length : Int) < (LL.length : Int)) := by omega
      have HM6 := Lib.hid HL.out
      have hLe : L.length ≤ 4 := by omega
      have hWe : W.length ≤ 4 := by omega
      clear HLL2 HLp hi hlt hL4 hW4 HL
      go_wp2_with fail
      obtain ⟨w6, rfl⟩ : ∃ wo, wo = wr := ⟨wr, rfl⟩
      have hsz6 : w2.heap.size ≤ w6.heap.size := HM6.out.st.upd.size
      go_loopw [15, 21] (fun it_ i_ wr => ∃ (i : Nat) (ia : Option Addr) (ic : Nat) (ps : List PR), it_ = .slice ia ps.length ic ∧ i_ = .int .i64 (i : Int) ∧ i ≤ W.length ∧ ps.length = i ∧ OwnP 113 wr w6.heap.size ia ps.length ic ps ∧ (∀ p ∈ ps, U64 p.1 ∧ U64 p.2) ∧ Below w6.heap.size w6 wr) (fun _ i_ _ => W.length - (intOf i_).toNat)
      case atStart => exact ⟨0, none, 0, [], rfl, rfl, Nat.zero_le _, rfl, OwnP.nil _ _ _, fun p hp => (by cases hp), Below.refl _ _⟩
      case round =>
        obtain ⟨i, ia, ic, ps, rfl, rfl, hi, hpi, hop, hpu, hbx⟩ := hrel
        have HPi := Lib.hid hpi
        have HOP := Lib.hid hop
        have HPU := Lib.hid hpu
        have HBx := Lib.hid hbx
        have hpl : ps.length ≤ 4 := by omega
        clear hpi hop hpu hbx
        by_cases hlt : i < W.length
        · have hlt' : (i : Int) < (W.length : Int) := by omega
          have hi0 : (0 : Int) ≤ (i : Int) := by omega
          have HL := Lib.hid (HM6.out.below HBx.out)
          obtain ⟨bw, ow, hwa, hbw, hcw⟩ := HL.out.wo.rd.at (by omega)
          obtain ⟨v, hv⟩ : ∃ v, W[i]? = some v := ⟨_, List.getElem?_eq_getElem (by omega)⟩
          obtain ⟨hv0, hv1⟩ := HL.out.wb v (List.mem_of_getElem? hv)
          obtain ⟨vn, rfl⟩ := Int.eq_ofNat_of_zero_le hv0
          have cwv := hcw i _ hv
          have cd := HL.out.ki.mi.cd
          have hdl : y.ds.length = y.d.2.1 := HL.out.ki.mi.dO.1
          obtain ⟨b, off, hab, hbl, hcs⟩ := (HL.out.ki.mi.dO.rd encKn_E).at (by omega)
          obtain ⟨q, hq⟩ : ∃ q, y.ds[vn]? = some q := ⟨_, List.getElem?_eq_getElem (by omega)⟩
          have hrq := hcs.range vn q hq (off + vn * 5) rfl
          obtain ⟨hq1, _, hq3, _⟩ := HL.out.ki.ds q (List.mem_of_getElem? hq)
          have hvl : (vn : Int) < (y.d.2.1 : Int) := by omega
          have hMl : M < wr.heap.size := lt_of_heap HL.out.ki.mi.row
          rw [hab] at cd
          subst hwa
          clear hcs hq hv hcw hab
          go_upto_region 22 with fail
          have HBd := Lib.hid (below_drew wr)
          have hC : wr.drew.cell? ⟨M, 144, none⟩ = some (.slice (some ⟨b, off, none⟩) y.d.2.1 y.d.2.2) ∧ wr.drew.cell? ⟨bw, ow + i, none⟩ = some (.int .i64 (vn : Int)) ∧ wr.drew.rangeAt b (off + vn * 5) (encKn q) := ⟨cd, cwv, hrq⟩
          have hky : ((encKn q).toArray.all (·.oneCell')) = true := by rw [List.all_toArray, List.all_eq_true]; exact fun v hv => encKn_E.one q v hv
          refine wp_region_held (S := fun w' => w'.cell? ⟨M, 144, none⟩ = some (.slice (some ⟨b, off, none⟩) y.d.2.1 y.d.2.2) ∧ w'.cell? ⟨bw, ow + i, none⟩ = some (.int .i64 (vn : Int)) ∧ w'.rangeAt b (off + vn * 5) (encKn q)) (by kernel_rfl) ?_
          change wpAnyH _ _ _ _ _ _ _ _ wr.drew
          generalize wr.drew = wd at hC HBd ⊢
          clear cd cwv hrq
          refine held_take 0 (d := some 113) (v := (.pointer (some ⟨M, 0, none⟩))) rfl rfl (by kernel_rfl) (by kernel_rfl) (by kernel_rfl) (fun _ _ _ h => h) hC (by kernel_rfl) (fun w hSw => by obtain ⟨x1, x2, x3⟩ := hSw; go_simp) ?_
          try simp only [Act.put, List.setIfInBounds_toArray, List.set_cons_zero, List.set_cons_succ]
          refine held_take 1 (d := some 114) (v := (.pointer (some ⟨M, 0, none⟩))) rfl rfl (by kernel_rfl) (by kernel_rfl) (by kernel_rfl) (fun _ _ _ h => h) hC (by kernel_rfl) (fun w hSw => by obtain ⟨x1, x2, x3⟩ := hSw; go_simp) ?_
          try simp only [Act.put, List.setIfInBounds_toArray, List.set_cons_zero, List.set_cons_succ]
          refine held_take 2 (d := some 115) (v := (.pointer (some ⟨M, 144, none⟩))) rfl rfl (by kernel_rfl) (by kernel_rfl) (by kernel_rfl) (fun _ _ _ h => h) hC (by kernel_rfl) (fun w hSw => by obtain ⟨x1, x2, x3⟩ := hSw; go_simp) ?_
          try simp only [Act.put, List.setIfInBounds_toArray, List.set_cons_zero, List.set_cons_succ]
          refine held_take 3 (d := some 116) (v := (.slice (some ⟨b, off, none⟩) y.d.2.1 y.d.2.2)) rfl rfl (by kernel_rfl) (by kernel_rfl) (by kernel_rfl) (fun _ _ _ h => h) hC (by kernel_rfl) (fun w hSw => by obtain ⟨x1, x2, x3⟩ := hSw; go_simp) ?_
          try simp only [Act.put, List.setIfInBounds_toArray, List.set_cons_zero, List.set_cons_succ]
          refine held_take 4 (d := some 117) (v := (.slice (some ⟨bw, ow, none⟩) W.length cw)) rfl rfl (by kernel_rfl) (by kernel_rfl) (by kernel_rfl) (fun _ _ _ h => h) hC (by kernel_rfl) (fun w hSw => by obtain ⟨x1, x2, x3⟩ := hSw; go_simp) ?_
          try simp only [Act.put, List.setIfInBounds_toArray, List.set_cons_zero, List.set_cons_succ]
          refine held_take 5 (d := some 118) (v := (.int .i64 (i : Int))) rfl rfl (by kernel_rfl) (by kernel_rfl) (by kernel_rfl) (fun _ _ _ h => h) hC (by kernel_rfl) (fun w hSw => by obtain ⟨x1, x2, x3⟩ := hSw; go_simp) ?_
          try simp only [Act.put, List.setIfInBounds_toArray, List.set_cons_zero, List.set_cons_succ]
          refine held_take 6 (d := some 119) (v := (.pointer (some ⟨bw, ow + i, none⟩))) rfl rfl (by kernel_rfl) (by kernel_rfl) (by kernel_rfl) (fun _ _ _ h => h) hC (by kernel_rfl) (fun w hSw => by obtain ⟨x1, x2, x3⟩ := hSw; go_simp) ?_
          try simp only [Act.put, List.setIfInBounds_toArray, List.set_cons_zero, List.set_cons_succ]
          refine held_take 7 (d := some 120) (v := (.int .i64 (vn : Int))) rfl rfl (by kernel_rfl) (by kernel_rfl) (by kernel_rfl) (fun _ _ _ h => h) hC (by kernel_rfl) (fun w hSw => by obtain ⟨x1, x2, x3⟩ := hSw; go_simp) ?_
          try simp only [Act.put, List.setIfInBounds_toArray, List.set_cons_zero, List.set_cons_succ]
          refine held_take 8 (d := some 121) (v := (.pointer (some ⟨b, off + vn * 5, none⟩))) rfl rfl (by kernel_rfl) (by kernel_rfl) (by kernel_rfl) (fun _ _ _ h => h) hC (by kernel_rfl) (fun w hSw => by obtain ⟨x1, x2, x3⟩ := hSw; go_simp) ?_
          try simp only [Act.put, List.setIfInBounds_toArray, List.set_cons_zero, List.set_cons_succ]
          refine held_take 9 (d := some 122) (v := (.agg (encKn q).toArray)) rfl rfl (by kernel_rfl) (by kernel_rfl) (by kernel_rfl) (fun _ _ _ h => h) hC (by kernel_rfl) (fun w hSw => by exact exec_loadK rfl Try.knI rfl hSw.2.2 encKn_E) ?_
          try simp only [Act.put, List.setIfInBounds_toArray, List.set_cons_zero, List.set_cons_succ]
          refine held_one 10 rfl (by kernel_rfl) (fun K hK => ?_)
          go_simp
          have hbd : b < wd.heap.size := Nat.lt_of_lt_of_le hbl HBd.out.size
          have hbwd : bw < wd.heap.size := Nat.lt_of_lt_of_le hbw HBd.out.size
          have hMd : M < wd.heap.size := Nat.lt_of_lt_of_le hMl HBd.out.size
          have hZ := heap_alloc_new wd (.cells #[.string ⟨#[]⟩, .int .u64 0, .int .i64 0, .int .i64 0, .slice none 0 0] 110)
          have hBZ := below_alloc wd (.cells #[.string ⟨#[]⟩, .int .u64 0, .int .i64 0, .int .i64 0, .slice none 0 0] 110)
          have hCZ := And.intro (bcell hBZ hMd hC.1) (And.intro (bcell hBZ hbwd hC.2.1) (range_below hC.2.2 hBZ hbd))
          have hBdZ := HBd.out.trans (hBZ.mono HBd.out.size)
          refine hK _ _ hCZ ?_
          clear hK K
          try simp only [Act.put, List.setIfInBounds_toArray, List.set_cons_zero, List.set_cons_succ]
          refine held_one 11 rfl (by kernel_rfl) (fun K hK => ?_)
          refine step_storeSN (cells := (encKn q).toArray) rfl rfl rfl Try.knI (by go_simp) (by go_simp) hZ (by rfl) rfl hky ?_
          intro w7 hX7 hu7
          obtain ⟨DB, hDB⟩ : ∃ DB, wd.heap.size = DB := ⟨_, rfl⟩
          have hB7 := hBdZ.trans (hu7.below (B := wr.heap.size) hBdZ.size (fun k hk => by rw [hk]; exact HBd.out.size))
          have hC7 := And.intro (ucell hu7 (fun e => by omega) hCZ.1) (And.intro (ucell hu7 (fun e => by omega) hCZ.2.1) (range_upd hCZ.2.2 hu7 (fun e => by omega)))
          refine hK _ _ hC7 ?_
          clear hK K
          try simp only [Act.put, List.setIfInBounds_toArray, List.set_cons_zero, List.set_cons_succ]
          refine wpAnyH_done (by kernel_rfl) ?_ _
          have HDB := Lib.hid hDB
          rw [hDB] at hX7 hu7 ⊢
          have HX7 := Lib.hid hX7.out
          have HB7 := Lib.hid hB7
          clear hC7 hCZ hC hB7 hBdZ hBZ hZ hX7 hu7 hDB hbd hbwd hMd hky
          have HL7 := Lib.hid (HL.out.below HB7.out)
          have HOP7 := Lib.hid (HOP.out.mono HB7.out)
          have hM7 : M < w7.heap.size := lt_of_heap HL7.out.ki.mi.row
          have hD7 : DB < w7.heap.size := lt_of_heap HX7.out
          go_upto_region 23 with fail
          obtain ⟨B2, hBB2, hBl2, hBA2⟩ := HL7.out.ki.mi.file
          have HBB2 := Lib.hid hBB2
          have HBl2 := Lib.hid hBl2
          have hC : w7.drew.cell? ⟨M, 51, none⟩ = some (.bool kd) ∧ AtB w7.drew M 0 B2 ∧ w7.drew.cell? ⟨DB, 1, none⟩ = some (.int .u64 (q.pl : Int)) ∧ w7.drew.cell? ⟨DB, 0, none⟩ = some (.string q.text) := ⟨HL7.out.ki.mi.cK, hBA2, cell_of_heap HX7.out 1 _ rfl, cell_of_heap HX7.out 0 _ rfl⟩
          have HB8 := Lib.hid (below_drew w7)
          clear hBA2 hBB2 hBl2
          refine wp_region_held (S := fun w' => w'.cell? ⟨M, 51, none⟩ = some (.bool kd) ∧ AtB w' M 0 B2 ∧ w'.cell? ⟨DB, 1, none⟩ = some (.int .u64 (q.pl : Int)) ∧ w'.cell? ⟨DB, 0, none⟩ = some (.string q.text)) (by kernel_rfl) ?_
          change wpAnyH _ _ _ _ _ _ _ _ w7.drew
          have hMd : M < w7.drew.heap.size := hM7
          have hDd : DB < w7.drew.heap.size := hD7
          generalize w7.drew = wd at hC HB8 hMd hDd ⊢
          refine held_take 0 (d := some 123) (v := (.slice ia ps.length ic)) rfl rfl (by kernel_rfl) (by kernel_rfl) (by kernel_rfl) (fun _ _ _ h => h) hC (by kernel_rfl) (fun w hSw => by obtain ⟨x1, x2, x3, x4⟩ := hSw; go_simp) ?_
          try simp only [Act.put, List.setIfInBounds_toArray, List.set_cons_zero, List.set_cons_succ]
          refine held_take 1 (d := some 124) (v := (.pointer (some ⟨DB, 1, none⟩))) rfl rfl (by kernel_rfl) (by kernel_rfl) (by kernel_rfl) (fun _ _ _ h => h) hC (by kernel_rfl) (fun w hSw => by obtain ⟨x1, x2, x3, x4⟩ := hSw; go_simp) ?_
          try simp only [Act.put, List.setIfInBounds_toArray, List.set_cons_zero, List.set_cons_succ]
          refine held_take 2 (d := some 125) (v := (.int .u64 (q.pl : Int))) rfl rfl (by kernel_rfl) (by kernel_rfl) (by kernel_rfl) (fun _ _ _ h => h) hC (by kernel_rfl) (fun w hSw => by obtain ⟨x1, x2, x3, x4⟩ := hSw; go_simp) ?_
          try simp only [Act.put, List.setIfInBounds_toArray, List.set_cons_zero, List.set_cons_succ]
          refine held_take 3 (d := some 126) (v := (.pointer (some ⟨M, 0, none⟩))) rfl rfl (by kernel_rfl) (by kernel_rfl) (by kernel_rfl) (fun _ _ _ h => h) hC (by kernel_rfl) (fun w hSw => by obtain ⟨x1, x2, x3, x4⟩ := hSw; go_simp) ?_
          try simp only [Act.put, List.setIfInBounds_toArray, List.set_cons_zero, List.set_cons_succ]
          refine held_take 4 (d := some 127) (v := (.pointer (some ⟨M, 0, none⟩))) rfl rfl (by kernel_rfl) (by kernel_rfl) (by kernel_rfl) (fun _ _ _ h => h) hC (by kernel_rfl) (fun w hSw => by obtain ⟨x1, x2, x3, x4⟩ := hSw; go_simp) ?_
          try simp only [Act.put, List.setIfInBounds_toArray, List.set_cons_zero, List.set_cons_succ]
          refine held_take 5 (d := some 128) (v := (.pointer (some ⟨M, 0, none⟩))) rfl rfl (by kernel_rfl) (by kernel_rfl) (by kernel_rfl) (fun _ _ _ h => h) hC (by kernel_rfl) (fun w hSw => by obtain ⟨x1, x2, x3, x4⟩ := hSw; go_simp) ?_
          try simp only [Act.put, List.setIfInBounds_toArray, List.set_cons_zero, List.set_cons_succ]
          refine held_take 6 (d := some 129) (v := (.pointer (some ⟨M, 51, none⟩))) rfl rfl (by kernel_rfl) (by kernel_rfl) (by kernel_rfl) (fun _ _ _ h => h) hC (by kernel_rfl) (fun w hSw => by obtain ⟨x1, x2, x3, x4⟩ := hSw; go_simp) ?_
          try simp only [Act.put, List.setIfInBounds_toArray, List.set_cons_zero, List.set_cons_succ]
          refine held_take 7 (d := some 130) (v := (.bool kd)) rfl rfl (by kernel_rfl) (by kernel_rfl) (by kernel_rfl) (fun _ _ _ h => h) hC (by kernel_rfl) (fun w hSw => by obtain ⟨x1, x2, x3, x4⟩ := hSw; go_simp) ?_
          try simp only [Act.put, List.setIfInBounds_toArray, List.set_cons_zero, List.set_cons_succ]
          refine held_take 8 (d := some 131) (v := (.pointer (some ⟨M, 0, none⟩))) rfl rfl (by kernel_rfl) (by kernel_rfl) (by kernel_rfl) (fun _ _ _ h => h) hC (by kernel_rfl) (fun w hSw => by obtain ⟨x1, x2, x3, x4⟩ := hSw; go_simp) ?_
          try simp only [Act.put, List.setIfInBounds_toArray, List.set_cons_zero, List.set_cons_succ]
          refine held_take 9 (d := some 132) (v := (.pointer (some ⟨M, 0, none⟩))) rfl rfl (by kernel_rfl) (by kernel_rfl) (by kernel_rfl) (fun _ _ _ h => h) hC (by kernel_rfl) (fun w hSw => by obtain ⟨x1, x2, x3, x4⟩ := hSw; go_simp) ?_
          try simp only [Act.put, List.setIfInBounds_toArray, List.set_cons_zero, List.set_cons_succ]
          refine held_take 10 (d := some 133) (v := (.pointer (some ⟨M, 0, none⟩))) rfl rfl (by kernel_rfl) (by kernel_rfl) (by kernel_rfl) (fun _ _ _ h => h) hC (by kernel_rfl) (fun w hSw => by obtain ⟨x1, x2, x3, x4⟩ := hSw; go_simp) ?_
          try simp only [Act.put, List.setIfInBounds_toArray, List.set_cons_zero, List.set_cons_succ]
          refine held_take 11 (d := some 134) (v := (.pointer (some ⟨M, 0, none⟩))) rfl rfl (by kernel_rfl) (by kernel_rfl) (by kernel_rfl) (fun _ _ _ h => h) hC (by kernel_rfl) (fun w hSw => by obtain ⟨x1, x2, x3, x4⟩ := hSw; go_simp) ?_
          try simp only [Act.put, List.setIfInBounds_toArray, List.set_cons_zero, List.set_cons_succ]
          refine held_take 12 (d := some 135) (v := (.agg (B2.map (Value.int .u8)).toArray)) rfl rfl (by kernel_rfl) (by kernel_rfl) (by kernel_rfl) (fun _ _ _ h => h) hC (by kernel_rfl) (fun w hSw => by exact exec_loadB (b := M) (off := 0) (B := B2) rfl Try.idT (by go_simp) hSw.2.1 HBl2.out) ?_
          try simp only [Act.put, List.setIfInBounds_toArray, List.set_cons_zero, List.set_cons_succ]
          refine held_take 13 (d := some 136) (v := (.pointer (some ⟨DB, 0, none⟩))) rfl rfl (by kernel_rfl) (by kernel_rfl) (by kernel_rfl) (fun _ _ _ h => h) hC (by kernel_rfl) (fun w hSw => by obtain ⟨x1, x2, x3, x4⟩ := hSw; go_simp) ?_
          try simp only [Act.put, List.setIfInBounds_toArray, List.set_cons_zero, List.set_cons_succ]
          refine held_take 14 (d := some 137) (v := (.string q.text)) rfl rfl (by kernel_rfl) (by kernel_rfl) (by kernel_rfl) (fun _ _ _ h => h) hC (by kernel_rfl) (fun w hSw => by obtain ⟨x1, x2, x3, x4⟩ := hSw; go_simp) ?_
          try simp only [Act.put, List.setIfInBounds_toArray, List.set_cons_zero, List.set_cons_succ]
          refine held_one 15 rfl (by kernel_rfl) (fun K hK => ?_)
          refine step_strBytes (s := q.text) rfl rfl Try.underlying9 Try.underlying22 Try.underlying5 (by go_simp) (by omega) ?_
          intro a4 c4 w8 hr8 hb8 hf8
          have hC8 := And.intro (bcell hb8 hMd hC.1) (And.intro (range_below hC.2.1 hb8 hMd) (And.intro (bcell hb8 hDd hC.2.2.1) (bcell hb8 hDd hC.2.2.2)))
          refine hK _ _ hC8 ?_
          clear hK K
          try simp only [Act.put, List.setIfInBounds_toArray, List.set_cons_zero, List.set_cons_succ]
          have hM8 : M < w8.heap.size := Nat.lt_of_lt_of_le hMd hb8.size
          have hD8 : DB < w8.heap.size := Nat.lt_of_lt_of_le hDd hb8.size
          refine held_one 16 rfl (by kernel_rfl) (fun K hK => ?_)
          go_simp
          go_at_call 52
          refine (hashof_lo kd B2 _ _ _ (strL q.text) _ HBB2.out HBl2.out hr8 (by omega)).mono ?_
          rintro e w9 ⟨v, rfl, hv, hb9⟩
          have hC9 := And.intro (bcell hb9 hM8 hC8.1) (And.intro (range_below hC8.2.1 hb9 hM8) (And.intro (bcell hb9 hD8 hC8.2.2.1) (bcell hb9 hD8 hC8.2.2.2)))
          have HB9 := Lib.hid (HB8.out.trans ((hb8.mono HB8.out.size).trans (hb9.mono (Nat.le_trans HB8.out.size hb8.size))))
          clear hr8 hf8
          go_simp
          refine hK _ _ hC9 ?_
          clear hK K hC hC8
          try simp only [Act.put, List.setIfInBounds_toArray, List.set_cons_zero, List.set_cons_succ]
          refine held_take 17 (d := some 140) (v := (.agg #[.int .u64 (q.pl : Int), .int .u64 v])) rfl rfl (by kernel_rfl) (by kernel_rfl) (by kernel_rfl) (fun _ _ _ h => h) hC9 (by kernel_rfl) (fun w hSw => by exact exec_buildS rfl (by have h0 := Try.builtItem (q.pl : Int) v; go_simp)) ?_
          try simp only [Act.put, List.setIfInBounds_toArray, List.set_cons_zero, List.set_cons_succ]
          refine held_one 18 rfl (by kernel_rfl) (fun K hK => ?_)
          go_simp
          have hMiss : M ∉ blk ia := fun e => by
            obtain ⟨z, hz, hzb⟩ := mem_blk.1 e
            have h1 := (HOP.out.lt z hz).1
            have h2 := lt_of_heap HM6.out.ki.mi.row
            omega
          have hDiss : DB ∉ blk ia := fun e => by
            obtain ⟨z, hz, hzb⟩ := mem_blk.1 e
            have h1 := (HOP.out.lt z hz).2
            have h2 := HDB.out
            have h3 := HBd.out.size
            omega
          have hM9 : M < w9.heap.size := Nat.lt_of_lt_of_le hM8 hb9.size
          have hD9 : DB < w9.heap.size := Nat.lt_of_lt_of_le hD8 hb9.size
          have hBI := below_alloc w9 (.cells #[.int .u64 (q.pl : Int), .int .u64 v] 113)
          have hCI := And.intro (bcell hBI hM9 hC9.1) (And.intro (range_below hC9.2.1 hBI hM9) (And.intro (bcell hBI hD9 hC9.2.2.1) (bcell hBI hD9 hC9.2.2.2)))
          have hXI := heap_alloc_new w9 (.cells #[.int .u64 (q.pl : Int), .int .u64 v] 113)
          have HOI := Lib.hid ((HOP7.out.mono HB9.out).mono hBI)
          have HBI := Lib.hid (HB9.out.trans (hBI.mono HB9.out.size))
          refine hK _ _ hCI ?_
          clear hK K hC9
          try simp only [Act.put, List.setIfInBounds_toArray, List.set_cons_zero, List.set_cons_succ]
          refine held_one 19 rfl (by kernel_rfl) (fun K hK => ?_)
          refine step_appP (p := ((q.pl : Int), v)) rfl rfl Try.twoIt (by go_simp) (by go_simp) HOI.out (cell_of_heap hXI 0 _ rfl) (cell_of_heap hXI 1 _ rfl) (by omega) (by omega) (Nat.le_trans HBx.out.size (Nat.le_trans HB7.out.size HBI.out.size)) ?_
          intro a11 c11 w11 ho11 hu11 hn11
          refine hK _ _ (And.intro (ucell hu11 hMiss hCI.1) (And.intro (range_upd hCI.2.1 hu11 hMiss) (And.intro (ucell hu11 hDiss hCI.2.2.1) (ucell hu11 hDiss hCI.2.2.2)))) ?_
          clear hK K
          try simp only [Act.put, List.setIfInBounds_toArray, List.set_cons_zero, List.set_cons_succ]
          have hC : w11.cell? ⟨M, 51, none⟩ = some (.bool kd) ∧ AtB w11 M 0 B2 ∧ w11.cell? ⟨DB, 1, none⟩ = some (.int .u64 (q.pl : Int)) ∧ w11.cell? ⟨DB, 0, none⟩ = some (.string q.text) := And.intro (ucell hu11 hMiss hCI.1) (And.intro (range_upd hCI.2.1 hu11 hMiss) (And.intro (ucell hu11 hDiss hCI.2.2.1) (ucell hu11 hDiss hCI.2.2.2)))
          refine held_take 20 (d := some 15) (v := (.slice a11 (ps.length + 1) c11)) rfl rfl (by kernel_rfl) (by kernel_rfl) (by kernel_rfl) (fun _ _ _ h => h) hC (by kernel_rfl) (fun w hSw => by clear hSw; go_simp) ?_
          try simp only [Act.put, List.setIfInBounds_toArray, List.set_cons_zero, List.set_cons_succ]
          refine wpAnyH_done (by kernel_rfl) ?_ _
          have HO11 := Lib.hid ho11
          have HB11 := Lib.hid (HBx.out.trans (((HB7.out.trans (HBI.out.mono HB7.out.size)).mono HBx.out.size).trans (hu11.below (B := w6.heap.size) (Nat.le_trans HBx.out.size (Nat.le_trans HB7.out.size HBI.out.size)) (fun k hk => by obtain ⟨z, hz, rfl⟩ := mem_blk.1 hk; exact (HOP.out.lt z hz).1))))
          have HV := Lib.hid hv
          clear hC hCI ho11 hu11 hn11 hXI hBI hv hb8 hb9
          go_wp2_with fail
          go_roundw
          case rel => exact ⟨i + 1, a11, c11, ps ++ [((q.pl : Int), v)], by rw [List.length_append, List.length_singleton], by congr 1, by omega, by rw [List.length_append, List.length_singleton, HPi.out], by rw [List.length_append, List.length_singleton]; exact HO11.out, fun p hp => by
            rcases List.mem_append.1 hp with hp | hp
            · exact HPU.out p hp
            · rw [List.mem_singleton.1 hp]; exact ⟨⟨by omega, by omega⟩, HV.out⟩, HB11.out⟩
          case measure => simp [intOf]; omega
        · obtain rfl : i = W.length := by omega
          have hge3 : ¬ ((W.length : Int) < (W.length : Int)) := by omega
          have HL := Lib.hid (HM6.out.below HBx.out)
          have HXr := Lib.hid (row_upd HL.out.st.upd HXO.out HX2.out)
          have HXA := Lib.hid (show AtB wr X 0 B from row_range (o := 0) HXr.out B (fun j v hv => by rw [Nat.zero_add]; simpa using hv))
          have HIr := Lib.hid (HOP.out.rd)
          have HSz := Lib.hid (show w.heap.size ≤ wr.heap.size from Nat.le_trans HB2.out.size HL.out.st.upd.size)
          clear HM6 HBx HXr hi hlt HPi HOP hsz6 hge
          go_upto_region 24 with fail
          go_cut [23] from 143 to 145 (fun s_ wx => ∃ v, s_ = .int .u64 v ∧ U64 v ∧ wr = wx)
          case first =>
            go_wp2_with (go_at_call 44; refine (tail_lo HL.out.ki.mi).mono ?_; rintro e w2 ⟨t, rfl, ht, rfl⟩)
            go_meet
            exact ⟨_, rfl, ⟨by rw [IntKind.wrap_u64]; omega, by rw [IntKind.wrap_u64]; omega⟩, rfl⟩
          case' rest =>
            obtain ⟨sq, rfl, hsq, rfl⟩ := hcut
          have HSq := Lib.hid hsq
          clear hsq
          go_upto_region 25 with fail
          go_cut [24] from 146 to 156 (fun s_ wx => ∃ (y1 : Mk) (p : Nat), s_ = .int .u64 (p : Int) ∧ p ≤ y1.bl.length ∧ L1 base M D F kd E (480 + 2100 * E + 800) (4 * E + 4) (4 * E + 4) (4 * E) x w2 y1 wa cw W pa pc L wx ∧ ChainOK y1.bl.length y1.ml E ∧ AtB wx X 0 B)
          case first =>
            have HBd := Lib.hid (below_drew wr)
            have hC : AtB wr.drew X 0 B := range_below HXA.out HBd.out (Nat.lt_of_lt_of_le (lt_of_heap HX2.out) HL.out.st.upd.size)
            have hXl : X < wr.drew.heap.size := Nat.lt_of_lt_of_le (lt_of_heap HX2.out) HL.out.st.upd.size
            refine wp_region_held (S := fun w' => AtB w' X 0 B) (by kernel_rfl) ?_
            change wpAnyH _ _ _ _ _ _ _ _ wr.drew
            generalize wr.drew = wd at hC HBd hXl ⊢
            have HLd := Lib.hid (HL.out.below HBd.out)
            have HId := Lib.hid (HIr.out.below HBd.out)
            refine held_take 0 (d := some 146) (v := (.pointer (some ⟨M, 0, none⟩))) rfl rfl (by kernel_rfl) (by kernel_rfl) (by kernel_rfl) (fun _ _ _ h => h) hC (by kernel_rfl) (fun w hSw => by clear hSw; go_simp) ?_
            try simp only [Act.put, List.setIfInBounds_toArray, List.set_cons_zero, List.set_cons_succ]
            refine held_take 1 (d := some 147) (v := (.int .u64 sq)) rfl rfl (by kernel_rfl) (by kernel_rfl) (by kernel_rfl) (fun _ _ _ h => h) hC (by kernel_rfl) (fun w hSw => by clear hSw; go_simp) ?_
            try simp only [Act.put, List.setIfInBounds_toArray, List.set_cons_zero, List.set_cons_succ]
            refine held_take 2 (d := some 148) (v := (.int .u64 real)) rfl rfl (by kernel_rfl) (by kernel_rfl) (by kernel_rfl) (fun _ _ _ h => h) hC (by kernel_rfl) (fun w hSw => by clear hSw; go_simp) ?_
            try simp only [Act.put, List.setIfInBounds_toArray, List.set_cons_zero, List.set_cons_succ]
            refine held_take 3 (d := some 149) (v := (.int .u64 mono)) rfl rfl (by kernel_rfl) (by kernel_rfl) (by kernel_rfl) (fun _ _ _ h => h) hC (by kernel_rfl) (fun w hSw => by clear hSw; go_simp) ?_
            try simp only [Act.put, List.setIfInBounds_toArray, List.set_cons_zero, List.set_cons_succ]
            refine held_take 4 (d := some 150) (v := (.agg (B.map (Value.int .u8)).toArray)) rfl rfl (by kernel_rfl) (by kernel_rfl) (by kernel_rfl) (fun _ _ _ h => h) hC (by kernel_rfl) (fun w hSw => by exact exec_loadB (b := X) (off := 0) (B := B) rfl Try.idT (by go_simp) hSw HBl.out) ?_
            try simp only [Act.put, List.setIfInBounds_toArray, List.set_cons_zero, List.set_cons_succ]
            refine held_take 5 (d := some 151) (v := (.slice pa L.length pc)) rfl rfl (by kernel_rfl) (by kernel_rfl) (by kernel_rfl) (fun _ _ _ h => h) hC (by kernel_rfl) (fun w hSw => by clear hSw; go_simp) ?_
            try simp only [Act.put, List.setIfInBounds_toArray, List.set_cons_zero, List.set_cons_succ]
            refine held_take 7 (d := some 153) (v := (.slice ia ps.length ic)) rfl rfl (by kernel_rfl) (by kernel_rfl) (by kernel_rfl) (fun _ _ _ h => h) hC (by kernel_rfl) (fun w hSw => by clear hSw; go_simp) ?_
            try simp only [Act.put, List.setIfInBounds_toArray, List.set_cons_zero, List.set_cons_succ]
            refine held_one 6 rfl (by kernel_rfl) (fun K hK => ?_)
            go_simp
            go_at_call 55
            refine (xor_lo pa L.length pc L _ HLd.out.po.rd HLd.out.pl (by omega)).mono ?_
            rintro e w8 ⟨xv, rfl, hxv, rfl⟩
            go_simp
            refine hK _ _ hC ?_
            clear hK K
            try simp only [Act.put, List.setIfInBounds_toArray, List.set_cons_zero, List.set_cons_succ]
            have HXv := Lib.hid hxv
            refine held_take 8 (d := some 154) (v := (entV sq real mono B xv ia ps.length ic)) rfl rfl (by kernel_rfl) (by kernel_rfl) (by kernel_rfl) (fun _ _ _ h => h) hC (by kernel_rfl) (fun w hSw => by exact (by rw [entV_eq]; exact exec_buildS rfl (by have h0 := Try.builtE sq real mono xv B HBl.out ia ps.length ic; go_simp))) ?_
            try simp only [Act.put, List.setIfInBounds_toArray, List.set_cons_zero, List.set_cons_succ]
            refine held_one 9 rfl (by kernel_rfl) (fun K hK => ?_)
            go_simp
            go_at_call 54
            have hPE := refputent_any sq real mono B xv ia ps.length ic ps wd HBB.out HBl.out HSq.out HReal.out HMono.out HXv.out HId.out HPU.out (by omega)
            unfold NewB at hPE
            have hel := putEntL_len sq real mono B xv ps HBl.out
            have HeB := Lib.hid (putEntL_isB sq real mono B xv ps HBB.out)
            generalize putEntL sq real mono B xv ps = PE at hPE hel HeB
            have Hel := Lib.hid hel
            clear hel
            refine hPE.mono ?_
            rintro e w9 ⟨a9, c9, rfl, ho9, hb9⟩
            have hC9 : AtB w9 X 0 B := range_below hC hb9 hXl
            have HL9 := Lib.hid (HLd.out.below hb9)
            have HR9 := Lib.hid ho9.rd
            clear hPE
            go_simp
            refine hK _ _ hC9 ?_
            clear hK K hxv
            try simp only [Act.put, List.setIfInBounds_toArray, List.set_cons_zero, List.set_cons_succ]
            have hpe : PE.length ≤ 128 := by have := Hel.out; omega
            have HMl := Lib.hid (show M < w9.heap.size from lt_of_heap HL9.out.ki.mi.row)
            have hXy : X ∉ mset M y := fun e => by
              rcases HL9.out.st.new _ e with g | g
              · exact HXO.out g
              · have := lt_of_heap HX2.out; omega
            refine held_one 10 rfl (by kernel_rfl) (fun K hK => ?_)
            go_simp
            go_at_call 53
            refine (object_lo HL9.out.ki.mi _ _ _ PE HR9.out (by omega) (by have := HL9.out.ki.hi; omega) (Nat.le_trans hb (Nat.le_trans HSz.out (Nat.le_trans HBd.out.size hb9.size)))).mono ?_
            rintro e w10 ⟨rfl, b10, hd10, hm10, hu10, hn10⟩
            have hC10 : AtB w10 X 0 B := range_upd hC9 hu10 (fun e => by
              rcases e with e | e
              · exact hXy (by rw [e]; exact mset_M)
              · exact hXy (mset_b e))
            have hst : Step M y w9 { y with b := b10, bl := y.bl ++ PE, hd := hd10 } w10 := Step.ofB (dp := y.dp) _ _ hu10 hn10
            have hlen : (y.bl ++ PE).length = y.bl.length + PE.length := List.length_append
            have hel8 : PE.length % 8 = 0 := by have := Hel.out; omega
            have hki : MkI base M D F kd E (480 + 2100 * E + 800) (4 * E + 4) (4 * E + 4) (4 * E) { y with b := b10, bl := y.bl ++ PE, hd := hd10 } w10 :=
              ⟨hm10, HL9.out.ki.fs.grow (by show _ ≤ (y.bl ++ PE).length; omega), HL9.out.ki.ds.grow (by show _ ≤ (y.bl ++ PE).length; omega), by have := HL9.out.ki.md; show (y.bl ++ PE).length % 8 = 0; omega, by have := HL9.out.ki.lo; show _ ≤ (y.bl ++ PE).length; omega, by show (y.bl ++ PE).length ≤ _; omega, by show y.ds.length ≤ _; omega, by show y.fs.length ≤ _; omega, HL9.out.ki.cn⟩
            have HL10 := Lib.hid (HL9.out.step hki hst rfl rfl HL9.out.ar (Nat.le_refl _) (by show _ ≤ (y.bl ++ PE).length; omega))
            have HCh10 := Lib.hid (show ChainOK (y.bl ++ PE).length y.ml E by rw [HL9.out.hml]; exact HCh.out.grow (by have := HL9.out.gr; omega))
            clear hst hki hel8 hpe hXy hm10 hu10 hn10 hb9 ho9
            have HLe := Lib.hid hlen
            clear hlen
            go_simp
            refine hK _ _ hC10 ?_
            clear hK K hC9
            try simp only [Act.put, List.setIfInBounds_toArray, List.set_cons_zero, List.set_cons_succ]
            refine held_take 11 (d := some 24) (v := (.int .u64 (y.bl.length : Int))) rfl rfl (by kernel_rfl) (by kernel_rfl) (by kernel_rfl) (fun _ _ _ h => h) hC10 (by kernel_rfl) (fun w hSw => by clear hSw; go_simp) ?_
            try simp only [Act.put, List.setIfInBounds_toArray, List.set_cons_zero, List.set_cons_succ]
            refine wpAnyH_done (by kernel_rfl) ?_ _
            go_wp2_with fail
            go_meet
            exact ⟨_, _, rfl, by rw [HLe.out]; omega, HL10.out, HCh10.out, hC10⟩
          case' rest =>
            obtain ⟨y1, p, rfl, hp, hl1, hch1, hxa⟩ := hcut
          have HL1 := Lib.hid hl1
          have HC1 := Lib.hid hch1
          have HXA1 := Lib.hid hxa
          have hb1 : y1.bl.length ≤ 480 + 2100 * E + 800 := HL1.out.ki.hi
          clear hl1 hch1 hxa HL HXA HIr hhi hhd hhf
          have c127 : wc.cell? ⟨M, 127, none⟩ = some (.int .u64 (E : Int)) := HL1.out.ki.mi.cNk 8 (E : Int) (fun Ns h => h.n8)
          have hwE : IntKind.i64.wrap (E : Int) = (E : Int) := by rw [IntKind.wrap_i64]; omega
          have cM := HL1.out.ki.mi.cm
          have hmlen := HL1.out.ki.mi.mO.1
          have hshort := HC1.out.short
          have HLK := link_lo HL1.out.ki.mi y1.m.1 y1.m.2.1 y1.m.2.2 y1.ml HL1.out.ki.mi.mO.rd HL1.out.ki.mi.mU (fun z hz => ⟨fun e => HL1.out.ki.mi.nm (mem_blk.2 ⟨z, hz, e⟩), fun e => HL1.out.ki.mi.bm _ e (mem_blk.2 ⟨z, hz, rfl⟩), (HL1.out.ki.mi.mO.lt z hz).2⟩) E HC1.out (by omega) 176 (by have := HL1.out.ki.lo; omega) (p : Int) ⟨by omega, by omega⟩ (by omega) (by omega) (Nat.le_trans hb (Nat.le_trans HB2.out.size HL1.out.st.upd.size))
          have HLK := Lib.hid (show Calls Try.prog 56 #[.pointer (some ⟨M, 0, none⟩), .slice y1.m.1 y1.m.2.1 y1.m.2.2, .int .i64 (E : Int), .int .u64 176, .int .u64 (p : Int)] wc (LinkE base M D F kd E y1 y1.m.1 y1.m.2.1 y1.m.2.2 y1.ml E wc) from HLK)
          clear hmlen hshort
          go_upto_region 28 with fail
          have HC1a := Lib.hid (HC1.out)
          go_cut [25] from 164 to 177 (fun s_ wx => ∃ (y2 : Mk) (u : Int), s_ = .int .i64 u ∧ 0 ≤ u ∧ u ≤ 300 ∧ L2 base M D F kd E (480 + 2100 * E + 900) (4 * E + 4) (4 * E + 4) (4 * E) x w2 y2 wa cw W wx ∧ ChainOK y2.bl.length y2.ml (E + 1) ∧ y2.ml ≠ [])
          case first =>
            go_wp2_with (go_at_call 56; go_must (refine HLK.out.mono ?_); rintro e w3 ⟨a3, c3, al3, used, b3, hd3, l3, rfl, hu0, hu1, hm3, hor3, hr3, hal3, hne3, hch3, hl31, hl32, hl33, hU3, hN3⟩; have c146 := hm3.cm; have f146 := hm3.free 146)
            go_meet
            have hg := link_main (G := 100) HL1.out.ki hm3 hor3 hal3 hl31 (by
              split at hl32
              · rename_i he
                have := roomF_few he hE
                omega
              · omega) hl33 hU3 hN3 (Nat.le_trans hb (Nat.le_trans HB2.out.size HL1.out.st.upd.size))
            exact ⟨_, used, rfl, hu0, hu1, HL1.out.rest.step hg.1 hg.2 (Nat.le_refl _) (fun k hk => .inl hk), hch3, hne3⟩
          case' rest =>
            obtain ⟨y2, u, rfl, hu0, hu1, hl2, hch2, hmn2⟩ := hcut
          have HL2 := Lib.hid hl2
          have HC2 := Lib.hid hch2
          have hp5 : p ≤ 100000 := by omega
          clear hl2 hch2 HL1 HC1 HC1a HLK c127 cM hp hb1
          obtain ⟨m0, hm0⟩ : ∃ m0, y2.ml[0]? = some m0 := by
            rcases hml : y2.ml with _ | ⟨m0, r⟩
            · exact absurd hml hmn2
            · exact ⟨m0, rfl⟩
          clear hmn2
          have cM2 := HL2.out.ki.mi.cm
          have hml2 := HL2.out.ki.mi.mO.1
          have hmp : 0 < y2.ml.length := (List.getElem?_eq_some_iff.1 hm0).1
          obtain ⟨g2, hg2, hg21, hg22⟩ := HL2.out.ki.mi.mO.at (by omega)
          have hO2 := HL2.out.ki.mi.mO
          rw [hg2] at hO2 cM2
          have cm0 := hO2.cell 0 m0 hm0
          have hm0u : (0 : Int) < (y2.m.2.1 : Int) := by omega
          have hm0u2 : 0 < y2.m.2.1 := by omega
          obtain ⟨v11, hv11, _⟩ := HL2.out.ki.mi.cN 11 (by omega)
          have f11 := HL2.out.ki.mi.free 130
          have hu11 := HL2.out.ki.mi.mU m0 (List.mem_of_getElem? hm0)
          have HU11 := Lib.hid hu11
          simp only [Nat.reduceAdd] at hv11
          clear hO2 hml2 hm0 hu11
          go_upto_region 29 with fail
          have HM3 := Lib.hid ((HL2.out.hd (HL2.out.ki.mi.setN 11 m0 (by omega) (by omega) (by omega) (by omega) (by omega) (by omega) (by omega) HU11.out) (Upd.setCell (F := (· = M)) wc ⟨M, 130, none⟩ (.int .u64 m0) rfl)).below (below_drew _))
          go_cut [] from 178 to 188 (fun wx => ∃ y3 : Mk, L2 base M D F kd E (480 + 2100 * E + 900) (4 * E + 4) (4 * E + 4) (4 * E) x w2 y3 wa cw W wx ∧ ChainOK y3.bl.length y3.ml (E + 1) ∧ 0 < y3.ml.length)
          case first =>
            go_region
            all_goals (go_wp2_with fail; go_meet; exact ⟨_, HM3.out, HC2.out, hmp⟩)
          case' rest =>
            obtain ⟨y3, hl3, hch3, hmp3⟩ := hcut
          have HL3 := Lib.hid hl3
          have HC3 := Lib.hid hch3
          clear hl3 hch3 HM3 HL2 HC2 HU11 cM2 hg2 hg21 hg22 cm0 hm0u hm0u2 hv11 f11 hmp
          have cM3 := HL3.out.ki.mi.cm
          have hml3 : y3.ml.length = y3.m.2.1 := HL3.out.ki.mi.mO.1
          obtain ⟨r3, hr3⟩ : ∃ r3, y3.m.2.1 = r3 + 1 := ⟨y3.m.2.1 - 1, by omega⟩
          obtain ⟨g3, hg3, _, _⟩ := HL3.out.ki.mi.mO.at (by omega)
          have hO3 := HL3.out.ki.mi.mO
          obtain ⟨mv, hmv⟩ : ∃ mv, y3.ml[r3]? = some mv := ⟨_, List.getElem?_eq_getElem (by omega)⟩
          rw [hg3] at hO3 cM3
          have cm3 := hO3.cell r3 mv hmv
          have hwr3 : IntKind.i64.wrap ((y3.m.2.1 : Int) - 1) = (r3 : Int) := by have := HC3.out.short; rw [IntKind.wrap_i64]; omega
          have hr30 : (0 : Int) ≤ (r3 : Int) := by omega
          have hr31 : (r3 : Int) < (y3.m.2.1 : Int) := by omega
          have hta : U32 (IntKind.u32.wrap mv) := ⟨by rw [IntKind.wrap_u32]; omega, by rw [IntKind.wrap_u32]; omega⟩
          have hti : U32 (IntKind.u32.wrap u) := ⟨by rw [IntKind.wrap_u32]; omega, by rw [IntKind.wrap_u32]; omega⟩
          obtain ⟨tav, htav⟩ : ∃ t, IntKind.u32.wrap mv = t := ⟨_, rfl⟩
          obtain ⟨tiv, htiv⟩ : ∃ t, IntKind.u32.wrap u = t := ⟨_, rfl⟩
          rw [htav] at hta
          rw [htiv] at hti
          obtain ⟨_, c139⟩ := HL3.out.ki.mi.cTa
          obtain ⟨_, c140⟩ := HL3.out.ki.mi.cTi
          have hmi4 := HL3.out.ki.mi.setHd 87 (.int .u32 tav) E (by omega) (HL3.out.ki.mi.hd.setTa _ hta)
          have hl4 := HL3.out.hd hmi4 (Upd.setCell (F := (· = M)) wc ⟨M, 139, none⟩ (.int .u32 tav) rfl)
          have hmi5 := hl4.ki.mi.setHd 88 (.int .u32 tiv) E (by omega) (hl4.ki.mi.hd.setTi _ hti)
          have HL5 := Lib.hid ((hl4.hd hmi5 (Upd.setCell (F := (· = M)) _ ⟨M, 140, none⟩ (.int .u32 tiv) rfl)).below (below_drew _))
          have f139 := HL3.out.ki.mi.free 139
          have f140 := HL3.out.ki.mi.free 140
          clear hO3 hml3 hmv hg3 hr3 hta hti hmi4 hl4 hmi5
          go_upto_region 30 with fail
          go_cut [] from 189 to 211 (fun wx => ∃ y4 : Mk, L2 base M D F kd E (480 + 2100 * E + 900) (4 * E + 4) (4 * E + 4) (4 * E) x w2 y4 wa cw W wx ∧ ChainOK y4.bl.length y4.ml (E + 1))
          case first =>
            go_region
            all_goals (go_wp2_with fail; go_meet; exact ⟨_, HL5.out, HC3.out⟩)
          case' rest =>
            obtain ⟨y4, hl4, hch4⟩ := hcut
          have HL4 := Lib.hid hl4
          have HC4 := Lib.hid hch4
          clear hl4 hch4 HL3 HC3 HL5 cM3 cm3 hwr3 hr30 hr31 htav htiv c139 c140 f139 f140
          go_wp2_with fail
          go_loopw [27] (fun j_ wr => ∃ (j : Nat) (y : Mk), j_ = .int .i64 (j : Int) ∧ j ≤ W.length ∧ L2 base M D F kd E (480 + 2100 * E + 900 + 280 * j) (4 * E + 4) (4 * E + 4) (4 * E + j) x w2 y wa cw W wr ∧ ChainOK y.bl.length y.ml (E + 1)) (fun j_ _ => W.length - (intOf j_).toNat)
          case atStart => exact ⟨0, y4, rfl, Nat.zero_le _, HL4.out, HC4.out⟩
          case round =>
            obtain ⟨j, y5, rfl, hj, hl5, hch5⟩ := hrel
            have HL := Lib.hid hl5
            have HC := Lib.hid hch5
            clear hl5 hch5
            by_cases hlt : j < W.length
            · have hlt' : (j : Int) < (W.length : Int) := by omega
              have hi0 : (0 : Int) ≤ (j : Int) := by omega
              obtain ⟨bw, ow, hwa, hbw, hcw⟩ := HL.out.wo.rd.at (by omega)
              obtain ⟨v, hv⟩ : ∃ v, W[j]? = some v := ⟨_, List.getElem?_eq_getElem (by omega)⟩
              obtain ⟨hv0, hv1⟩ := HL.out.wb v (List.mem_of_getElem? hv)
              obtain ⟨vn, rfl⟩ := Int.eq_ofNat_of_zero_le hv0
              have cwv := hcw j _ hv
              have cd := HL.out.ki.mi.cd
              have hdl : y5.ds.length = y5.d.2.1 := HL.out.ki.mi.dO.1
              obtain ⟨b, hab, hb1, hbl⟩ := HL.out.ki.mi.dO.at (by omega)
              obtain ⟨q, hq⟩ : ∃ q, y5.ds[vn]? = some q := ⟨_, List.getElem?_eq_getElem (by omega)⟩
              have hdO := HL.out.ki.mi.dO
              rw [hab] at hdO cd
              have hrq := hdO.range encKn_E vn q hq (vn * 5) rfl
              have HQm := Lib.hid (List.mem_of_getElem? hq)
              have HQs := Lib.hid (HL.out.ki.ds q HQm.out)
              have HQc := Lib.hid (HL.out.ki.cn q HQm.out)
              have hvl : (vn : Int) < (y5.d.2.1 : Int) := by omega
              have hMl : M < wr.heap.size := lt_of_heap HL.out.ki.mi.row
              have HWa := Lib.hid hwa
              have HV := Lib.hid hv
              subst hwa
              clear hq hv hcw hdO
              go_upto_region 34 with fail
              have HBd := Lib.hid (below_drew wr)
              have hC : wr.drew.cell? ⟨M, 144, none⟩ = some (.slice (some ⟨b, 0, none⟩) y5.d.2.1 y5.d.2.2) ∧ wr.drew.cell? ⟨bw, ow + j, none⟩ = some (.int .i64 (vn : Int)) ∧ wr.drew.rangeAt b (vn * 5) (encKn q) := ⟨cd, cwv, hrq⟩
              have hky : ((encKn q).toArray.all (·.oneCell')) = true := by rw [List.all_toArray, List.all_eq_true]; exact fun v hv => encKn_E.one q v hv
              refine wp_region_held (S := fun w' => w'.cell? ⟨M, 144, none⟩ = some (.slice (some ⟨b, 0, none⟩) y5.d.2.1 y5.d.2.2) ∧ w'.cell? ⟨bw, ow + j, none⟩ = some (.int .i64 (vn : Int)) ∧ w'.rangeAt b (vn * 5) (encKn q)) (by kernel_rfl) ?_
              change wpAnyH _ _ _ _ _ _ _ _ wr.drew
              generalize wr.drew = wd at hC HBd ⊢
              clear cd cwv hrq
              refine held_take 0 (d := some 218) (v := (.pointer (some ⟨M, 0, none⟩))) rfl rfl (by kernel_rfl) (by kernel_rfl) (by kernel_rfl) (fun _ _ _ h => h) hC (by kernel_rfl) (fun w hSw => by obtain ⟨x1, x2, x3⟩ := hSw; go_simp) ?_
              try simp only [Act.put, List.setIfInBounds_toArray, List.set_cons_zero, List.set_cons_succ]
              refine held_take 1 (d := some 219) (v := (.pointer (some ⟨M, 0, none⟩))) rfl rfl (by kernel_rfl) (by kernel_rfl) (by kernel_rfl) (fun _ _ _ h => h) hC (by kernel_rfl) (fun w hSw => by obtain ⟨x1, x2, x3⟩ := hSw; go_simp) ?_
              try simp only [Act.put, List.setIfInBounds_toArray, List.set_cons_zero, List.set_cons_succ]
              refine held_take 2 (d := some 220) (v := (.pointer (some ⟨M, 144, none⟩))) rfl rfl (by kernel_rfl) (by kernel_rfl) (by kernel_rfl) (fun _ _ _ h => h) hC (by kernel_rfl) (fun w hSw => by obtain ⟨x1, x2, x3⟩ := hSw; go_simp) ?_
              try simp only [Act.put, List.setIfInBounds_toArray, List.set_cons_zero, List.set_cons_succ]
              refine held_take 3 (d := some 221) (v := (.slice (some ⟨b, 0, none⟩) y5.d.2.1 y5.d.2.2)) rfl rfl (by kernel_rfl) (by kernel_rfl) (by kernel_rfl) (fun _ _ _ h => h) hC (by kernel_rfl) (fun w hSw => by obtain ⟨x1, x2, x3⟩ := hSw; go_simp) ?_
              try simp only [Act.put, List.setIfInBounds_toArray, List.set_cons_zero, List.set_cons_succ]
              refine held_take 4 (d := some 222) (v := (.slice (some ⟨bw, ow, none⟩) W.length cw)) rfl rfl (by kernel_rfl) (by kernel_rfl) (by kernel_rfl) (fun _ _ _ h => h) hC (by kernel_rfl) (fun w hSw => by obtain ⟨x1, x2, x3⟩ := hSw; go_simp) ?_
              try simp only [Act.put, List.setIfInBounds_toArray, List.set_cons_zero, List.set_cons_succ]
              refine held_take 5 (d := some 223) (v := (.int .i64 (j : Int))) rfl rfl (by kernel_rfl) (by kernel_rfl) (by kernel_rfl) (fun _ _ _ h => h) hC (by kernel_rfl) (fun w hSw => by obtain ⟨x1, x2, x3⟩ := hSw; go_simp) ?_
              try simp only [Act.put, List.setIfInBounds_toArray, List.set_cons_zero, List.set_cons_succ]
              refine held_take 6 (d := some 224) (v := (.pointer (some ⟨bw, ow + j, none⟩))) rfl rfl (by kernel_rfl) (by kernel_rfl) (by kernel_rfl) (fun _ _ _ h => h) hC (by kernel_rfl) (fun w hSw => by obtain ⟨x1, x2, x3⟩ := hSw; go_simp) ?_
              try simp only [Act.put, List.setIfInBounds_toArray, List.set_cons_zero, List.set_cons_succ]
              refine held_take 7 (d := some 225) (v := (.int .i64 (vn : Int))) rfl rfl (by kernel_rfl) (by kernel_rfl) (by kernel_rfl) (fun _ _ _ h => h) hC (by kernel_rfl) (fun w hSw => by obtain ⟨x1, x2, x3⟩ := hSw; go_simp) ?_
              try simp only [Act.put, List.setIfInBounds_toArray, List.set_cons_zero, List.set_cons_succ]
              refine held_take 8 (d := some 226) (v := (.pointer (some ⟨b, vn * 5, none⟩))) rfl rfl (by kernel_rfl) (by kernel_rfl) (by kernel_rfl) (fun _ _ _ h => h) hC (by kernel_rfl) (fun w hSw => by obtain ⟨x1, x2, x3⟩ := hSw; go_simp) ?_
              try simp only [Act.put, List.setIfInBounds_toArray, List.set_cons_zero, List.set_cons_succ]
              refine held_take 9 (d := some 227) (v := (.agg (encKn q).toArray)) rfl rfl (by kernel_rfl) (by kernel_rfl) (by kernel_rfl) (fun _ _ _ h => h) hC (by kernel_rfl) (fun w hSw => by exact exec_loadK (p := vn * 5) rfl Try.knI (by go_simp) hSw.2.2 encKn_E) ?_
              try simp only [Act.put, List.setIfInBounds_toArray, List.set_cons_zero, List.set_cons_succ]
              refine held_one 10 rfl (by kernel_rfl) (fun K hK => ?_)
              go_simp
              have hbd : b < wd.heap.size := Nat.lt_of_lt_of_le hbl HBd.out.size
              have hbwd : bw < wd.heap.size := Nat.lt_of_lt_of_le hbw HBd.out.size
              have hMd : M < wd.heap.size := Nat.lt_of_lt_of_le hMl HBd.out.size
              have hZ := heap_alloc_new wd (.cells #[.string ⟨#[]⟩, .int .u64 0, .int .i64 0, .int .i64 0, .slice none 0 0] 110)
              have hBZ := below_alloc wd (.cells #[.string ⟨#[]⟩, .int .u64 0, .int .i64 0, .int .i64 0, .slice none 0 0] 110)
              have hCZ := And.intro (bcell hBZ hMd hC.1) (And.intro (bcell hBZ hbwd hC.2.1) (range_below hC.2.2 hBZ hbd))
              have hBdZ := HBd.out.trans (hBZ.mono HBd.out.size)
              refine hK _ _ hCZ ?_
              clear hK K
              try simp only [Act.put, List.setIfInBounds_toArray, List.set_cons_zero, List.set_cons_succ]
              refine held_one 11 rfl (by kernel_rfl) (fun K hK => ?_)
              refine step_storeSN (cells := (encKn q).toArray) rfl rfl rfl Try.knI (by go_simp) (by go_simp) hZ (by rfl) rfl hky ?_
              intro w7 hX7 hu7
              obtain ⟨DB, hDB⟩ : ∃ DB, wd.heap.size = DB := ⟨_, rfl⟩
              have hB7 := hBdZ.trans (hu7.below (B := wr.heap.size) hBdZ.size (fun k hk => by rw [hk]; exact HBd.out.size))
              have hC7 := And.intro (ucell hu7 (fun e => by omega) hCZ.1) (And.intro (ucell hu7 (fun e => by omega) hCZ.2.1) (range_upd hCZ.2.2 hu7 (fun e => by omega)))
              refine hK _ _ hC7 ?_
              clear hK K
              try simp only [Act.put, List.setIfInBounds_toArray, List.set_cons_zero, List.set_cons_succ]
              refine wpAnyH_done (by kernel_rfl) ?_ _
              have HDB := Lib.hid hDB
              rw [hDB] at hX7 hu7 ⊢
              have HDI := Lib.hid (DI.start HL.out hB7 hX7.out (by rw [← hDB]; exact HBd.out.size) HQm.out)
              have HBb := Lib.hid (Nat.lt_of_lt_of_le hbl hB7.size)
              clear hC7 hCZ hC hB7 hBdZ hBZ hZ hX7 hu7 hDB hbd hbwd hMd hky HBd HQm hbl hbw hMl
              have hqb : q.pl + 64 ≤ y5.bl.length := HQs.out.1
              have hTb : y5.bl.length ≤ 480 + 2100 * E + 900 + 280 * j := HDI.out.l2.ki.hi
              have hpl2 : q.pl ≤ 50000 := by omega
              have hcnt : q.count ≤ 4 * E + j := HQc.out
              have hw40 : IntKind.u64.wrap ((q.pl : Int) + 40) = (q.pl : Int) + 40 := by rw [IntKind.wrap_u64]; omega
              have hw48 : IntKind.u64.wrap ((q.pl : Int) + 48) = (q.pl : Int) + 48 := by rw [IntKind.wrap_u64]; omega
              have hw56 : IntKind.u64.wrap ((q.pl : Int) + 56) = (q.pl : Int) + 56 := by rw [IntKind.wrap_u64]; omega
              have HBs := Lib.hid (show base ≤ w7.heap.size from Nat.le_trans hb (Nat.le_trans HB2.out.size HDI.out.l2.st.upd.size))
              have c1 := cell_of_heap HDI.out.row 1 (.int .u64 (q.pl : Int)) rfl
              have c3 := cell_of_heap HDI.out.row 3 (.int .i64 (q.count : Int)) rfl
              have c4 := cell_of_heap HDI.out.row 4 (.slice q.arr.1 q.arr.2.1 q.arr.2.2) rfl
              go_upto_if 230 with fail
              go_cut [] from 212 to 273 (fun wx => ∃ (y6 : Mk) (q6 : Kn), DI base M D F kd E (480 + 2100 * E + 900 + 280 * j + 280) (4 * E + 4) (4 * E + 4) (4 * E + j) x w2 y6 (some ⟨bw, ow, none⟩) cw W DB q6 wx ∧ ChainOK y6.bl.length y6.ml (E + 1) ∧ ChainOK y6.bl.length q6.al q.count ∧ q6.text = q.text ∧ q6.pl = q.pl ∧ q6.slot = q.slot ∧ q6.count = q.count ∧ y6.ds = y5.ds ∧ y6.d = y5.d ∧ y5.bl.length ≤ y6.bl.length)
              case first =>
                by_cases hc0 : q.count = 0
                · have hcb : ((q.count : Int) == 0) = true := by rw [hc0]; rfl
                  have hcb2 : (q.count == 0) = true := by rw [hc0]; rfl
                  have HC0 := Lib.hid hc0
                  have hP := put_lo HDI.out.l2.ki.mi (q.pl + 40) (p : Int) (by omega) (by omega) ⟨by omega, by omega⟩
                  rw [show ((q.pl + 40 : Nat) : Int) = (q.pl : Int) + 40 by omega] at hP
                  have HP := Lib.hid hP
                  clear hP hc0
                  go_wp2_with (go_at_call 57; refine HP.out.mono ?_; rintro e w8 ⟨rfl, l8, hl8, hm8, hu8⟩)
                  go_meet
                  have hal : q.al = [] := HQs.out.2.2.2.2.1 HC0.out
                  exact ⟨{ y5 with bl := l8 }, q, (HDI.out.put hl8 hm8 hu8).mono (by omega), by show ChainOK l8.length y5.ml (E + 1); rw [hl8]; exact HC.out, by rw [hal, HC0.out]; exact ⟨fun i v hv => (by simp at hv), Nat.le_refl _, Nat.le_refl _⟩, rfl, rfl, rfl, rfl, rfl, rfl, by show _ ≤ l8.length; omega⟩
                · have hcb : ((q.count : Int) == 0) = false := beq_eq_false_iff_ne.2 (by omega)
                  have hcb2 : (q.count == 0) = false := beq_eq_false_iff_ne.2 hc0
                  obtain ⟨k, hk⟩ : ∃ k, q.count = k + 1 := ⟨q.count - 1, by omega⟩
                  have hk50 : k ≤ 50 := by omega
                  have HK := Lib.hid hk
                  have hwk : IntKind.i64.wrap ((q.count : Int) - 1) = (k : Int) := by rw [IntKind.wrap_i64]; omega
                  have hchq : ChainOK y5.bl.length q.al k := by have := HQs.out.2.2.2.2.2 (by omega); rw [hk, Nat.add_sub_cancel] at this; exact this
                  have harl := HDI.out.rd.1
                  have hsh := hchq.short
                  have hP := link_lo HDI.out.l2.ki.mi q.arr.1 q.arr.2.1 q.arr.2.2 q.al HDI.out.rd HDI.out.u (fun z hz => ⟨fun e => (HDI.out.ar z hz).2.2.1 (by rw [e]; exact mset_M), fun e => (HDI.out.ar z hz).2.2.1 (mset_b e), (HDI.out.ar z hz).2.1⟩) k hchq (by omega) (q.pl + 48) (by omega) (p : Int) ⟨by omega, by omega⟩ (by omega) (by omega) HBs.out
                  rw [show ((q.pl + 48 : Nat) : Int) = (q.pl : Int) + 48 by omega] at hP
                  have HP := Lib.hid hP
                  have HCQ := Lib.hid hchq
                  clear hP hc0 hk hchq harl hsh
                  go_wp2_with fail
                  refine HP.out.mono ?_
                  rintro e w8 ⟨a3, c3', al3, used, b3, hd3, l3, rfl, hu0', hu1', hm3, hor3, hr3, hal3, hne3, hch3, hl31, hl32, hl33, hU3, hN3⟩
                  have hg2 : l3.length ≤ y5.bl.length + 280 := by
                    split at hl32
                    · rename_i he
                      have := roomF_some he (by omega)
                      omega
                    · omega
                  have HG := Lib.hid (HDI.out.link (G := 280) hm3 hor3 hl31 hg2 hl33 hU3 hN3 HBs.out)
                  have c48 := cell_of_heap HG.out.1.row 4 (.slice q.arr.1 q.arr.2.1 q.arr.2.2) rfl
                  have f48 := free_of_heap HG.out.1.row 4
                  go_wp2_with fail
                  go_meet
                  exact ⟨{ y5 with b := b3, bl := l3, hd := hd3 }, { q with arr := (a3, al3.length, c3'), al := al3 }, HG.out.1.cell 4 _ rfl hr3 hal3 HG.out.2, HC.out.grow hl31, by rw [HK.out]; exact hch3, rfl, rfl, rfl, rfl, rfl, rfl, hl31⟩
              case' rest =>
                obtain ⟨y6, q6, hdi6, hch6, hcq6, ht6, hp6, hs6, hc6, hds6, hd6, hbl6⟩ := hcut
              have HD6 := Lib.hid hdi6
              have HC6 := Lib.hid hch6
              have HQ6 := Lib.hid hcq6
              have Hc6 := Lib.hid hc6
              have Hp6 := Lib.hid hp6
              have Ht6 := Lib.hid ht6
              have Hs6 := Lib.hid hs6
              have Hds6 := Lib.hid hds6
              have Hd6 := Lib.hid hd6
              have d1 : wc.cell? ⟨DB, 1, none⟩ = some (.int .u64 (q.pl : Int)) := by rw [← hp6]; exact cell_of_heap hdi6.row 1 _ rfl
              have d3 : wc.cell? ⟨DB, 3, none⟩ = some (.int .i64 (q.count : Int)) := by rw [← hc6]; exact cell_of_heap hdi6.row 3 _ rfl
              have f3 := free_of_heap hdi6.row 3
              have hwc : IntKind.i64.wrap ((q.count : Int) + 1) = (q.count : Int) + 1 := by rw [IntKind.wrap_i64]; omega
              have hwc2 : IntKind.u64.wrap ((q.count : Int) + 1) = (q.count : Int) + 1 := by rw [IntKind.wrap_u64]; omega
              clear hdi6 hch6 hcq6 hc6 hp6 ht6 hs6 hds6 hd6 c1 c3 c4
              have HD7 := Lib.hid (HD6.out.cell (q' := { q6 with count := q.count + 1 }) 3 (.int .i64 ((q.count : Int) + 1)) (by simp [encKn]) HD6.out.rd HD6.out.u HD6.out.ar)
              go_upto_region 39 with fail
              generalize wc.setCell ⟨DB, 3, none⟩ (.int .i64 ((q.count : Int) + 1)) = w9 at HD7 ⊢
              clear d1 d3 f3
              have d1 : w9.cell? ⟨DB, 1, none⟩ = some (.int .u64 (q.pl : Int)) := by rw [← Hp6.out]; exact cell_of_heap HD7.out.row 1 _ rfl
              have d3 : w9.cell? ⟨DB, 3, none⟩ = some (.int .i64 ((q.count : Int) + 1)) := cell_of_heap HD7.out.row 3 _ rfl
              have hT6 : y6.bl.length ≤ 480 + 2100 * E + 900 + 280 * j + 280 := HD7.out.l2.ki.hi
              have hP := put_lo HD7.out.l2.ki.mi (q.pl + 56) ((q.count : Int) + 1) (by omega) (by omega) ⟨by omega, by omega⟩
              rw [show ((q.pl + 56 : Nat) : Int) = (q.pl : Int) + 56 by omega] at hP
              have HP := Lib.hid hP
              clear hP
              go_upto_region 40 with (go_at_call 57; refine HP.out.mono ?_; rintro e w10 ⟨rfl, l10, hl10, hm10, hu10⟩)
              have HD8 := Lib.hid (HD7.out.put hl10 hm10 hu10)
              have Hl10 := Lib.hid hl10
              clear d1 d3 hm10 hu10 hl10
              have hM0 : M < w10.heap.size := lt_of_heap HD8.out.l2.ki.mi.row
              have HDd := Lib.hid (HD8.out.below (below_drew w10))
              obtain ⟨bw2, ow2, hwa2, hbw2, hcw2⟩ := HDd.out.l2.wo.rd.at (by omega)
              cases hwa2
              obtain ⟨v2, hv2⟩ : ∃ v, W[j]? = some v := ⟨_, List.getElem?_eq_getElem hlt⟩
              have hv3 : v2 = (vn : Int) := by have := HV.out; rw [hv2] at this; cases this; rfl
              subst hv3
              have cwv := hcw2 j _ hv2
              have cd := HDd.out.l2.ki.mi.cd
              have hdO := HDd.out.l2.ki.mi.dO
              have hdl2 := HDd.out.l2.ki.mi.dO.1
              simp only [Hd6.out, hab, Hds6.out] at cd hdO hdl2
              have HdO := Lib.hid hdO
              have hrow := HDd.out.row
              have hC : w10.drew.cell? ⟨M, 144, none⟩ = some (.slice (some ⟨b, 0, none⟩) y5.d.2.1 y5.d.2.2) ∧ w10.drew.cell? ⟨bw, ow + j, none⟩ = some (.int .i64 (vn : Int)) ∧ w10.drew.heap[DB]? = some (.cells (encKn { q6 with count := q.count + 1 }).toArray 110 (0, 0)) := ⟨cd, cwv, hrow⟩
              clear cd cwv hrow hdO hv2 hcw2 hdl2
              refine wp_region_held (S := fun w' => w'.cell? ⟨M, 144, none⟩ = some (.slice (some ⟨b, 0, none⟩) y5.d.2.1 y5.d.2.2) ∧ w'.cell? ⟨bw, ow + j, none⟩ = some (.int .i64 (vn : Int)) ∧ w'.heap[DB]? = some (.cells (encKn { q6 with count := q.count + 1 }).toArray 110 (0, 0))) (by kernel_rfl) ?_
              change wpAnyH _ _ _ _ _ _ _ _ w10.drew
              generalize w10.drew = wd at hC HDd HdO ⊢
              refine held_take 0 (d := some 264) (v := (.pointer (some ⟨M, 0, none⟩))) rfl rfl (by kernel_rfl) (by kernel_rfl) (by kernel_rfl) (fun _ _ _ h => h) hC (by kernel_rfl) (fun w hSw => by obtain ⟨x1, x2, x3⟩ := hSw; clear x3; go_simp) ?_
              try simp only [Act.put, List.setIfInBounds_toArray, List.set_cons_zero, List.set_cons_succ]
              refine held_take 1 (d := some 265) (v := (.pointer (some ⟨M, 0, none⟩))) rfl rfl (by kernel_rfl) (by kernel_rfl) (by kernel_rfl) (fun _ _ _ h => h) hC (by kernel_rfl) (fun w hSw => by obtain ⟨x1, x2, x3⟩ := hSw; clear x3; go_simp) ?_
              try simp only [Act.put, List.setIfInBounds_toArray, List.set_cons_zero, List.set_cons_succ]
              refine held_take 2 (d := some 266) (v := (.pointer (some ⟨M, 144, none⟩))) rfl rfl (by kernel_rfl) (by kernel_rfl) (by kernel_rfl) (fun _ _ _ h => h) hC (by kernel_rfl) (fun w hSw => by obtain ⟨x1, x2, x3⟩ := hSw; clear x3; go_simp) ?_
              try simp only [Act.put, List.setIfInBounds_toArray, List.set_cons_zero, List.set_cons_succ]
              refine held_take 3 (d := some 267) (v := (.slice (some ⟨b, 0, none⟩) y5.d.2.1 y5.d.2.2)) rfl rfl (by kernel_rfl) (by kernel_rfl) (by kernel_rfl) (fun _ _ _ h => h) hC (by kernel_rfl) (fun w hSw => by obtain ⟨x1, x2, x3⟩ := hSw; clear x3; go_simp) ?_
              try simp only [Act.put, List.setIfInBounds_toArray, List.set_cons_zero, List.set_cons_succ]
              refine held_take 4 (d := some 268) (v := (.slice (some ⟨bw, ow, none⟩) W.length cw)) rfl rfl (by kernel_rfl) (by kernel_rfl) (by kernel_rfl) (fun _ _ _ h => h) hC (by kernel_rfl) (fun w hSw => by obtain ⟨x1, x2, x3⟩ := hSw; clear x3; go_simp) ?_
              try simp only [Act.put, List.setIfInBounds_toArray, List.set_cons_zero, List.set_cons_succ]
              refine held_take 5 (d := some 269) (v := (.int .i64 (j : Int))) rfl rfl (by kernel_rfl) (by kernel_rfl) (by kernel_rfl) (fun _ _ _ h => h) hC (by kernel_rfl) (fun w hSw => by obtain ⟨x1, x2, x3⟩ := hSw; clear x3; go_simp) ?_
              try simp only [Act.put, List.setIfInBounds_toArray, List.set_cons_zero, List.set_cons_succ]
              refine held_take 6 (d := some 270) (v := (.pointer (some ⟨bw, ow + j, none⟩))) rfl rfl (by kernel_rfl) (by kernel_rfl) (by kernel_rfl) (fun _ _ _ h => h) hC (by kernel_rfl) (fun w hSw => by obtain ⟨x1, x2, x3⟩ := hSw; clear x3; go_simp) ?_
              try simp only [Act.put, List.setIfInBounds_toArray, List.set_cons_zero, List.set_cons_succ]
              refine held_take 7 (d := some 271) (v := (.int .i64 (vn : Int))) rfl rfl (by kernel_rfl) (by kernel_rfl) (by kernel_rfl) (fun _ _ _ h => h) hC (by kernel_rfl) (fun w hSw => by obtain ⟨x1, x2, x3⟩ := hSw; clear x3; go_simp) ?_
              try simp only [Act.put, List.setIfInBounds_toArray, List.set_cons_zero, List.set_cons_succ]
              refine held_take 8 (d := some 272) (v := (.agg (encKn { q6 with count := q.count + 1 }).toArray)) rfl rfl (by kernel_rfl) (by kernel_rfl) (by kernel_rfl) (fun _ _ _ h => h) hC (by kernel_rfl) (fun w hSw => by exact exec_loadS rfl Try.knI (by go_simp) hSw.2.2 rfl) ?_
              try simp only [Act.put, List.setIfInBounds_toArray, List.set_cons_zero, List.set_cons_succ]
              refine held_take 9 (d := some 273) (v := (.pointer (some ⟨b, vn * 5, none⟩))) rfl rfl (by kernel_rfl) (by kernel_rfl) (by kernel_rfl) (fun _ _ _ h => h) hC (by kernel_rfl) (fun w hSw => by obtain ⟨x1, x2, x3⟩ := hSw; clear x3; go_simp) ?_
              try simp only [Act.put, List.setIfInBounds_toArray, List.set_cons_zero, List.set_cons_succ]
              refine held_one 10 rfl (by kernel_rfl) (fun K hK => ?_)
              refine step_storeKN encKn_E rfl rfl rfl Try.knI (x := { q6 with count := q.count + 1 }) (by go_simp) (by go_simp) HdO.out (i := vn) rfl (by omega) ?_
              intro w11 ho11 hu11
              have HF := Lib.hid (HDd.out.back (vn := vn) (cn' := 4 * E + (j + 1)) (w' := w11) (by simp only [Hd6.out, hab, Hds6.out]; exact ho11) (by simp only [Hd6.out, hab]; exact hu11.mono (fun k _ e => by rw [e]; simp [blk])) (by
                refine ⟨?_, ?_, ?_, ?_, fun h => ?_, fun _ => ?_⟩
                · show q6.pl + 64 ≤ l10.length; rw [Hp6.out, Hl10.out]; omega
                · show q6.slot < D; rw [Hs6.out]; exact HQs.out.2.1
                · show q6.text.size ≤ 49; rw [Ht6.out]; exact HQs.out.2.2.1
                · show q.count + 1 ≤ 100; omega
                · exact absurd h (Nat.succ_ne_zero _)
                · show ChainOK l10.length q6.al (q.count + 1 - 1); rw [Hl10.out, Nat.add_sub_cancel]; exact HQ6.out) (by omega) (by show q.count + 1 ≤ _; omega))
              have hbM : M ≠ b := fun e => HDd.out.l2.ki.mi.nd (by show M ∈ blk y6.d.1; rw [Hd6.out, hab]; simp [blk]; exact e)
              have hbW : bw ≠ b := fun e => HDd.out.l2.wf ⟨bw, ow, none⟩ rfl (mset_d (by show bw ∈ blk y6.d.1; rw [Hd6.out, hab]; simp [blk]; exact e))
              have hbD : DB ≠ b := fun e => HDd.out.nD (mset_d (by show DB ∈ blk y6.d.1; rw [Hd6.out, hab]; simp [blk]; exact e))
              refine hK _ _ ⟨ucell hu11 hbM hC.1, ucell hu11 hbW hC.2.1, row_upd hu11 hbD hC.2.2⟩ ?_
              clear hK K
              try simp only [Act.put, List.setIfInBounds_toArray, List.set_cons_zero, List.set_cons_succ]
              refine wpAnyH_done (by kernel_rfl) ?_ _
              have hHC : ChainOK l10.length y6.ml (E + 1) := by rw [Hl10.out]; exact HC6.out
              have HHC := Lib.hid hHC
              clear hHC hC ho11 hu11 hbM hbW hbD
              go_wp2_with fail
              go_roundw
              case rel => exact ⟨j + 1, _, by congr 1, by omega, HF.out.mono (by omega) (Nat.le_refl _), HHC.out⟩
              case measure => simp [intOf]; omega
            · obtain rfl : j = W.length := by omega
              have hge4 : ¬ ((W.length : Int) < (W.length : Int)) := by omega
              have hT5 : y5.bl.length ≤ 480 + 2100 * E + 900 + 280 * W.length := HL.out.ki.hi
              clear hlt hj HL4 HC4
              have hbl5 : y5.bl.length = y5.b.2.1 := HL.out.ki.mi.bO.1
              have cB := HL.out.ki.mi.cb
              have cMo := HL.out.ki.mi.cMost
              have hle1 : ¬ ((32768 : Int) < (y5.b.2.1 : Int)) := by omega
              have hle2 : decide ((32768 : Int) < (y5.b.2.1 : Int)) = false := decide_eq_false hle1
              have hle3 : decide (32768 < y5.b.2.1) = false := decide_eq_false (by omega)
              clear hbl5
              go_upto_region 41 with fail
              go_quiet (fail)
              have HL6 := Lib.hid (HL.out.below (Below.drewN' wr nq))
              have HC6 := Lib.hid HC.out
              generalize wr.drewN nq = wq at HL6 ⊢
              clear cB cMo hle1 hle2 hle3 HL HC
              go_upto_if 291 with fail
              go_cut [] from 290 to 303 (fun wx => ∃ y6 : Mk, L2 base M D F kd E (480 + 2100 * E + 900 + 280 * W.length) (4 * E + 4) (4 * E + 4) (4 * E + W.length) x w2 y6 wa cw W wx ∧ ChainOK y6.bl.length y6.ml (E + 1))
              case first =>
                by_cases hE0 : E = 0
                · have hb0 : ((E : Int) == 0) = true := by rw [hE0]; rfl
                  have hb1 : (E == 0) = true := by rw [hE0]; rfl
                  have hmi1 := HL6.out.ki.mi.setN 10 sq (by omega) (by omega) (by omega) (by omega) (by omega) (by omega) (by omega) HSq.out
                  have hl1 := HL6.out.hd hmi1 (Upd.setCell (F := (· = M)) _ ⟨M, 129, none⟩ (.int .u64 sq) rfl)
                  have hmi2 := hl1.ki.mi.setN 12 real (by omega) (by omega) (by omega) (by omega) (by omega) (by omega) (by omega) HReal.out
                  have HL7 := Lib.hid ((hl1.hd hmi2 (Upd.setCell (F := (· = M)) _ ⟨M, 131, none⟩ (.int .u64 real) rfl)).below (below_drew _))
                  obtain ⟨_, c129, _⟩ := HL6.out.ki.mi.cN 10 (by omega)
                  obtain ⟨_, c131, _⟩ := HL6.out.ki.mi.cN 12 (by omega)
                  have f129 := HL6.out.ki.mi.free 129
                  have f131 := HL6.out.ki.mi.free 131
                  simp only [Nat.reduceAdd] at c129 c131
                  have HE0 := Lib.hid hE0
                  clear hmi1 hl1 hmi2 hE0
                  go_upto_region 45 with fail
                  go_region
                  all_goals (go_wp2_with fail; go_meet; exact ⟨_, HL7.out, HC6.out⟩)
                · have hb0 : ((E : Int) == 0) = false := beq_eq_false_iff_ne.2 (by omega)
                  have hb1 : (E == 0) = false := beq_eq_false_iff_ne.2 hE0
                  go_wp2_with fail
                  go_meet
                  exact ⟨_, HL6.out, HC6.out⟩
              case' rest =>
                obtain ⟨y6, hl6, hch6⟩ := hcut
              have HL7 := Lib.hid hl6
              have HC7 := Lib.hid hch6
              clear hl6 hch6 HL6 HC6
              have c127 : wc.cell? ⟨M, 127, none⟩ = some (.int .u64 (E : Int)) := HL7.out.ki.mi.cNk 8 (E : Int) (fun Ns h => h.n8)
              have f127 := HL7.out.ki.mi.free 127
              have hwE1 : IntKind.u64.wrap ((E : Int) + 1) = (E : Int) + 1 := by rw [IntKind.wrap_u64]; omega
              have hmi8 := HL7.out.ki.mi.setHd 75 (.int .u64 ((E : Int) + 1)) (E + 1) (by omega) (HL7.out.ki.mi.hd.setN 8 ((E : Int) + 1) (by omega) (by omega) (by omega) (by omega) (by omega) (by omega) ⟨by omega, by omega⟩ (E + 1) (.inl ⟨rfl, by omega⟩))
              have HL8 := Lib.hid ((HL7.out.hd hmi8 (Upd.setCell (F := (· = M)) _ ⟨M, 127, none⟩ (.int .u64 ((E : Int) + 1)) rfl)).below (below_drew _))
              clear hmi8
              go_upto_region 46 with fail
              go_cut [] from 304 to 314 (fun wx => ∃ y7 : Mk, L2 base M D F kd (E + 1) (480 + 2100 * E + 900 + 280 * W.length) (4 * E + 4) (4 * E + 4) (4 * E + W.length) x w2 y7 wa cw W wx ∧ ChainOK y7.bl.length y7.ml (E + 1))
              case first =>
                go_region
                all_goals (go_wp2_with fail; go_meet; exact ⟨_, HL8.out, HC7.out⟩)
              case' rest =>
                obtain ⟨y7, hl7, hch7⟩ := hcut
              have HL9 := Lib.hid hl7
              have HC9 := Lib.hid hch7
              clear hl7 hch7 HL7 HC7 HL8 c127 f127
              have hmi1 := HL9.out.ki.mi.setN 9 sq (by omega) (by omega) (by omega) (by omega) (by omega) (by omega) (by omega) HSq.out
              have hl1 := HL9.out.hd hmi1 (Upd.setCell (F := (· = M)) _ ⟨M, 128, none⟩ (.int .u64 sq) rfl)
              have hmi2 := hl1.ki.mi.setN 13 real (by omega) (by omega) (by omega) (by omega) (by omega) (by omega) (by omega) HReal.out
              have hl2 := hl1.hd hmi2 (Upd.setCell (F := (· = M)) _ ⟨M, 132, none⟩ (.int .u64 real) rfl)
              have hmi3 := hl2.ki.mi.setN 14 mono (by omega) (by omega) (by omega) (by omega) (by omega) (by omega) (by omega) HMono.out
              have HL10 := Lib.hid ((hl2.hd hmi3 (Upd.setCell (F := (· = M)) _ ⟨M, 133, none⟩ (.int .u64 mono) rfl)).below (below_drew _))
              obtain ⟨_, c128, _⟩ := HL9.out.ki.mi.cN 9 (by omega)
              obtain ⟨_, c132, _⟩ := HL9.out.ki.mi.cN 13 (by omega)
              obtain ⟨_, c133, _⟩ := HL9.out.ki.mi.cN 14 (by omega)
              have f128 := HL9.out.ki.mi.free 128
              have f132 := HL9.out.ki.mi.free 132
              have f133 := HL9.out.ki.mi.free 133
              simp only [Nat.reduceAdd] at c128 c132 c133
              clear hmi1 hl1 hmi2 hl2 hmi3
              go_upto_region 47 with fail
              go_cut [] from 315 to 332 (fun wx => ∃ y8 : Mk, L2 base M D F kd (E + 1) (480 + 2100 * E + 900 + 280 * W.length) (4 * E + 4) (4 * E + 4) (4 * E + W.length) x w2 y8 wa cw W wx ∧ ChainOK y8.bl.length y8.ml (E + 1))
              case first =>
                go_region
                all_goals (go_wp2_with fail; go_meet; exact ⟨_, HL10.out, HC9.out⟩)
              case' rest =>
                obtain ⟨y8, hl8, hch8⟩ := hcut
              have HL11 := Lib.hid hl8
              have HC11 := Lib.hid hch8
              clear hl8 hch8 HL9 HC9 HL10 c128 c132 c133 f128 f132 f133
              have hXA : AtB wc X 0 B := row_range (o := 0) (row_upd HL11.out.st.upd HXO.out HX2.out) B (fun j v hv => by rw [Nat.zero_add]; simpa using hv)
              have HXA := Lib.hid (show wc.rangeAt X 0 (B.map (Value.int .u8)) from hXA)
              have hth : wc.there M 87 (B.map (Value.int .u8)).toArray.size := fun j hj => by
                have hs := mkL_size HL11.out.ki.mi.cfg.len HL11.out.ki.mi.hd.len
                have hj2 : j < 16 := by simpa [HBl.out] using hj
                exact ⟨by rw [cell_of_heap HL11.out.ki.mi.row (87 + j) _ (Array.getElem?_eq_getElem (by omega))]; rfl, HL11.out.ki.mi.free (87 + j)⟩
              have Hth := Lib.hid hth
              have hsz16 : (Try.prog.info? 26).map (·.size) = some (B.map (Value.int .u8)).toArray.size := by rw [Try.idR.2]; simp [HBl.out]
              have Hsz := Lib.hid hsz16
              have HL12 := Lib.hid (HL11.out.hd (HL11.out.ki.mi.setBoot B HBB.out HBl.out) (upd_sets M _ 87 wc))
              have hone16 : ((B.map (Value.int .u8)).toArray.all (·.oneCell')) = true := all_oneCell_toArray (fun v hv => by obtain ⟨u, _, rfl⟩ := List.mem_map.1 hv; rfl)
              have Hone := Lib.hid hone16
              have HL16 := Lib.hid (show (B.map (Value.int .u8)).length = 16 by rw [List.length_map, HBl.out])
              have hpu : U64 (p : Int) := ⟨by omega, by omega⟩
              have HPU := Lib.hid hpu
              clear hXA hth hsz16 hone16 hpu
              go_upto_region 49 with (first
                | (with_reducible refine wpList_loadMid rfl rfl Try.idR rfl HXA.out HL16.out ?_)
                | (with_reducible refine wpList_store_mid rfl 26 _ _ rfl M 87 (B.map (Value.int .u8)).toArray rfl rfl Hth.out Hsz.out Hone.out ?_; rw [List.toList_toArray]; generalize wc.setCells M 87 (B.map (Value.int .u8)) = w12 at HL12 ⊢; obtain ⟨_, c141⟩ := HL12.out.ki.mi.cTe; have f141 := HL12.out.ki.mi.free 141))
              have hmi13 := HL12.out.ki.mi.setHd 89 (.int .u64 (p : Int)) (E + 1) (by omega) (HL12.out.ki.mi.hd.setTe _ HPU.out)
              have HL13 := Lib.hid (HL12.out.hd hmi13 (Upd.setCell (F := (· = M)) _ ⟨M, 141, none⟩ (.int .u64 (p : Int)) rfl))
              clear hmi13 c141 f141
              go_wp2_with fail
              go_ret2
              exact ⟨sq, 0, _, E + 1, rfl, .inr rfl, ⟨HL13.out.ki.mono (by omega) (by omega) (by omega) (by omega), HC11.out⟩, (Step.below (M := M) (x := x) HB2.out).trans HL13.out.st, fun q hq z hz => by
                rcases HL13.out.ar q hq z hz with g | g
                · exact .inl g
                · exact .inr (Nat.le_trans HB2.out.size g)⟩
end Go.Proofs.Ytpkmdnfkeebgbaa

/- A cut as a step of a region that draws its order. Conditions stand as premises. -/
namespace Go.Proofs.Ytpkmdnfkeebgbaa
open Go.ChangeShapes Go.WideShapes Go.ChangeAt Go.RowKit
set_option linter.unusedVariables false

section
variable {α : Type} {P : Program} {w : World} {ops : Array Oper} {rest : List Oper} {o : Oper} {a : Act} {Q : Exit → Act → World → Prop}

/-- A cut from a place on, as a step of a region that draws its order. -/
theorem step_cutL {enc : α → Value} {K : Act → World → Prop} {E : Prop} (hgd : o.guard = none) {t : TypeId} {x lo : Operand} (ho : o.op = .slice t x (some lo) none none)
    {e : TypeId} {bytes : Nat} (hI : OneInfo P t e bytes) {xa : Option Addr} {xn xc : Nat} (hx : a.eval x = .slice xa xn xc) {kl : IntKind} {il : Int} (hlo : a.eval lo = .int kl il)
    {l : List α} (hr : Rd enc w xa xn xc l) (h0 : 0 ≤ il) (h1 : il ≤ xn)
    (h : ∀ a', Rd enc w a' (xn - il.toNat) (xc - il.toNat) (l.drop il.toNat) → (∀ w', Rd enc w' xa xn xc l → Rd enc w' a' (xn - il.toNat) (xc - il.toNat) (l.drop il.toNat)) →
      K (a.put o.dst (.slice a' (xn - il.toNat) (xc - il.toNat))) w) :
    if Region.wanted o (yielded ops a.tmps) = true then Oper.wp P o a w K Q else E := by
  have hw : Region.wanted o (yielded ops a.tmps) = true := by simp [Region.wanted, hgd]
  rw [if_pos hw]
  exact wp_cutL ho hI hx hlo hr h0 h1 h

/-- append, its slot named. -/
theorem step_appOwnD {enc : α → Value} {K : Act → World → Prop} {E : Prop} {d : Option Nat} (hd : o.dst = d) (hgd : o.guard = none) {s x : Operand} {t : TypeId} (ho : o.op = .call { callee := .builtin .append, args := #[s, x], argTypes := #[t, t] })
    {base : Nat} {e : TypeId} {bytes : Nat} (hI : OneInfo P t e bytes) {sa xa : Option Addr} {sn sc xn xc : Nat} (hs : a.eval s = .slice sa sn sc) (hx : a.eval x = .slice xa xn xc)
    {l1 l2 : List α} (hown : Own enc e w base sa sn sc l1) (hr : Rd enc w xa xn xc l2) (h1 : ∀ y, (enc y).oneCell' = true)
    (hfit : (sn + xn) * bytes ≤ 140737488355328) (hfit2 : sn + xn ≤ 140737488355328) (hbase : base ≤ w.heap.size)
    (h : ∀ a' c' w', Own enc e w' base a' (sn + xn) c' (l1 ++ l2) → Below base w w' → K (a.put d (.slice a' (sn + xn) c')) w') :
    if Region.wanted o (yielded ops a.tmps) = true then Oper.wp P o a w K Q else E := by
  subst hd
  exact step_appOwn hgd ho hI hs hx hown hr h1 hfit hfit2 hbase (fun a' c' w' h2 h3 _ _ => h a' c' w' h2 h3)

/-- make of n elements, as a step of a region that draws its order. -/
theorem step_makeOwn {enc : α → Value} (x0 : α) {K : Act → World → Prop} {E : Prop} (hgd : o.guard = none) {l c : Operand} {t : TypeId} (hop : o.op = Op.makeSlice t l c)
    {base : Nat} {e : TypeId} {bytes : Nat} (hI : OneInfo P t e bytes) (hz0 : (P.info? e).map (fun i => i.zero) = some (some (enc x0))) (h1 : (enc x0).cells = #[enc x0])
    {kl kc : IntKind} {L C : Int} {n : Nat} (hl : a.eval l = .int kl L) (hc : a.eval c = .int kc C) (hL : L = (n : Int)) (hC : C = (n : Int)) (b2 : bytes * n ≤ 281474976710656) (b3 : n ≤ 281474976710656) (b4 : base ≤ w.heap.size)
    (h : ∀ w', Own enc e w' base (some ⟨w.heap.size, 0, none⟩) n n (List.replicate n x0) → Below base w w' → w.grownBy w' none → K (a.put o.dst (.slice (some ⟨w.heap.size, 0, none⟩) n n)) w') :
    if Region.wanted o (yielded ops a.tmps) = true then Oper.wp P o a w K Q else E := by
  have hw : Region.wanted o (yielded ops a.tmps) = true := by simp [Region.wanted, hgd]
  rw [if_pos hw]
  obtain ⟨ht, i, z, hi, hz, hsize, hby, hzs⟩ := hI
  have hze : z = enc x0 := by
    rw [hi] at hz0
    simp only [Option.map_some, Option.some.injEq] at hz0
    rw [hz] at hz0
    exact Option.some.inj hz0
  subst hze
  obtain ⟨w', hrun, r1, r2⟩ := run_make_full (P := P) w base t e i (enc x0) 1 ht hi hz hsize kl kc n (by rw [hby]; exact b2) (by unfold maxLen; omega) b4
  subst hL
  subst hC
  rw [h1, Nat.mul_one, toList_madeCells_one] at r1
  unfold Oper.wp
  simp [execOp, hop, hl, hc, hrun, Result.andThen]
  exact h w' ⟨by simp, by rw [List.map_replicate]; exact r1⟩ ((Below.refl _ _).grown r2 b4 (fun k hk => by cases hk)) r2
/-- make of n elements, its slot named. -/
theorem step_makeOwnD {enc : α → Value} (x0 : α) {K : Act → World → Prop} {E : Prop} {d : Option Nat} (hd : o.dst = d) (hgd : o.guard = none) {l c : Operand} {t : TypeId} (hop : o.op = Op.makeSlice t l c)
    {base : Nat} {e : TypeId} {bytes : Nat} (hI : OneInfo P t e bytes) (hz0 : (P.info? e).map (fun i => i.zero) = some (some (enc x0))) (h1 : (enc x0).cells = #[enc x0])
    {kl kc : IntKind} {L C : Int} {n : Nat} (hl : a.eval l = .int kl L) (hc : a.eval c = .int kc C) (hL : L = (n : Int)) (hC : C = (n : Int)) (b2 : bytes * n ≤ 281474976710656) (b3 : n ≤ 281474976710656) (b4 : base ≤ w.heap.size)
    (h : ∀ w', Own enc e w' base (some ⟨w.heap.size, 0, none⟩) n n (List.replicate n x0) → Below base w w' → K (a.put d (.slice (some ⟨w.heap.size, 0, none⟩) n n)) w') :
    if Region.wanted o (yielded ops a.tmps) = true then Oper.wp P o a w K Q else E := by
  subst hd
  exact step_makeOwn x0 hgd hop hI hz0 h1 hl hc hL hC b2 b3 b4 (fun w' h2 h3 _ => h w' h2 h3)
end
end Go.Proofs.Ytpkmdnfkeebgbaa
