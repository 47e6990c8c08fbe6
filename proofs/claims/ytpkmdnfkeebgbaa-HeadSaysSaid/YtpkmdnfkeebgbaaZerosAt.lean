/- append of so many zeros, and where the answer lies; a copy into what the call owns; a cut whose address is known. No condition. -/
import Derived.Test.YtpkmdnfkeebgbaaZeros
import Derived.Test.YtpkmdnfkeebgbaaUpd
namespace Go.Proofs.Ytpkmdnfkeebgbaa
open Go.ChangeShapes Go.WideShapes Go.ChangeAt Go.RowKit
set_option linter.unusedVariables false
set_option linter.unusedSimpArgs false

section
variable {α : Type} {P : Program} {w : World} {ops : Array Oper} {rest : List Oper} {o : Oper} {a : Act} {Q : Exit → Act → World → Prop}

theorem run_append_own_zeros_at (base : Nat) (t tn ty e : TypeId) (i : TypeInfo) (z : Value) (kq kn : IntKind) (ht : P.underlying t = some (.slice e)) (htn : P.underlying tn = some (.int kn)) (hi : P.info? e = some i) (hz : i.zero = some z) (hzc : z.cells = #[z]) (hone : z.oneCell' = true) (hsize : i.size = 1)
    (v : Value) (n : Nat) (xs : List Value) (hown : w.ownsRow base e 1 v n xs) (m : Nat) (h63 : n + m ≤ maxLen) (hbytes : (n + m) * i.bytes ≤ 140737488355328) (hbase : base ≤ w.heap.size) :
    ∃ v' w', (Builtin.append_ #[t, tn] ty #[v, .int kq m]).run P w = .ok v' w' ∧ w'.ownsRow base e 1 v' (n + m) (xs ++ List.replicate m z) ∧ w.grownBy w' v.ownBlock ∧ (v' = .slice none 0 0 ↔ v = .slice none 0 0 ∧ m = 0) ∧ (v'.ownBlock = v.ownBlock ∨ v'.ownBlock = some w.heap.size) := by
  have hsmall : n + m ≤ 9223372036854775807 := by simp only [maxLen] at h63; omega
  have hxl : xs.length = n := by have := hown.1; omega
  have hlen : (xs ++ List.replicate m z).length = (n + m) * 1 := by rw [List.length_append, hown.1, List.length_replicate]; omega
  have hmb : m * i.bytes ≤ 140737488355328 := Nat.le_trans (Nat.mul_le_mul_right _ (Nat.le_add_left m n)) hbytes
  have grown : ∀ (old : Nat), old < n + m → ∀ (row : Option Nat),
      (w.drew.alloc (.cells (xs.toArray ++ Builtin.zeroCells z.cells m ++ Builtin.zeroCells z.cells (grownCap w (n + m) old e - (n + m))) e)).ownsRow base e 1
        (.slice (some ⟨w.heap.size, 0, none⟩) (n + m) (grownCap w (n + m) old e)) (n + m) (xs ++ List.replicate m z) ∧
      w.grownBy (w.drew.alloc (.cells (xs.toArray ++ Builtin.zeroCells z.cells m ++ Builtin.zeroCells z.cells (grownCap w (n + m) old e - (n + m))) e)) row := by
    intro old ho row
    have hge := grownCap_ge w (n + m) old e
    have hcm : grownCap w (n + m) old e ≤ maxLen := grownCap_le_maxLen w (n + m) old e h63
    rw [hzc, zeroCells_one, zeroCells_one]
    refine ⟨⟨hlen, .inr ⟨w.heap.size, _, _, rfl, hbase, heap_alloc_new w.drew _, hge, hcm, ?_, ?_⟩⟩, ⟨rfl, rfl, rfl, by simp, fun k hk _ => heap_alloc_old w.drew _ hk⟩⟩
    · simp [hxl]; omega
    · simp only [Array.toList_append, List.append_assoc]
      rw [← List.append_assoc, ← hlen]
      exact List.take_left
  rcases hown.2 with ⟨rfl, rfl⟩ | ⟨g, cap, cur, rfl, hbg, hg, hnc, hcm, hcs, htake⟩
  · have hx : xs = [] := List.eq_nil_of_length_eq_zero hxl
    subst hx
    by_cases hm : m = 0
    · subst hm
      have hw : IntKind.i64.wrap 0 = 0 := by decide
      refine ⟨.slice none 0 0, w, ?_, World.ownsRow_nil w base e 1, ⟨rfl, rfl, rfl, Nat.le_refl _, fun _ _ _ => rfl⟩, by simp, .inl rfl⟩
      simp [Builtin.append_, run_underlying ht, run_underlying htn, sizeOf, typeInfo, hi, asInt, asIntOf, hw]
    · have hr := Lib.run_append_nil_zeros (P := P) w t tn ty e i z kq kn ht htn hi hz m (by omega) (by omega) (by omega) (by omega)
      have hgr := grown 0 (by omega) (Value.ownBlock (.slice none 0 0))
      simp only [Nat.zero_add, List.nil_append, Array.empty_append] at hgr ⊢
      exact ⟨_, _, hr, hgr.1, hgr.2, by simp [hm], .inr rfl⟩
  · by_cases hroom : n + m ≤ cap
    · have hfit : n + m ≤ cur.size := by rw [hcs]; omega
      have hr := run_append_room_zeros (P := P) (w := w) t tn ty e i z kq kn ht htn hi hz hzc hone hsize g n cap cur hg m hroom hfit (by omega) (by omega)
      refine ⟨_, _, hr, ⟨hlen, .inr ⟨g, cap, _, rfl, hbg, setRow_heap w g cur _ e _ hg, hroom, hcm, ?_, ?_⟩⟩, ⟨rfl, rfl, rfl, by simp, fun k _ hk => setRow_other w g k _ (fun e => hk (by simp [Value.ownBlock, e]))⟩, by simp, .inl rfl⟩
      · simp only [List.size_toArray, List.length_append, List.length_take, List.length_drop, Array.length_toList, List.length_replicate]
        omega
      · rw [Nat.mul_one] at htake
        rw [htake, ← hlen]
        exact List.take_left
    · have holds : ∀ j u, xs[j]? = some u → w.drew.cell? ((⟨g, 0, none⟩ : Addr).add j) = some u := hown.cells (g := g) rfl
      have hf : (Builtin.firstCells i.size n (.slice (some ⟨g, 0, none⟩) n cap)).run P w.drew = .ok xs.toArray w.drew := run_firstCells_some (P := P) w.drew i.size n ⟨g, 0, none⟩ n cap xs (by rw [hsize]; omega) holds
      have hr := Lib.run_append_grow_zeros (P := P) w t tn ty e i z kq kn ht htn hi hz (some ⟨g, 0, none⟩) n cap xs hf m (by omega) (by omega) (by omega) (by omega) (by omega) (growslice_fits (by omega) hbytes)
      have hgr := grown cap (by omega) (Value.ownBlock (.slice (some ⟨g, 0, none⟩) n cap))
      exact ⟨_, _, hr, hgr.1, hgr.2, by simp, .inr rfl⟩

theorem wpList_appZerosAt {enc : α → Value} (x0 : α) (hgd : o.guard = none) {s x : Operand} {t tn : TypeId} (ho : o.op = .call { callee := .builtin .append, args := #[s, x], argTypes := #[t, tn] }) {kn : IntKind} (htn : P.underlying tn = some (.int kn))
    {base : Nat} {e : TypeId} {bytes : Nat} (hI : OneInfo P t e bytes) (hz0 : (P.info? e).map (fun i => i.zero) = some (some (enc x0))) (hzc : (enc x0).cells = #[enc x0]) (hone : (enc x0).oneCell' = true)
    {sa : Option Addr} {sn sc m : Nat} {kq : IntKind} {X : Int} (hs : a.eval s = .slice sa sn sc) (hx : a.eval x = .int kq X) (hX : X = (m : Int))
    {l1 : List α} (hown : Own enc e w base sa sn sc l1) (hfit : (sn + m) * bytes ≤ 140737488355328) (hfit2 : sn + m ≤ 140737488355328) (hbase : base ≤ w.heap.size)
    (h : ∀ a' c' w', Own enc e w' base a' (sn + m) c' (l1 ++ List.replicate m x0) → Upd (· ∈ blk sa) w w' → (∀ k ∈ blk a', k ∈ blk sa ∨ w.heap.size ≤ k) → wpList P ops Q rest (a.put o.dst (.slice a' (sn + m) c')) w') : wpList P ops Q (o :: rest) a w := by
  subst hX
  obtain ⟨ht, i, z, hi, hz, hsize, hby, hzs⟩ := hI
  have hze : z = enc x0 := by
    rw [hi] at hz0
    simp only [Option.map_some, Option.some.injEq] at hz0
    rw [hz] at hz0
    exact Option.some.inj hz0
  subst hze
  subst hby
  obtain ⟨hl1, how⟩ := hown
  obtain ⟨v', w', hr, hv', hg, hn, hat⟩ := run_append_own_zeros_at (P := P) (w := w) base t tn o.type e i (enc x0) kq kn ht htn hi hz hzc hone hsize _ sn _ how m (by unfold maxLen; omega) hfit hbase
  refine Lib.wpList_append_run w hgd s x t tn ho _ _ hs hx v' w' hr ?_
  have hmap : (l1 ++ List.replicate m x0).map enc = l1.map enc ++ List.replicate m (enc x0) := by simp
  have hu : Upd (· ∈ blk sa) w w' := Upd.grown hg (fun k hk => by
    cases sa with
    | none => cases hk
    | some ad' => cases hk; exact List.mem_singleton.2 rfl)
  have hwp : ∀ a' c', v' = .slice a' (sn + m) c' → wpList P ops Q rest (a.put o.dst v') w' := by
    intro a' c' hv
    subst hv
    exact h a' c' w' ⟨by simp; omega, by rw [hmap]; exact hv'⟩ hu (fun k hk => by
      obtain ⟨y, rfl, rfl⟩ := mem_blk.1 hk
      rcases hat with hat | hat
      · left
        cases sa with
        | none => cases hat
        | some ad' => simp only [Value.ownBlock, Option.some.injEq] at hat; exact mem_blk.2 ⟨ad', rfl, hat.symm⟩
      · right
        simp only [Value.ownBlock, Option.some.injEq] at hat
        omega)
  rcases hv'.2 with ⟨hv, h0⟩ | ⟨g', cap', cur, hv, rest'⟩
  · exact hwp none 0 (by rw [hv, h0])
  · exact hwp _ cap' hv

/-- The cells of a row, laid over from a place on. -/
def spliceL (l : List α) (off : Nat) (x : List α) : List α := l.take off ++ (x ++ l.drop (off + x.length))

/-- copy into what the call owns, from whatever source. -/
theorem wpList_copyAt {enc : α → Value} (hgd : o.guard = none) {d s : Operand} {dT sT : TypeId}
    (ho : o.op = .call { callee := .builtin .copy, args := #[d, s], argTypes := #[dT, sT] }) {e e2 : TypeId} {bytes : Nat} (hI : OneInfo P dT e bytes)
    {base g off dLen dCap len cap : Nat} {l l2 : List α} (hd : a.eval d = .slice (some ⟨g, off, none⟩) dLen dCap) {xa : Option Addr} {xn xc : Nat} (hs : a.eval s = .slice xa xn xc)
    (hown : Own enc e2 w base (some ⟨g, 0, none⟩) len cap l) (hr : Rd enc w xa xn xc l2) (hfit : off + xn ≤ len) (hle : xn ≤ dLen) (h1 : ∀ y, (enc y).oneCell' = true)
    (h : ∀ w', Own enc e2 w' base (some ⟨g, 0, none⟩) len cap (spliceL l off l2) → Upd (· = g) w w' → wpList P ops Q rest (a.put o.dst (goInt xn)) w') : wpList P ops Q (o :: rest) a w := by
  obtain ⟨ht, i, z, hi, hz, hsize, hby, hzs⟩ := hI
  have hsz : (P.info? e).map (·.size) = some 1 := by rw [hi]; simp [hsize]
  obtain ⟨hl2, hc1, hc2, hcn, hcells⟩ := hr
  by_cases h0 : xn = 0
  · subst h0
    obtain rfl : l2 = [] := List.eq_nil_of_length_eq_zero hl2
    refine wpList_copy_nothing hgd d s dT sT ho e ht hsz _ _ _ _ _ _ hd hs (by simp) ?_
    have := h w (by simpa [spliceL] using hown) (Upd.refl _ _)
    exact this
  · rcases hcells with h0' | ⟨b, o2, rfl, hbk, hc⟩
    · omega
    obtain ⟨hl, h2, h3⟩ := hown
    rcases h3 with ⟨h3, h4⟩ | ⟨g', cap', cur, hv, hbg, hg, hnc, hcm, hcs, htake⟩
    · cases h3
    · cases hv
      have hcsn : (l2.map enc).length = Nat.min xn dLen := by rw [List.length_map, hl2]; exact (Nat.min_eq_left hle).symm
      refine wpList_copy_own hgd d s dT sT ho e ht hsz g off dLen dCap ⟨b, o2, none⟩ xn xc hd hs cur e2 hg (l2.map enc) hcsn (fun j v hv => ?_) (by rw [List.length_map, hl2, hcs]; omega) (fun v hv => ?_) ?_
      · rw [List.getElem?_map] at hv
        obtain ⟨y, hy, rfl⟩ := Option.map_eq_some_iff.1 hv
        rw [addr_add]
        exact hc j y hy
      · obtain ⟨y, _, rfl⟩ := List.mem_map.1 hv
        exact h1 y
      · rw [List.length_map, hl2]
        refine h _ ⟨?_, ?_, .inr ⟨g, _, _, rfl, hbg, setRow_heap w g cur _ e2 _ hg, hnc, hcm, ?_, ?_⟩⟩ ⟨rfl, rfl, rfl, by simp [World.setRow], fun k hk hn => setRow_other w g k _ hn⟩
        · simp [spliceL]; omega
        · simp [spliceL]; omega
        · simp; omega
        · simp only [Nat.mul_one] at htake ⊢
          have hcl : len ≤ cur.toList.length := by simp; omega
          have e1 : (l.map enc).take off = cur.toList.take off := by rw [← htake, List.take_take, Nat.min_eq_left (by omega)]
          have e2 : (l.map enc).drop (off + xn) = (cur.toList.drop (off + xn)).take (len - (off + xn)) := by rw [← htake, List.drop_take]
          unfold spliceL
          rw [List.map_append, List.map_append, List.map_take, List.map_drop, hl2, e1, e2]
          have hto : (cur.toList.take off).length = off := by simp; simp at hcl; omega
          rw [List.take_append, List.take_append, hto, List.length_map, hl2, List.take_of_length_le (l := cur.toList.take off) (by rw [hto]; omega), List.take_of_length_le (l := l2.map enc) (by simp; omega)]
          rw [show len - off - xn = len - (off + xn) by omega]

/-- A cut from a place on, of a slice whose address is known. -/
theorem wpList_cutAt (hgd : o.guard = none) {t : TypeId} {x lo : Operand} (ho : o.op = .slice t x (some lo) none none)
    {e : TypeId} {bytes : Nat} (hI : OneInfo P t e bytes) {g off xn xc : Nat} (hx : a.eval x = .slice (some ⟨g, off, none⟩) xn xc) {kl : IntKind} {il : Int} (hlo : a.eval lo = .int kl il)
    (h0 : 0 ≤ il) (h1 : il ≤ xn) (h2 : il < xc)
    (h : wpList P ops Q rest (a.put o.dst (.slice (some ⟨g, off + il.toNat, none⟩) (xn - il.toNat) (xc - il.toNat))) w) : wpList P ops Q (o :: rest) a w := by
  have ht : P.underlying t = some (.slice (P.elem t)) := by rw [elem_of hI.1]; exact hI.1
  have hrun := run_slice_l (P := P) (w := w) t (some ⟨g, off, none⟩) xn xc ht kl il h0 h1
  rw [sizeOf_one hI] at hrun
  have hat := run_sliceAt_slice (P := P) (w := w) t (.slice (some ⟨g, off, none⟩) xn xc) (some (.int kl il)) none none ht
  refine wpList_plain hgd fun K hK => ?_
  unfold Oper.wp
  simp only [execOp, ho, hx, hlo, Option.map_some, Option.map_none, Sem.run_bind, hat, hrun, Result.andThen, Sem.run_pure, sliced]
  rw [if_neg (by omega), Nat.mul_one, addr_add]
  exact hK _ _ h
end
end Go.Proofs.Ytpkmdnfkeebgbaa
