/- The first beside leavers: loops; regions that draw their order and only read, with calls; what the law's code reads. Conditions stand as premises. -/
import Derived.Test.YtiobhgemjbjipaaPmPumpOkC
import Derived.Test.YtiobhgemjbjipaaPmPumpFirst
import Derived.Lib.SlBytesConst
set_option linter.unusedSimpArgs false
set_option linter.unusedVariables false
namespace Go.Proofs.Ytiobhgemjbjipaa
open Go.Conc Go.RowKit Go.Conc.Lib
section
variable {P : Program} {Post : Value → World → Prop} {Old : Nat → Prop} {m : Nat} {b : Frame} {a : Act} {k : List Item} {cs : List Frame} {w : World} {ops : Array Oper} {md : Region.Mode}
/-- A LOOP. -/
theorem Ok.loop {c : Code} (I : Act → World → Prop) (μ : Act → World → Nat) (h₀ : I a w)
    (round : ∀ a w, I a w → (∀ a' w', I a' w' → μ a' w' < μ a w → Ok P Post Old m (G (b.at a' (.inLoop c :: k)) cs) w') → Ok P Post Old m (G (b.at a (.code c :: .inLoop c :: k)) cs) w) :
    Ok P Post Old m (G (b.at a (.code (.loop c) :: k)) cs) w := by
  have key : ∀ N a w, μ a w ≤ N → I a w → Ok P Post Old m (G (b.at a (.code c :: .inLoop c :: k)) cs) w := by
    intro N
    induction N with
    | zero => exact fun a w hμ hI => round a w hI fun a' w' _ h => absurd h (by omega)
    | succ N ih =>
      intro a w hμ hI
      refine round a w hI fun a' w' hI' h => Ok.step rfl fun w₁ h₁ => ?_
      rw [stepG_inLoop]
      exact ⟨ok_none _, (ih a' w' (by omega) hI').rel h₁⟩
  refine Ok.step rfl fun w₁ h₁ => ?_
  rw [stepG_loop]
  exact ⟨ok_none _, (key _ a w (Nat.le_refl _) h₀).rel h₁⟩
/-- A call that comes back with this value, the world as it was. -/
def Gives (P : Program) (Old : Nat → Prop) (w : World) (f : FuncId) (args : Array Value) (v : Value) : Prop :=
  ∃ fn c, P.funcs[f]? = some fn ∧ fn.body = some c ∧ ∀ (Post : Value → World → Prop) (m : Nat) (b₀ : Frame) (a₀ : Act) (ops₀ : Array Oper) (i₀ : Nat) (rest₀ : List Nat) (k₀ : List Item) (cs : List Frame),
    Ok P Post Old m (G (b₀.at (a₀.put ((ops₀[i₀]?).bind (·.dst)) v) (.inRegion ops₀ rest₀ :: k₀)) cs) w →
    Ok P Post Old m (G ((base f).at { tmps := args ++ Array.replicate (fn.ntmps - args.size) undef, defers := [] } [.code c]) ((b₀.at a₀ (.inRegion ops₀ (i₀ :: rest₀) :: k₀)) :: cs)) w
/-- In state a operation o leaves v in its temporary; the world is as it was. -/
def Yv (P : Program) (Old : Nat → Prop) (w : World) (ops : Array Oper) (o : Oper) (v : Value) (a : Act) : Prop :=
  (Region.wanted o (yielded ops a.tmps) = true ∧ ((∀ d, (execOp a.eval o).run P (w.at d) = .ok (.value v) (w.at d) ∧ ∀ e ∈ (execOp a.eval o).events P (w.at d) #[], EvO Old w.heap.size e) ∨
    ∃ f args, (∀ d, (execOp a.eval o).run P (w.at d) = .ok (.enter f args) (w.at d) ∧ (execOp a.eval o).events P (w.at d) #[] = #[]) ∧ Gives P Old w f args v)) ∨
  (Region.wanted o (yielded ops a.tmps) = false ∧ v = undef)
theorem Yv.of_same {o : Oper} {v : Value} {a a' : Act} (hy : Yv P Old w ops o v a) (he : execOp a'.eval o = execOp a.eval o)
    (hw : Region.wanted o (yielded ops a'.tmps) = Region.wanted o (yielded ops a.tmps)) : Yv P Old w ops o v a' := by
  unfold Yv at *
  rw [he, hw]
  exact hy
theorem Ok.yv {i : Nat} {rest : List Nat} {o : Oper} {v : Value} (ho : ops[i]? = some o) (hk : b.kind ≠ .early) (hy : Yv P Old w ops o v a)
    (h : Ok P Post Old m (G (b.at (a.put o.dst v) (.inRegion ops rest :: k)) cs) w) : Ok P Post Old m (G (b.at a (.inRegion ops (i :: rest) :: k)) cs) w := by
  rcases hy with ⟨hw, hv | ⟨f, args, hv, fn, c, hf, hb, hc⟩⟩ | ⟨hw, rfl⟩
  · refine Ok.opv ho hw hk fun w₁ h₁ => ?_
    obtain ⟨d, rfl⟩ := h₁
    exact ⟨v, w.at d, (hv d).1, Nat.le_refl _, (hv d).2, Ok.at h⟩
  · refine Ok.step rfl fun w₁ h₁ => ?_
    obtain ⟨d, rfl⟩ := h₁
    rw [stepG_enter ho hw hk (hv d).1, enter_at _ hf hb, listed_none (hv d).2]
    exact ⟨ok_none _, Ok.at (hc Post m b a ops i rest k cs (by rw [ho]; exact h))⟩
  · exact Ok.unwanted ho hw h
/-- Whatever order is picked from here on: each yields its value, and at last K. -/
def AnyO (P : Program) (Old : Nat → Prop) (w : World) (ops : Array Oper) (md : Region.Mode) (K : Act → Prop) : Nat → Array Bool → Act → Prop
  | 0, l, a => Region.ready md ops l = [] ∧ K a
  | fuel + 1, l, a => (Region.ready md ops l = [] → K a) ∧ ∀ i ∈ Region.ready md ops l, ∃ o v, ops[i]? = some o ∧ Yv P Old w ops o v a ∧ AnyO P Old w ops md K fuel (l.setIfInBounds i true) (a.put o.dst v)
variable {K : Act → Prop}
theorem anyO_first {i : Nat} {oi : Oper} {v : Value} (hi : ops[i]? = some oi) (hsel : ∀ (j : Nat) (o : Oper) cs b, ops[j]? = some o → o.op ≠ .select cs b) :
    ∀ (fuel : Nat) (l : Array Bool) (a : Act),
      (∀ j oj, ops[j]? = some oj → j ≠ i → l.getD j true = false → (∀ e ∈ oj.after, Region.binds md e = true → e.on ≠ i) → oi.apart ops oj = true) →
      i ∈ Region.ready md ops l → Yv P Old w ops oi v a → AnyO P Old w ops md K fuel (l.setIfInBounds i true) (a.put oi.dst v) → AnyO P Old w ops md K (fuel + 1) l a := by
  intro fuel
  induction fuel with
  | zero =>
    intro l a _ hr hy H
    refine ⟨fun h => (by rw [h] at hr; cases hr), fun j hj => ?_⟩
    by_cases hji : j = i
    · subst hji; exact ⟨oi, v, hi, hy, H⟩
    · have := ready_mono hj hji
      rw [H.1] at this
      cases this
  | succ fuel ih =>
    intro l a hfree hr hy H
    refine ⟨fun h => (by rw [h] at hr; cases hr), fun j hj => ?_⟩
    by_cases hji : j = i
    · subst hji; exact ⟨oi, v, hi, hy, H⟩
    · obtain ⟨oj, u, hoj, hyj, hn⟩ := H.2 j (ready_mono hj hji)
      obtain ⟨hjun, oj', hoj', hall⟩ := mem_ready.1 hj
      obtain rfl : oj' = oj := Option.some.inj (hoj'.symm.trans hoj)
      have hnot : ∀ e ∈ oj'.after, Region.binds md e = true → e.on ≠ i := fun e he hb heq => by
        have h1 := hall e he hb
        have h0 := (mem_ready.1 hr).1
        rw [heq] at h1
        rcases Nat.lt_or_ge i l.size with h' | h'
        · simp [h'] at h0 h1; rw [h0] at h1; cases h1
        · simp [Array.getElem?_eq_none h'] at h1
      obtain ⟨h1, h2, h3⟩ := Oper.apart_spec (hfree j oj' hoj hji hjun hnot)
      have hfree' : ∀ k ok, ops[k]? = some ok → k ≠ i → (l.setIfInBounds j true).getD k true = false →
          (∀ e ∈ ok.after, Region.binds md e = true → e.on ≠ i) → oi.apart ops ok = true := fun k ok hk hki hun hno => by
        refine hfree k ok hk hki ?_ hno
        by_cases hjk : j = k
        · subst hjk; exact hjun
        · rw [getD_set_ne true hjk] at hun; exact hun
      have hyj' : Yv P Old w ops oj' u a := hyj.of_same (execOp_put oj' (fun cs b => hsel j oj' cs b hoj) a oi.dst v h1).symm (wanted_put oj' a oi.dst v h1).symm
      have hyi' : Yv P Old w ops oi v (a.put oj'.dst u) := hy.of_same (execOp_put oi (fun cs b => hsel i oi cs b hi) a oj'.dst u h3) (wanted_put oi a oj'.dst u h3)
      refine ⟨oj', u, hoj, hyj', ih (l.setIfInBounds j true) (a.put oj'.dst u) hfree' (ready_mono hr (Ne.symm hji)) hyi' ?_⟩
      rw [Array.setIfInBounds_comm _ _ hji, ← Act.put_comm a v u h2]
      exact hn
/-- Take number i first. -/
theorem anyO_take {i : Nat} {oi : Oper} {v : Value} {fuel : Nat} {l : Array Bool} {a : Act} (hi : ops[i]? = some oi)
    (hs : Region.noSelect ops = true) (hf : Region.free md ops l i = true) (hr : (Region.ready md ops l).contains i = true)
    (hy : Yv P Old w ops oi v a) (h : AnyO P Old w ops md K fuel (l.setIfInBounds i true) (a.put oi.dst v)) : AnyO P Old w ops md K (fuel + 1) l a :=
  anyO_first hi (Region.noSelect_spec hs) fuel l a (Region.free_spec hi hf) (by simpa using hr) hy h
theorem anyO_done {l : Array Bool} {a : Act} (hr : Region.ready md ops l = []) (h : K a) : ∀ fuel, AnyO P Old w ops md K fuel l a
  | 0 => ⟨hr, h⟩
  | _ + 1 => ⟨fun _ => h, fun i hi => by rw [hr] at hi; cases hi⟩
theorem AnyO.ok (hk : b.kind ≠ .early) (hK : ∀ a, K a → Ok P Post Old m (G (b.at a (.inRegion ops [] :: k)) cs) w) :
    ∀ (fuel t : Nat) (l : Array Bool) (a : Act), AnyO P Old w ops md K fuel l a → Ok P Post Old m (G (b.at a (.inRegion ops (Region.linearise.go md ops fuel t l []) :: k)) cs) w := by
  intro fuel
  induction fuel with
  | zero => intro t l a h; simpa [Region.linearise.go] using hK _ h.2
  | succ fuel ih =>
    intro t l a h
    obtain ⟨h₀, h₁⟩ := h
    simp only [Region.linearise.go]
    change Ok P Post Old m (G (b.at a (.inRegion ops (match (Region.ready md ops l)[t % (Region.ready md ops l).length]? with
      | some i => Region.linearise.go md ops fuel (t / (Region.ready md ops l).length) (l.setIfInBounds i true) [i]
      | none => [].reverse) :: k)) cs) w
    cases hi : (Region.ready md ops l)[t % (Region.ready md ops l).length]? with
    | none =>
      have hnil : Region.ready md ops l = [] := by
        cases hr : Region.ready md ops l with
        | nil => rfl
        | cons x xs =>
          rw [hr] at hi
          have hlt : t % (x :: xs).length < (x :: xs).length := Nat.mod_lt _ (by simp)
          simp at hi
          simp at hlt
          omega
      simpa using hK _ (h₀ hnil)
    | some i =>
      simp only []
      rw [linearise_go_acc, List.reverse_singleton, List.singleton_append]
      obtain ⟨o, v, ho, hy, hn⟩ := h₁ i (List.mem_of_getElem? hi)
      exact Ok.yv ho hk hy (ih _ _ _ hn)
/-- A REGION THAT DRAWS ITS ORDER and only reads. -/
theorem Ok.vals {id : Nat} (hm : P.follows .mixedOrders = true) (hk : b.kind ≠ .early) (h : AnyO P Old w ops .any (fun a => Ok P Post Old m (G (b.at a (.inRegion ops [] :: k)) cs) w) ops.size (Array.replicate ops.size false) a) :
    Ok P Post Old m (G (b.at a (.code (.region id ops true) :: k)) cs) w := by
  refine Ok.step rfl fun w₁ h₁ => ?_
  obtain ⟨d, rfl⟩ := h₁
  rw [stepG_region_draw]
  refine ⟨⟨Nat.le_refl _, fun e he => by simp at he⟩, ?_⟩
  simp only [Region.schedule, hm, Bool.true_or, if_true]
  exact Ok.at (w := w) (d := (w.at d).drawn + 1) (AnyO.ok hk (fun _ x => x) _ _ _ _ h)
end
section
variable {Old Old' : Nat → Prop} {w w' : World} {a : Option Addr} {n c : Nat} {L : List (List (List Int))} {M : List (List Int)} {bs : List Int}
theorem evO_cell {B : Nat} {ad : Addr} {wr sy : Bool} (hb : ad.block < B) (ho : ¬ Old ad.block) : EvO Old B ⟨.cell ad, wr, sy⟩ := .inl ⟨ad, wr, sy, rfl, hb, ho⟩
theorem R3.len (h : R3 Old w (.slice a n c) L) : n = L.length := by
  obtain ⟨VS, h1, h2⟩ := h
  rw [h1.len, h2.1]
theorem R2.len (h : R2 Old w (.slice a n c) M) : n = M.length := by
  obtain ⟨VS, h1, h2⟩ := h
  rw [h1.len, h2.1]
theorem R1.len (h : R1 Old w (.slice a n c) bs) : n = bs.length := by
  rw [h.1.len, List.length_map]
theorem R3.at {i : Nat} {M : List (List Int)} (h : R3 Old w (.slice a n c) L) (hi : L[i]? = some M) : ∃ b off ra rc, a = some ⟨b, off, none⟩ ∧ b < w.heap.size ∧ ¬ Old b ∧ w.cell? ⟨b, off + i, none⟩ = some (.slice ra M.length rc) ∧ R2 Old w (.slice ra M.length rc) M := by
  obtain ⟨VS, h1, h2⟩ := h
  have hl : i < VS.length := by have := (List.getElem?_eq_some_iff.1 hi).1; have := h2.1; omega
  have hv := List.getElem?_eq_getElem hl
  have hr := h2.2 i _ _ hv hi
  obtain ⟨b, off, e, hb, ho, hc⟩ := h1.cell hv
  have hr' := hr
  obtain ⟨VS', ⟨ra, rc, e', _⟩, h4⟩ := hr
  rw [e', h4.1] at hc hr'
  exact ⟨b, off, ra, rc, e, hb, ho, hc, hr'⟩
theorem R2.at {i : Nat} {bs : List Int} (h : R2 Old w (.slice a n c) M) (hi : M[i]? = some bs) : ∃ b off ra rc, a = some ⟨b, off, none⟩ ∧ b < w.heap.size ∧ ¬ Old b ∧ w.cell? ⟨b, off + i, none⟩ = some (.slice ra bs.length rc) ∧ R1 Old w (.slice ra bs.length rc) bs := by
  obtain ⟨VS, h1, h2⟩ := h
  have hl : i < VS.length := by have := (List.getElem?_eq_some_iff.1 hi).1; have := h2.1; omega
  have hv := List.getElem?_eq_getElem hl
  have hr := h2.2 i _ _ hv hi
  obtain ⟨b, off, e, hb, ho, hc⟩ := h1.cell hv
  have hr' := hr
  obtain ⟨⟨ra, rc, e', _⟩, _⟩ := hr
  rw [e', List.length_map] at hc hr'
  exact ⟨b, off, ra, rc, e, hb, ho, hc, hr'⟩
/-- Few rows of few small messages. -/
def Light (L : List (List (List Int))) : Prop := L.length ≤ 6 ∧ ∀ row ∈ L, row.length ≤ 8 ∧ ∀ bs ∈ row, bs.length ≤ 20
theorem Light.sm (h : Light L) : Sm L := ⟨by have := h.1; omega, fun row hr => ⟨by have := (h.2 row hr).1; omega, fun bs hb => by have := (h.2 row hr).2 bs hb; omega⟩⟩
theorem take_all {α : Type} {P : α → Prop} {l : List α} {i : Nat} {x : α} (h : ∀ y ∈ l.take i, P y) (hi : l[i]? = some x) (hx : P x) : ∀ y ∈ l.take (i + 1), P y := by
  intro y hy
  rw [List.take_add_one, hi] at hy
  rcases List.mem_append.1 hy with hy | hy
  · exact h y hy
  · simp at hy; subst hy; exact hx
/-! ### bytes as a text -/
variable {P : Program}
theorem events_forIn_bytes {w : World} (f : Value → ByteArray → Sem (ForInStep ByteArray)) (hf : ∀ (n : Int) (r : ByteArray), (f (.int .u8 n) r).run P w = .ok (.yield (r.push (UInt8.ofNat n.toNat))) w)
    (he : ∀ (n : Int) (r : ByteArray) (es : Array Event), (f (.int .u8 n) r).events P w es = es) : ∀ (ns : List Int) (s : ByteArray) (es : Array Event), (forIn (ns.map (Value.int .u8)) s f).events P w es = es := by
  intro ns
  induction ns with
  | nil => intro s es; simp
  | cons n ns ih =>
    intro s es
    simp only [List.map_cons, List.forIn_cons, Sem.events_bind, hf, he, Result.evThen_ok]
    exact ih _ es
theorem conv_bytes (hs : P.underlying 30 = some (.slice 5)) (he : P.underlying 5 = some (.int .u8)) (hd : P.underlying 9 = some .string) (h : R1 Old w (.slice a n c) bs) :
    (convert 30 9 (.slice a n c)).run P w = .ok (.string (strOfNums bs)) w ∧ ∀ e ∈ (convert 30 9 (.slice a n c)).events P w #[], EvO Old w.heap.size e := by
  obtain rfl := h.len
  rcases hl : bs.length with _ | q
  · have hb : bs = [] := List.length_eq_zero_iff.1 hl
    subst hb
    cases a with
    | none => exact ⟨run_convert_bytes_nil w _ _ hs he 0 c _ hd, fun e hm => by simp [convert, run_underlying hs, run_underlying he, run_underlying hd, Conv.bytesToString] at hm⟩
    | some a =>
      refine ⟨?_, fun e hm => ?_⟩
      · rw [run_convert_bytes_string w _ _ _ _ 0 c hs he hd]
        simp [Conv.bytesToString, loadCells, loadCellsFrom]
        rfl
      · simp [convert, run_underlying hs, run_underlying he, run_underlying hd, Conv.bytesToString, loadCells, loadCellsFrom] at hm
  · rw [← hl]
    obtain ⟨b, off, rfl, hb, ho, hc0⟩ := h.1.cell (k := 0) (v := .int .u8 bs[0]) (by rw [List.getElem?_map, List.getElem?_eq_getElem (by omega)]; rfl)
    have hcell : ∀ i, i < bs.length → w.cell? ⟨b, off + i, none⟩ = some (.int .u8 (bs.getD i 0)) := fun i hi => by
      obtain ⟨b', off', e, _, _, hc⟩ := h.1.cell (k := i) (v := .int .u8 (bs.getD i 0)) (by rw [List.getElem?_map, List.getElem?_eq_getElem hi, List.getD_eq_getElem?_getD, List.getElem?_eq_getElem hi]; rfl)
      cases e
      exact hc
    refine ⟨run_convert_bytes_arg w _ _ hs he b off bs.length c bs rfl hcell _ hd, fun e hm => ?_⟩
    have hplain : ∀ j, (⟨b, off, none⟩ : Addr).add j = ⟨b, off + j, none⟩ := fun j => addr_add b off j
    have hload : (loadCells ⟨b, off, none⟩ bs.length).run P w = .ok (bs.map (Value.int .u8)).toArray w := by
      have := run_loadCells_list (P := P) w ⟨b, off, none⟩ (bs.map (Value.int .u8)) (fun j v hj => by
        have hjl : j < bs.length := by simpa using (List.getElem?_eq_some_iff.1 hj).1
        rw [hplain, hcell j hjl]
        simp [List.getElem?_eq_getElem hjl] at hj
        subst hj
        simp [List.getD, List.getElem?_eq_getElem hjl])
      simpa using this
    have hlev := events_loadCellsFrom_at (P := P) ⟨b, off, none⟩ (fun k => k = b) rfl bs.length 0 #[] w #[] (fun j hj => by rw [Nat.zero_add, hplain, hcell j hj]; rfl)
    simp only [convert, Sem.events_bind, run_underlying hs, run_underlying he, run_underlying hd, events_underlying, Result.evThen_ok, Conv.bytesToString, hload, List.forIn_toArray] at hm
    rw [events_forIn_bytes _ (by intro n r; simp [Sem.run_pure]) (by intro n r es; simp), run_forIn_bytes _ (by intro n r; simp [Sem.run_pure])] at hm
    simp only [Result.evThen_ok, Sem.events_pure] at hm
    rcases hlev e hm with h1 | ⟨ad, h1, h2, h3⟩
    · simp at h1
    · obtain ⟨loc, wr, sy⟩ := e
      simp only at h1 h2
      subst h1 h2
      exact evO_cell (by rw [h3]; exact hb) (by rw [h3]; exact ho)
theorem strOf_inj {xs ys : List Int} (hx : IsB xs) (hy : IsB ys) : ((strOfNums xs).toList == (strOfNums ys).toList) = decide (xs = ys) := by
  rw [Bool.eq_iff_iff, beq_iff_eq, decide_eq_true_iff]
  refine ⟨fun h => ?_, fun h => by rw [h]⟩
  have h1 : xs.map (fun n => UInt8.ofNat n.toNat) = ys.map (fun n => UInt8.ofNat n.toNat) := by
    rw [ByteArray.toList_eq, ByteArray.toList_eq] at h
    rw [← strOfNums_data, ← strOfNums_data, h]
  have key : ∀ {zs : List Int}, IsB zs → (zs.map fun n => UInt8.ofNat n.toNat).map (fun u => (u.toNat : Int)) = zs := by
    intro zs hz
    rw [List.map_map]
    refine (List.map_congr_left fun z hm => ?_).trans (List.map_id zs)
    have := hz z hm
    simp only [Function.comp, id]
    rw [UInt8.toNat_ofNat_of_lt' (by unfold UInt8.size; omega)]
    omega
  have h2 := congrArg (List.map fun u : UInt8 => (u.toNat : Int)) h1
  rwa [key hx, key hy] at h2
end
end Go.Proofs.Ytiobhgemjbjipaa
