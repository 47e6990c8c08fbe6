/- The law's first(): beside leavers it answers true. Conditions stand as premises. -/
import Derived.Test.YtiobhgemjbjipaaPmPumpFront
set_option linter.unusedSimpArgs false
set_option linter.unusedVariables false
namespace Go.Proofs.Ytiobhgemjbjipaa
open Go.Conc Go.RowKit Go.Conc.Lib
variable {Old : Nat → Prop} {w : World} {Post : Value → World → Prop} {m : Nat} {b₀ : Frame} {a₀ : Act} {ops₀ : Array Oper} {i₀ : Nat} {rest₀ : List Nat} {k₀ : List Item} {cs : List Frame}
variable {w' : World}
theorem nm_gather : (Try.f9.name == "runtime.NumGoroutine") = false := by kernel_rfl
/-- A row in a block that is just made. -/
theorem SlOf.new {VS : List Value} {ty : TypeId} {fz : Nat × Nat} (hold : ∀ b, Old b → b < w.heap.size) (hl : VS.length ≤ maxLen) : SlOf Old (w.alloc (.cells VS.toArray ty fz)) (.slice (some ⟨w.heap.size, 0, none⟩) VS.length VS.length) VS := by
  refine ⟨_, _, rfl, Nat.le_refl _, hl, fun h => (by cases h), .inr ⟨w.heap.size, 0, rfl, by simp, fun x => by have := hold _ x; omega, fun k v hk => ?_⟩⟩
  have hn : (w.alloc (.cells VS.toArray ty fz)).heap[w.heap.size]? = some (.cells VS.toArray ty fz) := heap_alloc_new w _
  simp only [World.cell?, hn, Nat.zero_add]
  rw [List.getElem?_toArray]
  exact hk
theorem R1.new {bs : List Int} {ty : TypeId} {fz : Nat × Nat} (hold : ∀ b, Old b → b < w.heap.size) (hl : bs.length ≤ maxLen) (hb : IsB bs) : R1 Old (w.alloc (.cells (bs.map (Value.int .u8)).toArray ty fz)) (.slice (some ⟨w.heap.size, 0, none⟩) bs.length bs.length) bs := by
  have := SlOf.new (VS := bs.map (Value.int .u8)) (ty := ty) (fz := fz) hold (by simpa using hl)
  rw [List.length_map] at this
  exact ⟨this, hb⟩
theorem R2.new {VS : List Value} {M : List (List Int)} {ty : TypeId} {fz : Nat × Nat} (hold : ∀ b, Old b → b < w.heap.size) (hl : VS.length ≤ maxLen) (h : Al (R1 Old w) VS M) : R2 Old (w.alloc (.cells VS.toArray ty fz)) (.slice (some ⟨w.heap.size, 0, none⟩) VS.length VS.length) M :=
  ⟨VS, SlOf.new hold hl, h.imp fun _ _ x => x.ext (Ext.alloc Old w _)⟩
theorem R3.new {VS : List Value} {L : List (List (List Int))} {ty : TypeId} {fz : Nat × Nat} (hold : ∀ b, Old b → b < w.heap.size) (hl : VS.length ≤ maxLen) (h : Al (R2 Old w) VS L) : R3 Old (w.alloc (.cells VS.toArray ty fz)) (.slice (some ⟨w.heap.size, 0, none⟩) VS.length VS.length) L :=
  ⟨VS, SlOf.new hold hl, h.imp fun _ _ x => x.ext (Ext.alloc Old w _)⟩
theorem al_nil {α β : Type} {R : α → β → Prop} : Al R [] [] := ⟨rfl, fun k v x h => by simp at h⟩
theorem al_one {α β : Type} {R : α → β → Prop} {x : α} {y : β} (h : R x y) : Al R [x] [y] := by
  refine ⟨rfl, fun k v z h1 h2 => ?_⟩
  match k, h1, h2 with
  | 0, h1, h2 => simp at h1 h2; subst h1 h2; exact h
  | k + 1, h1, _ => simp at h1
theorem R3.nil : R3 Old w (.slice none 0 0) [] := ⟨[], ⟨none, 0, rfl, Nat.zero_le _, Nat.zero_le _, fun _ => rfl, .inl rfl⟩, al_nil⟩
theorem ev_mark {P : Program} {w : World} {t e : TypeId} {C : Array Value} {n c : Nat} (ht : P.underlying t = some (.slice e)) (he : P.underlying e = some (.int .u8)) :
    (convert t t (.slice (some ⟨w.heap.size, 0, none⟩) n c)).events P (w.alloc (.cells C e)) #[] = #[] := by
  simp [convert, run_underlying ht, run_underlying he, markStringish]
  split <;> simp
noncomputable def bodyOne : Code := (Try.f7).body.getD .skip
set_option maxRecDepth 100000 in
set_option maxHeartbeats 8000000 in
theorem first1_ok (hold : ∀ b, Old b → b < w.heap.size) (hm : m + 500 < 1000000)
    (hS : ∀ Old' w', Ext Old Old' w w' → (∀ b, Old' b → b < w'.heap.size) → Ok Try.prog Post Old' (m + 102 + 102) (G (b₀.at (a₀.put ((ops₀[i₀]?).bind (·.dst)) (.bool true)) (.inRegion ops₀ rest₀ :: k₀)) cs) w') :
    Ok Try.prog Post Old m (G ((base 7).at ⟨#[undef, undef, undef, undef, undef, undef, undef, undef, undef, undef, undef, undef, undef, undef, undef, undef, undef, undef, undef, undef, undef, undef, undef, undef, undef, undef, undef, undef, undef, undef], []⟩ [.code bodyOne]) ((b₀.at a₀ (.inRegion ops₀ (i₀ :: rest₀) :: k₀)) :: cs)) w := by
  simp only [bodyOne, Try.f7, Option.getD_some]
  refine Ok.step rfl (fun _ h₁ => ?_)
  obtain ⟨d, rfl⟩ := h₁
  rw [stepG_seq]
  simp only [goes_go]
  refine ⟨ok_none _, Ok.at ?_⟩
  clear d
  refine Ok.step rfl (fun _ h₁ => ?_)
  obtain ⟨d, rfl⟩ := h₁
  rw [stepG_region]
  simp only [goes_go, List.size_toArray, List.length_cons, List.length_nil, Nat.reduceAdd, Nat.zero_add, List.range, List.range.loop]
  refine ⟨ok_none _, Ok.at ?_⟩
  clear d
  refine Ok.step rfl (fun _ h₁ => ?_)
  obtain ⟨d, rfl⟩ := h₁
  refine goes_oper_k rfl rfl (by decide) (fun K hK => ?_)
  go_simp
  refine hK _ _ ⟨⟨Nat.le_refl _, fun e he => ?_⟩, Ok.at ?_⟩
  · have hm := mem_listed he
    simp [go_sem] at hm
  clear hK K d
  refine Ok.step rfl (fun _ h₁ => ?_)
  obtain ⟨d, rfl⟩ := h₁
  rw [stepG_region_end]
  simp only [goes_go]
  refine ⟨ok_none _, Ok.at ?_⟩
  clear d
  refine Ok.step rfl (fun _ h₁ => ?_)
  obtain ⟨d, rfl⟩ := h₁
  rw [stepG_seq]
  simp only [goes_go]
  refine ⟨ok_none _, Ok.at ?_⟩
  clear d
  refine Ok.step rfl (fun _ h₁ => ?_)
  obtain ⟨d, rfl⟩ := h₁
  rw [stepG_region]
  simp only [goes_go, List.size_toArray, List.length_cons, List.length_nil, Nat.reduceAdd, Nat.zero_add, List.range, List.range.loop]
  refine ⟨ok_none _, Ok.at ?_⟩
  clear d
  refine Ok.opv rfl rfl (by decide) (fun _ h₁ => ?_)
  obtain ⟨d, rfl⟩ := h₁
  refine ⟨.slice (some ⟨w.heap.size, 0, none⟩) 1 1, (w.at d).alloc (.cells #[.int .u8 109] 5), by simp [go_sem, execOp, World.at], by simp, fun e he => ?_, ?_⟩
  · simp [go_sem, execOp] at he
  rw [show (w.at d).alloc (.cells #[.int .u8 109] 5) = (w.alloc (.cells #[.int .u8 109] 5)).at d from rfl]
  refine Ok.at ?_
  clear d
  walk_nrm
  refine Ok.opv rfl rfl (by decide) (fun _ h₁ => ?_)
  obtain ⟨d, rfl⟩ := h₁
  have hcv : (convert 30 30 (.slice (some ⟨w.heap.size, 0, none⟩) 1 1)).run Try.prog ((w.alloc (.cells #[.int .u8 109] 5)).at d) = .ok (.slice (some ⟨w.heap.size, 0, none⟩) 1 1) ((w.alloc (.cells #[.int .u8 109] 5 (1, 2))).at d) :=
    Lib.run_convert_bytes_const (P := Try.prog) (w.at d) 30 5 #[.int .u8 109] 1 1 Try.underlying30 Try.underlying5
  refine ⟨_, _, run_v hcv, by simp [World.at], fun e he => ?_, ?_⟩
  · have he' : e ∈ (convert 30 30 (.slice (some ⟨w.heap.size, 0, none⟩) 1 1)).events Try.prog ((w.alloc (.cells #[.int .u8 109] 5)).at d) #[] := by
      rw [← ev_v hcv]; exact he
    rw [show (convert 30 30 (.slice (some ⟨w.heap.size, 0, none⟩) 1 1)).events Try.prog ((w.alloc (.cells #[.int .u8 109] 5)).at d) #[] = #[] from ev_mark (w := w.at d) Try.underlying30 Try.underlying5] at he'
    simp at he'
  refine Ok.at ?_
  clear hcv d
  have r1 : R1 Old (w.alloc (.cells #[.int .u8 109] 5 (1, 2))) (.slice (some ⟨w.heap.size, 0, none⟩) 1 1) [109] := R1.new (bs := [109]) hold (by decide) (fun x hx => by simp at hx; omega)
  have e1 : Ext Old Old w (w.alloc (.cells #[.int .u8 109] 5 (1, 2))) := Ext.alloc Old w _
  obtain ⟨w1, hw1⟩ : ∃ w1, w1 = w.alloc (.cells #[.int .u8 109] 5 (1, 2)) := ⟨_, rfl⟩
  rw [← hw1] at r1 e1 ⊢
  clear hw1
  have hold1 : ∀ b, Old b → b < w1.heap.size := fun b hb => by have := hold b hb; have := e1.size; omega
  walk_nrm
  refine Ok.opv rfl rfl (by decide) (fun _ h₁ => ?_)
  obtain ⟨d, rfl⟩ := h₁
  refine ⟨.slice (some ⟨w1.heap.size, 0, none⟩) 1 1, (w1.at d).alloc (.cells #[(.slice (some ⟨w.heap.size, 0, none⟩) 1 1)] 30), by simp [go_sem, execOp, World.at], by simp, fun e he => ?_, ?_⟩
  · simp [go_sem, execOp] at he
  rw [show (w1.at d).alloc (.cells #[(.slice (some ⟨w.heap.size, 0, none⟩) 1 1)] 30) = (w1.alloc (.cells #[(.slice (some ⟨w.heap.size, 0, none⟩) 1 1)] 30)).at d from rfl]
  refine Ok.at ?_
  clear d
  have r2 : R2 Old (w1.alloc (.cells #[(.slice (some ⟨w.heap.size, 0, none⟩) 1 1)] 30)) (.slice (some ⟨w1.heap.size, 0, none⟩) 1 1) [[109]] := R2.new (VS := [(.slice (some ⟨w.heap.size, 0, none⟩) 1 1)]) hold1 (by show 1 ≤ maxLen; decide) (al_one r1)
  have e2 : Ext Old Old w (w1.alloc (.cells #[(.slice (some ⟨w.heap.size, 0, none⟩) 1 1)] 30)) := e1.trans (Ext.alloc Old w1 _)
  obtain ⟨w2, hw2⟩ : ∃ w2, w2 = w1.alloc (.cells #[(.slice (some ⟨w.heap.size, 0, none⟩) 1 1)] 30) := ⟨_, rfl⟩
  rw [← hw2] at r2 e2 ⊢
  clear hw2
  have hold2 : ∀ b, Old b → b < w2.heap.size := fun b hb => by have := hold b hb; have := e2.size; omega
  walk_nrm
  refine Ok.opv rfl rfl (by decide) (fun _ h₁ => ?_)
  obtain ⟨d, rfl⟩ := h₁
  refine ⟨.slice (some ⟨w2.heap.size, 0, none⟩) 1 1, (w2.at d).alloc (.cells #[(.slice (some ⟨w1.heap.size, 0, none⟩) 1 1)] 29), by simp [go_sem, execOp, World.at], by simp, fun e he => ?_, ?_⟩
  · simp [go_sem, execOp] at he
  rw [show (w2.at d).alloc (.cells #[(.slice (some ⟨w1.heap.size, 0, none⟩) 1 1)] 29) = (w2.alloc (.cells #[(.slice (some ⟨w1.heap.size, 0, none⟩) 1 1)] 29)).at d from rfl]
  refine Ok.at ?_
  clear d
  have r3 : R3 Old (w2.alloc (.cells #[(.slice (some ⟨w1.heap.size, 0, none⟩) 1 1)] 29)) (.slice (some ⟨w2.heap.size, 0, none⟩) 1 1) [[[109]]] := R3.new (VS := [(.slice (some ⟨w1.heap.size, 0, none⟩) 1 1)]) hold2 (by show 1 ≤ maxLen; decide) (al_one r2)
  have e3 : Ext Old Old w (w2.alloc (.cells #[(.slice (some ⟨w1.heap.size, 0, none⟩) 1 1)] 29)) := e2.trans (Ext.alloc Old w2 _)
  obtain ⟨w3, hw3⟩ : ∃ w3, w3 = w2.alloc (.cells #[(.slice (some ⟨w1.heap.size, 0, none⟩) 1 1)] 29) := ⟨_, rfl⟩
  rw [← hw3] at r3 e3 ⊢
  clear hw3
  have hold3 : ∀ b, Old b → b < w3.heap.size := fun b hb => by have := hold b hb; have := e3.size; omega
  walk_nrm
  refine Ok.step rfl (fun _ h₁ => ?_)
  obtain ⟨d, rfl⟩ := h₁
  refine goes_call rfl rfl (by decide) rfl Try.func9 nm_gather rfl ⟨ok_none _, Ok.at ?_⟩
  clear d
  walk_nrmf Try.f9
  refine gather_ok r3 (by refine ⟨by decide, fun row hr => ?_⟩; simp at hr; subst hr; exact ⟨by decide, fun bs hb => by simp at hb; subst hb; decide⟩) hold3 (by omega) (fun Old1 w4 G1 gl1 e4 hold4 hg1 hm1 => ?_)
  obtain rfl := merge_one hm1
  clear hm1
  walk_nrm
  refine Ok.step rfl (fun _ h₁ => ?_)
  obtain ⟨d, rfl⟩ := h₁
  refine goes_oper_k rfl rfl (by decide) (fun K hK => ?_)
  go_simp
  refine hK _ _ ⟨⟨Nat.le_refl _, fun e he => ?_⟩, Ok.at ?_⟩
  · have hm := mem_listed he
    simp [go_sem] at hm
  clear hK K d
  refine Ok.step rfl (fun _ h₁ => ?_)
  obtain ⟨d, rfl⟩ := h₁
  rw [stepG_region_end]
  simp only [goes_go]
  refine ⟨ok_none _, Ok.at ?_⟩
  clear d
  refine Ok.step rfl (fun _ h₁ => ?_)
  obtain ⟨d, rfl⟩ := h₁
  rw [stepG_seq]
  simp only [goes_go]
  refine ⟨ok_none _, Ok.at ?_⟩
  clear d
  refine Ok.step rfl (fun _ h₁ => ?_)
  obtain ⟨d, rfl⟩ := h₁
  rw [stepG_region]
  simp only [goes_go, List.size_toArray, List.length_cons, List.length_nil, Nat.reduceAdd, Nat.zero_add, List.range, List.range.loop]
  refine ⟨ok_none _, Ok.at ?_⟩
  clear d
  refine Ok.step rfl (fun _ h₁ => ?_)
  obtain ⟨d, rfl⟩ := h₁
  refine goes_call rfl rfl (by decide) rfl Try.func9 nm_gather rfl ⟨ok_none _, Ok.at ?_⟩
  clear d
  walk_nrmf Try.f9
  refine gather_ok R3.nil (by exact ⟨Nat.zero_le _, fun row hr => by cases hr⟩) hold4 (by omega) (fun Old2 w5 G2 gl2 e5 hold5 hg2 hm2 => ?_)
  obtain rfl := merge_nil hm2
  clear hm2
  obtain ⟨a1, c1, rfl, _⟩ := id hg1
  obtain ⟨a2, c2, rfl, _⟩ := id hg2
  obtain ⟨g, va, vc, rfl, hgb, hgo, hgk, hgv, hgr⟩ := (hg1.ext e5).at (i := 0) (k := 0) (bs := [109]) rfl
  have hk0 : w5.cell? ⟨g, 0, none⟩ = some (.int .i64 0) := hgk
  have hk1 : w5.cell? ⟨g, 1, none⟩ = some (.slice va 1 vc) := hgv
  have hgq : R1 Old2 w5 (.slice va 1 vc) [109] := hgr
  clear hgk hgv hg1 hg2 hgr
  walk_nrm
  refine Ok.step rfl (fun _ h₁ => ?_)
  obtain ⟨d, rfl⟩ := h₁
  refine goes_oper_k rfl rfl (by decide) (fun K hK => ?_)
  go_simp
  refine hK _ _ ⟨⟨Nat.le_refl _, fun e he => ?_⟩, Ok.at ?_⟩
  · have hm := mem_listed he
    simp [go_sem] at hm
  clear hK K d
  refine Ok.step rfl (fun _ h₁ => ?_)
  obtain ⟨d, rfl⟩ := h₁
  refine goes_oper_k rfl rfl (by decide) (fun K hK => ?_)
  go_simp
  refine hK _ _ ⟨⟨Nat.le_refl _, fun e he => ?_⟩, Ok.at ?_⟩
  · have hm := mem_listed he
    simp [go_sem] at hm
  clear hK K d
  refine Ok.step rfl (fun _ h₁ => ?_)
  obtain ⟨d, rfl⟩ := h₁
  refine goes_oper_k rfl rfl (by decide) (fun K hK => ?_)
  go_simp
  refine hK _ _ ⟨⟨Nat.le_refl _, fun e he => ?_⟩, Ok.at ?_⟩
  · have hm := mem_listed he
    simp [go_sem] at hm
  clear hK K d
  refine Ok.step rfl (fun _ h₁ => ?_)
  obtain ⟨d, rfl⟩ := h₁
  refine goes_oper_k rfl rfl (by decide) (fun K hK => ?_)
  go_simp
  refine hK _ _ ⟨⟨Nat.le_refl _, fun e he => ?_⟩, Ok.at ?_⟩
  · have hm := mem_listed he
    simp [go_sem] at hm
  clear hK K d
  refine Ok.step rfl (fun _ h₁ => ?_)
  obtain ⟨d, rfl⟩ := h₁
  refine goes_oper_k rfl rfl (by decide) (fun K hK => ?_)
  go_simp
  refine hK _ _ ⟨⟨Nat.le_refl _, fun e he => ?_⟩, Ok.at ?_⟩
  · have hm := mem_listed he
    simp [go_sem] at hm
  clear hK K d
  refine Ok.step rfl (fun _ h₁ => ?_)
  obtain ⟨d, rfl⟩ := h₁
  refine goes_oper_k rfl rfl (by decide) (fun K hK => ?_)
  go_simp
  refine hK _ _ ⟨⟨Nat.le_refl _, fun e he => ?_⟩, Ok.at ?_⟩
  · have hm := mem_listed he
    simp [go_sem] at hm
  clear hK K d
  refine Ok.step rfl (fun _ h₁ => ?_)
  obtain ⟨d, rfl⟩ := h₁
  refine goes_oper_k rfl rfl (by decide) (fun K hK => ?_)
  go_simp
  refine hK _ _ ⟨⟨Nat.le_refl _, fun e he => ?_⟩, Ok.at ?_⟩
  · have hm := mem_listed he
    simp [go_sem] at hm
  clear hK K d
  refine Ok.step rfl (fun _ h₁ => ?_)
  obtain ⟨d, rfl⟩ := h₁
  refine goes_oper_k rfl rfl (by decide) (fun K hK => ?_)
  go_simp
  refine hK _ _ ⟨⟨Nat.le_refl _, fun e he => ?_⟩, Ok.at ?_⟩
  · have hm := mem_listed he
    simp [go_sem] at hm
  clear hK K d
  refine Ok.step rfl (fun _ h₁ => ?_)
  obtain ⟨d, rfl⟩ := h₁
  refine goes_oper_k rfl rfl (by decide) (fun K hK => ?_)
  go_simp
  refine hK _ _ ⟨⟨Nat.le_refl _, fun e he => ?_⟩, Ok.at ?_⟩
  · have hm := mem_listed he
    simp [go_sem] at hm
  clear hK K d
  refine Ok.step rfl (fun _ h₁ => ?_)
  obtain ⟨d, rfl⟩ := h₁
  refine goes_oper_k rfl rfl (by decide) (fun K hK => ?_)
  go_simp
  refine hK _ _ ⟨⟨Nat.le_refl _, fun e he => ?_⟩, Ok.at ?_⟩
  · have hm := mem_listed he
    simp [go_sem] at hm
  clear hK K d
  refine Ok.step rfl (fun _ h₁ => ?_)
  obtain ⟨d, rfl⟩ := h₁
  refine goes_oper_k rfl rfl (by decide) (fun K hK => ?_)
  go_simp
  refine hK _ _ ⟨⟨Nat.le_refl _, fun e he => ?_⟩, Ok.at ?_⟩
  · have hm := mem_listed he
    simp [go_sem] at hm
  clear hK K d
  refine Ok.step rfl (fun _ h₁ => ?_)
  obtain ⟨d, rfl⟩ := h₁
  refine goes_oper_k rfl rfl (by decide) (fun K hK => ?_)
  have f0 : (w5.at d).cell? ⟨g, 0, none⟩ = some (.int .i64 0) := hk0
  go_simp
  refine hK _ _ ⟨⟨Nat.le_refl _, fun e he => ?_⟩, Ok.at ?_⟩
  · have hm := mem_listed he
    simp [go_sem, f0] at hm
    subst hm
    exact evO_cell hgb hgo
  clear hK K f0 d
  refine Ok.step rfl (fun _ h₁ => ?_)
  obtain ⟨d, rfl⟩ := h₁
  refine goes_oper_k rfl rfl (by decide) (fun K hK => ?_)
  go_simp
  refine hK _ _ ⟨⟨Nat.le_refl _, fun e he => ?_⟩, Ok.at ?_⟩
  · have hm := mem_listed he
    simp [go_sem] at hm
  clear hK K d
  refine Ok.step rfl (fun _ h₁ => ?_)
  obtain ⟨d, rfl⟩ := h₁
  refine goes_oper_k rfl rfl (by decide) (fun K hK => ?_)
  go_simp
  refine hK _ _ ⟨⟨Nat.le_refl _, fun e he => ?_⟩, Ok.at ?_⟩
  · have hm := mem_listed he
    simp [go_sem] at hm
  clear hK K d
  refine Ok.step rfl (fun _ h₁ => ?_)
  obtain ⟨d, rfl⟩ := h₁
  refine goes_oper_k rfl rfl (by decide) (fun K hK => ?_)
  go_simp
  refine hK _ _ ⟨⟨Nat.le_refl _, fun e he => ?_⟩, Ok.at ?_⟩
  · have hm := mem_listed he
    simp [go_sem] at hm
  clear hK K d
  refine Ok.step rfl (fun _ h₁ => ?_)
  obtain ⟨d, rfl⟩ := h₁
  refine goes_oper_k rfl rfl (by decide) (fun K hK => ?_)
  go_simp
  refine hK _ _ ⟨⟨Nat.le_refl _, fun e he => ?_⟩, Ok.at ?_⟩
  · have hm := mem_listed he
    simp [go_sem] at hm
  clear hK K d
  refine Ok.step rfl (fun _ h₁ => ?_)
  obtain ⟨d, rfl⟩ := h₁
  refine goes_oper_k rfl rfl (by decide) (fun K hK => ?_)
  go_simp
  refine hK _ _ ⟨⟨Nat.le_refl _, fun e he => ?_⟩, Ok.at ?_⟩
  · have hm := mem_listed he
    simp [go_sem] at hm
  clear hK K d
  refine Ok.step rfl (fun _ h₁ => ?_)
  obtain ⟨d, rfl⟩ := h₁
  refine goes_oper_k rfl rfl (by decide) (fun K hK => ?_)
  go_simp
  refine hK _ _ ⟨⟨Nat.le_refl _, fun e he => ?_⟩, Ok.at ?_⟩
  · have hm := mem_listed he
    simp [go_sem] at hm
  clear hK K d
  refine Ok.step rfl (fun _ h₁ => ?_)
  obtain ⟨d, rfl⟩ := h₁
  refine goes_oper_k rfl rfl (by decide) (fun K hK => ?_)
  have f0 : (w5.at d).cell? ⟨g, 1, none⟩ = some (.slice va 1 vc) := hk1
  go_simp
  refine hK _ _ ⟨⟨Nat.le_refl _, fun e he => ?_⟩, Ok.at ?_⟩
  · have hm := mem_listed he
    simp [go_sem, f0] at hm
    subst hm
    exact evO_cell hgb hgo
  clear hK K f0 d
  refine Ok.opv rfl rfl (by decide) (fun _ h₁ => ?_)
  obtain ⟨d, rfl⟩ := h₁
  have hcb := conv_bytes (w := w5.at d) (Old := Old2) Try.underlying30 Try.underlying5 Try.underlying9 (hgq.ext ((Ext.refl Old2 w5).at d))
  refine ⟨.string (strOfNums [109]), w5.at d, run_v hcb.1, Nat.le_refl _, fun e he => ?_, Ok.at ?_⟩
  · have he' : e ∈ (convert 30 9 (.slice va 1 vc)).events Try.prog (w5.at d) #[] := by
      rw [← ev_v hcb.1]; exact he
    exact hcb.2 e he'
  clear hcb d
  walk_nrm
  have hsq : ((strOfNums [109]).toList == [109]) = true := by rw [ByteArray.toList_eq]; decide
  refine Ok.step rfl (fun _ h₁ => ?_)
  obtain ⟨d, rfl⟩ := h₁
  refine goes_oper_k rfl rfl (by decide) (fun K hK => ?_)
  have f0 := hsq
  go_simp
  refine hK _ _ ⟨⟨Nat.le_refl _, fun e he => ?_⟩, Ok.at ?_⟩
  · have hm := mem_listed he
    simp [go_sem, f0] at hm
  clear hK K f0 d
  refine Ok.step rfl (fun _ h₁ => ?_)
  obtain ⟨d, rfl⟩ := h₁
  refine goes_oper_k rfl rfl (by decide) (fun K hK => ?_)
  go_simp
  refine hK _ _ ⟨⟨Nat.le_refl _, fun e he => ?_⟩, Ok.at ?_⟩
  · have hm := mem_listed he
    simp [go_sem] at hm
  clear hK K d
  refine Ok.step rfl (fun _ h₁ => ?_)
  obtain ⟨d, rfl⟩ := h₁
  refine goes_oper_k rfl rfl (by decide) (fun K hK => ?_)
  go_simp
  refine hK _ _ ⟨⟨Nat.le_refl _, fun e he => ?_⟩, Ok.at ?_⟩
  · have hm := mem_listed he
    simp [go_sem] at hm
  clear hK K d
  refine Ok.step rfl (fun _ h₁ => ?_)
  obtain ⟨d, rfl⟩ := h₁
  rw [stepG_region_end]
  simp only [goes_go]
  refine ⟨ok_none _, Ok.at ?_⟩
  clear d
  refine Ok.step rfl (fun _ h₁ => ?_)
  obtain ⟨d, rfl⟩ := h₁
  rw [stepG_ret']
  simp only [goes_go]
  refine ⟨ok_none _, Ok.at ?_⟩
  clear d
  refine Ok.step rfl (fun _ h₁ => ?_)
  obtain ⟨d, rfl⟩ := h₁
  refine goes_leave1 rfl rfl Try.func7 rfl ⟨ok_none _, Ok.at ?_⟩
  clear d
  walk_nrm
  exact hS _ _ (e3.trans (e4.trans e5)) hold5
end Go.Proofs.Ytiobhgemjbjipaa
