/- The reference's fitting steps are the program's, in plain Lean. -/
import Derived.Test.YtfommmijojfdbaaGreatDoorZ30
import Derived.Test.YtfommmijojfdbaaGreatDoorF20
import Derived.Test.YtfommmijojfdbaaGreatDoorQ0
set_option linter.all false
namespace Go.Proofs.YtfommmijojfdbaaGreatDoor
open Go.RowKit

/-- A list of wires says what is known. -/
def Agp (b z : List Int) : Prop := ∀ j, j < 3 → 0 ≤ b.getD j 0 → j < z.length ∧ z.getD j 0 = b.getD j 0
def agB (b z : List Int) : Bool := (List.range 3).all fun j => decide (b.getD j 0 < 0) || (decide (j < z.length) && decide (z.getD j 0 = b.getD j 0))
theorem agB_iff {b z : List Int} : agB b z = true ↔ Agp b z := by
  unfold agB Agp
  simp only [List.all_eq_true, List.mem_range, Bool.or_eq_true, Bool.and_eq_true, decide_eq_true_eq]
  exact ⟨fun h j hj h0 => (h j hj).resolve_left (by omega), fun h j hj => by
    by_cases h0 : b.getD j 0 < 0
    · exact .inl h0
    · exact .inr (h j hj (by omega))⟩
theorem take_last {p z : List Int} {w : Int} (h : z.take (p.length + 1) = p ++ [w]) : p.length < z.length ∧ z.getD p.length 0 = w := by
  have h1 : (z.take (p.length + 1))[p.length]? = some w := by rw [h]; simp
  rw [List.getElem?_take_of_lt (by omega)] at h1
  have h2 := (List.getElem?_eq_some_iff.1 h1).1
  exact ⟨h2, by rw [List.getD_eq_getElem?_getD, h1]; rfl⟩
theorem take_sn {b : List Int} {k : Nat} (h : k < b.length) : b.take (k + 1) = b.take k ++ [b.getD k 0] := by
  rw [List.take_succ_eq_append_getElem h, List.getD_eq_getElem?_getD, List.getElem?_eq_getElem h]
  rfl
theorem getD_set_i (b : List Int) (k j : Nat) (w : Int) (h : k < b.length) : (b.set k w).getD j 0 = if j = k then w else b.getD j 0 := by
  rw [List.getD_eq_getElem?_getD, List.getElem?_set]
  by_cases e : k = j
  · subst e; simp [h]
  · rw [if_neg e, if_neg (fun e' => e e'.symm), List.getD_eq_getElem?_getD]
theorem filter_none {α : Type} {l : List α} {p : α → Bool} (h : ∀ x ∈ l, p x = true → False) : l.filter p = [] :=
  List.filter_eq_nil_iff.2 fun x hx hp => h x hx hp
theorem choose_gen {c : C} {i : Nat} {back : Bool} {at_ : Nat} : ∀ (f k : Nat) (b : List Int), BOk c b → k + f ≤ 3 → (∀ x ∈ b.take k, 0 ≤ x) → (∀ j, k + f ≤ j → j < 3 → b.getD j 0 < 0) →
    (chooseL c i back at_ f k b).map Prod.fst = (((genF c.wires f (b.take k)).filter (agB b)).map fun z => (⟨i, at_, back, z⟩ : M)).filter fun s => decide ((stepR c s).1 = 0)
  | 0, k, b, hb, hk, hp, hj => by
    have hl := hb.len
    have ha : agB b (b.take k) = true := agB_iff.2 fun j hj3 h0 => by
      have hjk : j < k := by
        by_cases e : j < k
        · exact e
        · have := hj j (by omega) hj3; omega
      refine ⟨by rw [List.length_take]; omega, ?_⟩
      rw [List.getD_eq_getElem?_getD, List.getD_eq_getElem?_getD, List.getElem?_take_of_lt hjk]
    unfold chooseL
    rw [genF, List.filter_cons_of_pos ha, List.filter_nil, List.map_singleton]
    by_cases h : (stepR c ⟨i, at_, back, b.take k⟩).1 = 0
    · rw [if_pos h]; simp [h]
    · rw [if_neg h]; simp [h]
  | f + 1, k, b, hb, hk, hp, hj => by
    have hl := hb.len
    have hkl : k < b.length := by omega
    have hpl : (b.take k).length = k := by rw [List.length_take]; omega
    have hpn := nodup_of_apart hb.apart k hp
    have hpr : ∀ x ∈ b.take k, 0 ≤ x ∧ x < c.wires := fun x hx => ⟨hp x hx, hb.lt x (List.mem_of_mem_take hx)⟩
    have hext : ∀ w : Nat, w < c.wires.toNat → ¬ (w : Int) ∈ b.take k → ∀ z ∈ genF c.wires f (b.take k ++ [(w : Int)]), z.length = k + 1 + f ∧ z.Nodup ∧ k < z.length ∧ z.getD k 0 = w := by
      intro w hw hm z hz
      have hn' : (b.take k ++ [(w : Int)]).Nodup := by
        rw [List.nodup_append]
        exact ⟨hpn, by simp, fun a ha b hb e => hm (by rw [List.mem_singleton.1 hb] at e; exact e ▸ ha)⟩
      obtain ⟨h1, h2, h3, h4⟩ := genF_mem f _ z hz hn' fun x hx => by
        rcases List.mem_append.1 hx with hx | hx
        · exact hpr x hx
        · rw [List.mem_singleton.1 hx]; omega
      rw [List.length_append, List.length_singleton] at h1 h4
      obtain ⟨h5, h6⟩ := take_last h4
      rw [hpl] at h1 h5 h6
      exact ⟨h1, h2, h5, h6⟩
    unfold chooseL
    by_cases h0 : 0 ≤ b.getD k 0
    · rw [if_pos h0]
      have hsn := take_sn hkl
      have hpos : ∀ x ∈ b.take (k + 1), 0 ≤ x := fun x hx => by
        rw [hsn] at hx
        rcases List.mem_append.1 hx with hx | hx
        · exact hp x hx
        · rw [List.mem_singleton.1 hx]; exact h0
      rw [choose_gen f (k + 1) b hb (by omega) hpos (fun j h1 h2 => hj j (by omega) h2)]
      congr 2
      obtain ⟨y, hy⟩ : ∃ y : Nat, b.getD k 0 = (y : Int) := ⟨(b.getD k 0).toNat, by omega⟩
      have hymem : (y : Int) ∈ b := by
        rw [← hy, List.getD_eq_getElem?_getD, List.getElem?_eq_getElem hkl]
        exact List.getElem_mem hkl
      have hyw := hb.lt _ hymem
      have hyn : ¬ (y : Int) ∈ b.take k := by
        have := nodup_of_apart hb.apart (k + 1) hpos
        rw [hsn, List.nodup_append] at this
        intro hm
        exact this.2.2 _ hm _ (by rw [hy]; simp) rfl
      rw [hsn, hy, genF, List.filter_flatMap, fm_one (y := y) c.wires.toNat (by omega), if_neg hyn]
      intro w hw hne
      split
      · rfl
      · rename_i hm
        refine filter_none fun z hz ha => ?_
        obtain ⟨_, _, h5, h6⟩ := hext w hw hm z hz
        have := (agB_iff.1 ha k (by omega) h0).2
        rw [h6, hy] at this
        omega
    · rw [if_neg h0, genF, List.map_flatMap, List.filter_flatMap, List.map_flatMap, List.filter_flatMap]
      refine fm_congr fun w hw => ?_
      rw [List.mem_range] at hw
      by_cases hm : (w : Int) ∈ b
      · rw [if_pos hm]
        by_cases hm' : (w : Int) ∈ b.take k
        · rw [if_pos hm']; rfl
        · have hnone : (genF c.wires f (b.take k ++ [(w : Int)])).filter (agB b) = [] := filter_none fun z hz ha => by
            obtain ⟨h1, h2, h5, h6⟩ := hext w hw hm' z hz
            obtain ⟨j, hjl, hje⟩ := List.getElem_of_mem hm
            have hjd : b.getD j 0 = (w : Int) := by rw [List.getD_eq_getElem?_getD, List.getElem?_eq_getElem hjl, hje]; rfl
            have hjk : j ≠ k := fun e => by subst e; omega
            have hjk2 : ¬ j < k := fun e => hm' (by
              rw [← hje]
              exact List.mem_take_iff_getElem.2 ⟨j, by omega, rfl⟩)
            obtain ⟨h7, h8⟩ := agB_iff.1 ha j (by omega) (by omega)
            exact hjk (getD_inj h2 h7 h5 (by rw [h8, h6, hjd]))
          rw [if_neg hm', hnone]
          rfl
      · have hm' : ¬ (w : Int) ∈ b.take k := fun e => hm (List.mem_of_mem_take e)
        rw [if_neg hm, if_neg hm']
        have hb' := hb.set (k := k) (by omega) hm (by omega) (by omega)
        have hsn : (b.set k (w : Int)).take (k + 1) = b.take k ++ [(w : Int)] := by
          rw [take_sn (by simpa using hkl), getD_set_i _ _ _ _ hkl, if_pos rfl, List.take_set_of_le (Nat.le_refl k)]
        rw [choose_gen f (k + 1) _ hb' (by omega) (fun x hx => by
          rw [hsn] at hx
          rcases List.mem_append.1 hx with hx | hx
          · exact hp x hx
          · rw [List.mem_singleton.1 hx]; omega) (fun j h1 h2 => by
          rw [getD_set_i _ _ _ _ hkl, if_neg (by omega)]
          exact hj j (by omega) h2), hsn]
        congr 2
        refine List.filter_congr fun z hz => ?_
        obtain ⟨h1, h2, h5, h6⟩ := hext w hw hm' z hz
        rw [Bool.eq_iff_iff, agB_iff, agB_iff]
        constructor
        · intro H j hj3 hj0
          have hjk : j ≠ k := fun e => by subst e; omega
          have := H j hj3 (by rw [getD_set_i _ _ _ _ hkl, if_neg hjk]; exact hj0)
          rwa [getD_set_i _ _ _ _ hkl, if_neg hjk] at this
        · intro H j hj3 hj0
          by_cases e : j = k
          · subst e
            rw [getD_set_i _ _ _ _ hkl, if_pos rfl]
            exact ⟨h5, h6⟩
          · rw [getD_set_i _ _ _ _ hkl, if_neg e] at hj0 ⊢
            exact H j hj3 hj0

/-! ### What is there binds its wires -/
theorem bindW_ag {z : List Int} (hz : z.Nodup) (hz0 : ∀ x ∈ z, 0 ≤ x) (hz3 : z.length ≤ 3) : ∀ (xs b : List Int), b.length = 3 → (∀ x ∈ xs, 0 ≤ x ∧ x < z.length) → Agp b z → ∃ b', bindW b xs (onW z xs) = some b' ∧ b'.length = 3 ∧ Agp b' z
  | [], b, hb, _, h => ⟨b, by simp [bindW], hb, h⟩
  | x :: xs, b, hb, hx, h => by
    obtain ⟨hx0, hx1⟩ := hx x List.mem_cons_self
    have hx' := fun y hy => hx y (List.mem_cons_of_mem _ hy)
    have hxl : x.toNat < z.length := by omega
    have hmem : z.getD x.toNat 0 ∈ z := by rw [List.getD_eq_getElem?_getD, List.getElem?_eq_getElem hxl]; exact List.getElem_mem hxl
    have hy0 := hz0 _ hmem
    simp only [onW, List.map_cons, bindW]
    by_cases h1 : b.getD x.toNat 0 < 0 ∧ ¬ z.getD x.toNat 0 ∈ b
    · rw [if_pos h1]
      refine bindW_ag hz hz0 hz3 xs _ (by simpa using hb) hx' fun j hj h0 => ?_
      rw [getD_set_i _ _ _ _ (by omega)] at h0 ⊢
      by_cases e : j = x.toNat
      · subst e; rw [if_pos rfl]; exact ⟨hxl, rfl⟩
      · rw [if_neg e] at h0 ⊢; exact h j hj h0
    · rw [if_neg h1, if_neg]
      · exact bindW_ag hz hz0 hz3 xs b hb hx' h
      · intro hne
        by_cases h2 : b.getD x.toNat 0 < 0
        · have hm : z.getD x.toNat 0 ∈ b := Classical.not_not.1 fun e => h1 ⟨h2, e⟩
          obtain ⟨j, hjl, hje⟩ := List.getElem_of_mem hm
          have hjd : b.getD j 0 = z.getD x.toNat 0 := by rw [List.getD_eq_getElem?_getD, List.getElem?_eq_getElem hjl, hje]; rfl
          obtain ⟨h3, h4⟩ := h j (by omega) (by omega)
          have := getD_inj hz h3 hxl (by rw [h4, hjd])
          subst this
          omega
        · exact hne (h _ (by omega) (by omega)).2.symm
theorem bindG_ag {z : List Int} (hz : z.Nodup) (hz0 : ∀ x ∈ z, 0 ≤ x) (hz3 : z.length ≤ 3) : ∀ (l : List G) (r : List G) (b : List Int), b.length = 3 → (∀ g ∈ l, ∀ x ∈ g.wires, 0 ≤ x ∧ x < z.length) → Agp b z → ∃ b', bindG b l (l.map (onG z) ++ r) = some b' ∧ Agp b' z
  | [], r, b, hb, _, h => ⟨b, by simp [bindG], h⟩
  | g :: l, r, b, hb, hl, h => by
    obtain ⟨b1, e1, h1, h2⟩ := bindW_ag hz hz0 hz3 g.wires b hb (hl g List.mem_cons_self) h
    obtain ⟨b2, e2, h3⟩ := bindG_ag hz hz0 hz3 l r b1 h1 (fun g' hg => hl g' (List.mem_cons_of_mem _ hg)) h2
    refine ⟨b2, ?_, h3⟩
    simp only [List.map_cons, List.cons_append, bindG]
    rw [if_neg (by simp [onG]), show (onG z g).wires = onW z g.wires from rfl, e1]
    exact e2
theorem bindW_hi {n : Nat} : ∀ (xs ys b b' : List Int), b.length = 3 → (∀ x ∈ xs, 0 ≤ x ∧ x < n) → (∀ j, n ≤ j → j < 3 → b.getD j 0 < 0) → bindW b xs ys = some b' → b'.length = 3 ∧ ∀ j, n ≤ j → j < 3 → b'.getD j 0 < 0
  | [], _, b, b', hb, _, h, e => by unfold bindW at e; cases e; exact ⟨hb, h⟩
  | _ :: _, [], b, b', hb, _, h, e => by unfold bindW at e; cases e; exact ⟨hb, h⟩
  | x :: xs, y :: ys, b, b', hb, hx, h, e => by
    have hx' := fun y hy => hx y (List.mem_cons_of_mem _ hy)
    obtain ⟨hx0, hx1⟩ := hx x List.mem_cons_self
    unfold bindW at e
    split at e
    · refine bindW_hi xs ys _ b' (by simpa using hb) hx' (fun j h1 h2 => ?_) e
      by_cases hl : x.toNat < b.length
      · rw [getD_set_i _ _ _ _ hl, if_neg (by omega)]; exact h j h1 h2
      · rw [List.set_eq_of_length_le (by omega)]; exact h j h1 h2
    · split at e
      · cases e
      · exact bindW_hi xs ys b b' hb hx' h e
theorem bindG_hi {n : Nat} : ∀ (l r : List G) (b b' : List Int), b.length = 3 → (∀ g ∈ l, ∀ x ∈ g.wires, 0 ≤ x ∧ x < n) → (∀ j, n ≤ j → j < 3 → b.getD j 0 < 0) → bindG b l r = some b' → ∀ j, n ≤ j → j < 3 → b'.getD j 0 < 0
  | [], _, b, b', _, _, h, e => by unfold bindG at e; cases e; exact h
  | _ :: _, [], b, b', _, _, h, e => by unfold bindG at e; cases e; exact h
  | g :: l, g' :: r, b, b', hb, hl, h, e => by
    unfold bindG at e
    split at e
    · cases e
    · split at e
      · rename_i b1 h1
        obtain ⟨k1, k2⟩ := bindW_hi g.wires g'.wires b b1 hb (hl g List.mem_cons_self) h h1
        exact bindG_hi l r b1 b' k1 (fun z hz => hl z (List.mem_cons_of_mem _ hz)) k2 e
      · cases e
theorem stepR_there {c : C} {i at_ : Nat} {back : Bool} {z : List Int} (hat : at_ ≤ c.gates.length) (h : (stepR c ⟨i, at_, back, z⟩).1 = 0) : at_ + (fromG i back).length ≤ c.gates.length ∧ (i ≠ 43 → (fromG i back).map (onG z) = (c.gates.drop at_).take (fromG i back).length) := by
  unfold stepR at h
  dsimp only at h
  by_cases h43 : i = 43
  · subst h43
    have : (fromG 43 back).length = 0 := by cases back <;> decide
    exact ⟨by omega, fun e => absurd rfl e⟩
  · rw [if_neg (by omega)] at h
    simp only [Int.toNat_natCast] at h
    unfold stepN at h
    split at h
    · cases h
    · rename_i hn
      unfold notThere at hn
      simp only [Bool.or_eq_true, decide_eq_true_eq, not_or, Nat.not_lt, Bool.not_eq_true', decide_eq_false_iff_not, Classical.not_not] at hn
      unfold fromOn at hn
      simp only [List.length_map] at hn
      exact ⟨hn.1, fun _ => hn.2⟩
theorem ok_binds {c : C} {i at_ : Nat} {back : Bool} {z : List Int} (hi : i < 44) (hat : at_ ≤ c.gates.length) (hl : (z.length : Int) = ruleW i) (hn : z.Nodup) (h0 : ∀ x ∈ z, 0 ≤ x) (h : (stepR c ⟨i, at_, back, z⟩).1 = 0) :
    (∃ b, bindsR c (fromG i back) at_ = some b ∧ agB b z = true) ∧ kindsB c at_ (fromG i back) = true := by
  obtain ⟨h1, h2⟩ := stepR_there hat h
  have hw := (rule_ok i hi).2.2
  have hu : Agp unb z := fun j hj h => by
    rcases (show j = 0 ∨ j = 1 ∨ j = 2 by omega) with rfl | rfl | rfl <;> simp [unb] at h
  unfold bindsR kindsB
  rw [if_neg (by omega)]
  by_cases h43 : i = 43
  · subst h43
    have : fromG 43 back = [] := by cases back <;> decide
    rw [this]
    exact ⟨⟨unb, by simp [bindG], agB_iff.2 hu⟩, by simpa using hat⟩
  · have e := h2 h43
    obtain ⟨b, e1, e2⟩ := bindG_ag hn h0 (by omega) (fromG i back) ((c.gates.drop at_).drop (fromG i back).length) unb rfl (fun g hg x hx => by
      have := ((from_wires i hi back).2 g hg).2 x hx
      omega) hu
    rw [e, List.take_append_drop] at e1
    refine ⟨⟨b, e1, agB_iff.2 e2⟩, ?_⟩
    rw [← e, List.map_map]
    exact decide_eq_true ⟨h1, List.map_congr_left fun g _ => rfl⟩
theorem filter_map_of {α β : Type} {m : α → β} {p : α → Bool} {q : β → Bool} : ∀ {l : List α}, (∀ z ∈ l, q (m z) = true → p z = true) → ((l.filter p).map m).filter q = (l.map m).filter q
  | [], _ => rfl
  | z :: l, h => by
    have ih := filter_map_of (m := m) (p := p) (q := q) (l := l) fun x hx => h x (List.mem_cons_of_mem _ hx)
    cases hp : p z with
    | true => rw [List.filter_cons_of_pos hp, List.map_cons, List.map_cons, List.filter_cons, List.filter_cons, ih]
    | false =>
      have hq : ¬ q (m z) = true := fun e => by
        have := h z List.mem_cons_self e
        rw [hp] at this
        cases this
      rw [List.filter_cons_of_neg (by rw [hp]; decide), List.map_cons, List.filter_cons_of_neg hq, ih]
theorem moveE_gen {c : C} {i at_ : Nat} {back : Bool} {z : List Int} (hi : i < 44) (hf : fitB i back = true) (hat : at_ ≤ c.gates.length) (hl : (z.length : Int) = ruleW i) (hn : z.Nodup) (h0 : ∀ x ∈ z, 0 ≤ x ∧ x < c.wires) : moveE c ⟨i, at_, back, z⟩ = 0 := by
  unfold moveE
  dsimp only
  rw [if_neg (by omega), if_neg (by omega), Int.toNat_natCast, if_neg (by rw [hl]; simp), if_neg, if_neg, if_neg]
  · rintro ⟨h1, h2⟩
    exact fitB_43 hf ⟨by omega, h2⟩
  · rw [Classical.not_not]; exact hn
  · simp only [Bool.not_eq_false, List.all_eq_true, decide_eq_true_eq]
    exact h0
/-- The reference's steps at a place, and all of them. -/
def fitAt (c : C) (i : Nat) (back : Bool) (at_ : Nat) : List M :=
  if kindsB c at_ (fromG i back) = true then ((choicesR c.wires (ruleW i).toNat).map fun z => (⟨i, at_, back, z⟩ : M)).filter fun s => decide ((applyR c s).1 = 0) else []
def fitR (c : C) (i : Nat) (back : Bool) : List M := (List.range (c.gates.length + 1)).flatMap (fitAt c i back)
theorem nodup_le {z : List Int} {n : Int} (h3 : z.length ≤ 3) (hn : z.Nodup) (h0 : ∀ x ∈ z, 0 ≤ x ∧ x < n) : (z.length : Int) ≤ n ∨ z = [] := by
  match z, h3 with
  | [], _ => exact .inr rfl
  | [a], _ => have := h0 a (by simp); left; simp; omega
  | [a, b], _ =>
    have ha := h0 a (by simp)
    have hb := h0 b (by simp)
    simp at hn
    left; simp; omega
  | [a, b, c], _ =>
    have ha := h0 a (by simp)
    have hb := h0 b (by simp)
    have hc := h0 c (by simp)
    simp at hn
    left; simp; omega
theorem at_eq {c : C} {i : Nat} {back : Bool} (hi : i < 44) (hf : fitB i back = true) (hG : Good c) {at_ : Nat} (hat : at_ ≤ c.gates.length) : fitAt c i back at_ = (atL c i back at_).map Prod.fst := by
  have hw := (rule_ok i hi).2.2
  have hmem : ∀ z ∈ choicesR c.wires (ruleW i).toNat, (z.length : Int) = ruleW i ∧ z.Nodup ∧ ∀ x ∈ z, 0 ≤ x ∧ x < c.wires := fun z hz => by
    rw [choices_gen] at hz
    obtain ⟨h1, h2, h3, _⟩ := genF_mem _ _ z hz List.nodup_nil (fun x hx => by cases hx)
    rw [List.length_nil] at h1
    exact ⟨by omega, h2, h3⟩
  have hP : ((choicesR c.wires (ruleW i).toNat).map fun z => (⟨i, at_, back, z⟩ : M)).filter (fun s => decide ((applyR c s).1 = 0)) = ((choicesR c.wires (ruleW i).toNat).map fun z => (⟨i, at_, back, z⟩ : M)).filter fun s => decide ((stepR c s).1 = 0) := by
    refine List.filter_congr fun s hs => ?_
    obtain ⟨z, hz, rfl⟩ := List.mem_map.1 hs
    obtain ⟨h1, h2, h3⟩ := hmem z hz
    unfold applyR
    rw [if_pos (moveE_gen hi hf hat h1 h2 h3)]
  have hok : ∀ z ∈ choicesR c.wires (ruleW i).toNat, decide ((stepR c ⟨i, at_, back, z⟩).1 = 0) = true → (∃ b, bindsR c (fromG i back) at_ = some b ∧ agB b z = true) ∧ kindsB c at_ (fromG i back) = true := fun z hz h => by
    obtain ⟨h1, h2, h3⟩ := hmem z hz
    exact ok_binds hi hat h1 h2 (fun x hx => (h3 x hx).1) (of_decide_eq_true h)
  have hL : fitAt c i back at_ = ((choicesR c.wires (ruleW i).toNat).map fun z => (⟨i, at_, back, z⟩ : M)).filter fun s => decide ((stepR c s).1 = 0) := by
    unfold fitAt
    split
    · exact hP
    · rename_i hk
      exact (filter_none fun s hs h => by
        obtain ⟨z, hz, rfl⟩ := List.mem_map.1 hs
        exact hk (hok z hz h).2).symm
  rw [hL]
  unfold atL
  cases hb : bindsR c (fromG i back) at_ with
  | none =>
    exact filter_none fun s hs h => by
      obtain ⟨z, hz, rfl⟩ := List.mem_map.1 hs
      obtain ⟨⟨b, e, _⟩, _⟩ := hok z hz h
      rw [hb] at e; cases e
  | some b =>
    dsimp only
    by_cases hx : b = unb ∧ c.wires < ruleW i
    · rw [if_pos hx]
      refine filter_none fun s hs h => ?_
      obtain ⟨z, hz, rfl⟩ := List.mem_map.1 hs
      obtain ⟨h1, h2, h3⟩ := hmem z hz
      rcases nodup_le (by omega) h2 h3 with h | rfl
      · omega
      · simp at h1
        have := (good_iff.1 hG).1
        omega
    · rw [if_neg hx]
      have hbo := binds_ok hi hG hb
      have hhi : ∀ j, (ruleW i).toNat ≤ j → j < 3 → b.getD j 0 < 0 := by
        unfold bindsR at hb
        split at hb
        · cases hb
        · refine bindG_hi (n := (ruleW i).toNat) _ _ unb b rfl (fun g hg x hx => ?_) (fun j _ hj => ?_) hb
          · have := ((from_wires i hi back).2 g hg).2 x hx
            omega
          · rcases (show j = 0 ∨ j = 1 ∨ j = 2 by omega) with rfl | rfl | rfl <;> simp [unb]
      rw [choose_gen (ruleW i).toNat 0 b hbo (by omega) (fun x hx => by cases hx) (fun j h1 h2 => hhi j (by omega) h2), List.take_zero, ← choices_gen]
      refine (filter_map_of fun z hz h => ?_).symm
      obtain ⟨⟨b', e, ha⟩, _⟩ := hok z hz h
      rw [hb] at e
      cases e
      exact ha
theorem fit_eq {c : C} {i : Nat} {back : Bool} (hi : i < 44) (hf : fitB i back = true) (hG : Good c) : fitR c i back = (stepsL c i back).map Prod.fst := by
  unfold fitR stepsL
  rw [List.map_flatMap]
  exact fm_congr fun at_ h => at_eq hi hf hG (by have := List.mem_range.1 h; omega)
end Go.Proofs.YtfommmijojfdbaaGreatDoor
