/- What either Rule hands back, put alike; the two orders of moves are one. -/
import Derived.Test.YtfommmijojfdbaaGreatDoorF30
import Derived.Test.YtfommmijojfdbaaGreatDoorSP
import Derived.Test.YtfommmijojfdbaaGreatDoorX2
import Derived.Test.YtfommmijojfdbaaGreatDoorZ33
set_option linter.all false
namespace Go.Proofs.YtfommmijojfdbaaGreatDoor
open Go.RowKit

theorem OwnH.spo {lo hi : Nat} {W : World} {v : Value} {gs : List G} (h : OwnH 3 55 lo hi W v gs) : Spo lo hi W v gs := by
  obtain ⟨ps, rfl, _, ⟨cs, ho, hr⟩, h4, h5⟩ := h
  have h3 : App (fun W (p : G × Value) c => EGv 3 lo W p c ∧ ∀ k, p.2.ownBlock = some k → k < hi) 55 4 lo W v ps := ⟨cs, ho, hr.1, fun j g hj => ⟨hr.2 j g hj, h5 g (List.mem_of_getElem? hj)⟩⟩
  refine ⟨h3.mapf fun p cs ⟨⟨e, hp⟩, hq⟩ => ?_, h4⟩
  obtain ⟨A, c, e2, _⟩ := hp.form
  exact ⟨A, c, by rw [e, e2], by rw [← e2]; exact hp.clrI hq⟩
def RetU (l r : C) (ph er : Int) (w : World) (e : Ending) (w' : World) : Prop :=
  ∃ A1 c1 A2 c2 lo m n, e = .returned (.tuple #[.agg #[.int .i64 l.wires, .int .i64 l.bits, .slice A1 l.gates.length c1], .agg #[.int .i64 r.wires, .int .i64 r.bits, .slice A2 r.gates.length c2], .int .i64 ph, .int .i64 er]) ∧ OwnH 3 55 lo m w' (.slice A1 l.gates.length c1) l.gates ∧
    OwnH 3 55 n w'.heap.size w' (.slice A2 r.gates.length c2) r.gates ∧ w.heap.size ≤ lo ∧ lo ≤ m ∧ m ≤ n ∧ n ≤ w'.heap.size ∧ Below w.heap.size w w'
theorem OwnH.nil (lo : Nat) (W : World) : OwnH 3 55 lo lo W (.slice none 0 0) [] :=
  ⟨[], rfl, List.Pairwise.nil, App.nil _ _ _ _ _, (fun k hk => by cases hk), (fun p hp => by cases hp)⟩
theorem rule_both (i : Int) : ∃ (l r : C) (ph er : Int), (l.gates.length ≤ 1000000 ∧ ∀ g ∈ l.gates, g.wires.length ≤ 1000000) ∧ (r.gates.length ≤ 1000000 ∧ ∀ g ∈ r.gates, g.wires.length ≤ 1000000) ∧
    (∀ w, Hid (Laid w) → Calls Tryz.prog 39 #[.int .i64 i] w (RetU l r ph er w)) ∧ ∀ w, Calls Tryz.prog 40 #[.int .i64 i] w (RetU l r ph er w) := by
  by_cases hi : 0 ≤ i ∧ i < 43
  · obtain ⟨n, rfl⟩ := Int.eq_ofNat_of_zero_le hi.1
    have hn : n < 43 := by omega
    obtain ⟨k1, k2, _⟩ := rule_ok n (by omega)
    have K1 := okSide_of k1
    have K2 := okSide_of k2
    have key : ∀ (w : World) (e : Ending) (w' : World), RetRl n w e w' → RetU ⟨ruleW n, 0, ruleL n⟩ ⟨ruleW n, 0, ruleR n⟩ (ruleP n) 0 w e w' := fun w e w' ⟨A1, c1, A2, c2, lo, m, m2, h⟩ => ⟨A1, c1, A2, c2, lo, m, m2, h⟩
    exact ⟨⟨ruleW n, 0, ruleL n⟩, ⟨ruleW n, 0, ruleR n⟩, ruleP n, 0, ⟨by have := K1.1; simp; omega, fun g hg => by have := (K1.2 g hg).1; omega⟩, ⟨by have := K2.1; simp; omega, fun g hg => by have := (K2.2 g hg).1; omega⟩,
      fun w HT => (Rule_ok n hn w HT).mono (key w), fun w => (rRule_ok n hn w).mono (key w)⟩
  · have key : ∀ (w : World) (e : Ending) (w' : World), RetNo w e w' → RetU zeroC zeroC 0 1 w e w' := fun w e w' ⟨he, hb⟩ => ⟨none, 0, none, 0, w'.heap.size, w'.heap.size, w'.heap.size, he, OwnH.nil _ _, OwnH.nil _ _, hb.size, Nat.le_refl _, Nat.le_refl _, Nat.le_refl _, hb⟩
    exact ⟨zeroC, zeroC, 0, 1, ⟨by simp [zeroC], fun g hg => by simp [zeroC] at hg⟩, ⟨by simp [zeroC], fun g hg => by simp [zeroC] at hg⟩, fun w _ => (Rule_no i (by omega) w).mono (key w), fun w => (rRule_no i (by omega) w).mono (key w)⟩
theorem cmpL_lessW : ∀ xs ys : List Int, decide (cmpL xs ys < 0) = lessW xs ys
  | [], [] => by simp [cmpL, lessW]
  | [], _ :: _ => by simp [cmpL, lessW]
  | _ :: _, [] => by simp [cmpL, lessW]
  | x :: xs, y :: ys => by
    have ih := cmpL_lessW xs ys
    unfold cmpL lessW
    by_cases h : x = y
    · subst h
      rw [if_pos rfl, if_pos (by simp [cmpI])]
      exact ih
    · rw [if_neg h]
      unfold cmpI
      by_cases h1 : x < y
      · simp [h1]
      · have h2 : y < x := by omega
        simp [h1, h2]
theorem mless_eq (s t : M) : mless s t = lessM s t := by
  unfold mless lessM
  by_cases h1 : s.rule = t.rule
  · by_cases h2 : s.back = t.back
    · by_cases h3 : s.at_ = t.at_
      · rw [if_pos ⟨h1, h2, h3⟩, cmpL_lessW, if_neg (by simpa using h1), if_neg (by simpa using h2), if_neg (by simpa using h3)]
      · rw [if_neg (fun h => h3 h.2.2), if_neg (by simpa using h1), if_neg (by simpa using h2), if_pos h3]
        have e1 : cmpI s.rule t.rule = 0 := by simp [cmpI, h1]
        have e2 : bn s.back - bn t.back = 0 := by simp [h2]
        rw [e1, e2]
        simp only [orI, cmpI]
        by_cases h : s.at_ < t.at_
        · simp [h]
        · have : t.at_ < s.at_ := by omega
          simp [h, this]
    · rw [if_neg (fun h => h2 h.2.1), if_neg (by simpa using h1), if_pos h2]
      have e1 : cmpI s.rule t.rule = 0 := by simp [cmpI, h1]
      rw [e1]
      cases hs : s.back <;> cases ht : t.back <;> simp [hs, ht, orI, bn] at h2 ⊢
  · rw [if_neg (fun h => h1 h.1), if_pos h1]
    simp only [orI, cmpI]
    by_cases h : s.rule < t.rule
    · simp [h]
    · have : t.rule < s.rule := by omega
      simp [h, this]
end Go.Proofs.YtfommmijojfdbaaGreatDoor
