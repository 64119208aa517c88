/- Lists of different wires, in order. -/
import Derived.Test.YtfommmijojfdbaaGreatDoorZ00
set_option linter.all false
namespace Go.Proofs.YtfommmijojfdbaaGreatDoor
open Go.RowKit

theorem fm_congr {α β : Type} {l : List α} {f g : α → List β} (h : ∀ x ∈ l, f x = g x) : l.flatMap f = l.flatMap g := by
  induction l with
  | nil => rfl
  | cons a l ih => rw [List.flatMap_cons, List.flatMap_cons, h a (by simp), ih fun x hx => h x (by simp [hx])]
theorem fm_none {α β : Type} {l : List α} {f : α → List β} (h : ∀ x ∈ l, f x = []) : l.flatMap f = [] := by
  rw [fm_congr h]; simp
theorem fm_one {β : Type} {y : Nat} {g : Nat → List β} : ∀ n : Nat, y < n → (∀ w, w < n → w ≠ y → g w = []) → (List.range n).flatMap g = g y
  | n + 1, hy, h => by
    rw [List.range_succ, List.flatMap_append]
    by_cases e : y = n
    · subst e
      rw [fm_none fun x hx => h x (by have := List.mem_range.1 hx; omega) (by have := List.mem_range.1 hx; omega)]
      simp
    · rw [fm_one n (by omega) fun w hw hne => h w (by omega) hne]
      simp [h n (by omega) (fun e' => e e'.symm)]

/-- All lists of so many different wires, in order. -/
def extW (n : Int) (l : List Int) : List (List Int) := (List.range n.toNat).flatMap fun (w : Nat) => if (w : Int) ∈ l then [] else [l ++ [(w : Int)]]
def choicesR (n : Int) : Nat → List (List Int)
  | 0 => [[]]
  | k + 1 => (choicesR n k).flatMap (extW n)
def genF (n : Int) : Nat → List Int → List (List Int)
  | 0, p => [p]
  | f + 1, p => (List.range n.toNat).flatMap fun (w : Nat) => if (w : Int) ∈ p then [] else genF n f (p ++ [(w : Int)])
theorem genF_succ (n : Int) : ∀ (f : Nat) (p : List Int), genF n (f + 1) p = (genF n f p).flatMap (extW n)
  | 0, p => by simp [genF, extW]
  | f + 1, p => by
    rw [genF, genF, List.flatMap_assoc]
    refine fm_congr fun w _ => ?_
    split
    · rfl
    · exact genF_succ n f _
theorem choices_gen (n : Int) : ∀ k, choicesR n k = genF n k []
  | 0 => rfl
  | k + 1 => by rw [genF_succ, choicesR, choices_gen]
theorem genF_mem {n : Int} : ∀ (f : Nat) (p z : List Int), z ∈ genF n f p → p.Nodup → (∀ x ∈ p, 0 ≤ x ∧ x < n) → z.length = p.length + f ∧ z.Nodup ∧ (∀ x ∈ z, 0 ≤ x ∧ x < n) ∧ z.take p.length = p
  | 0, p, z, h, hn, hp => by
    rw [genF, List.mem_singleton] at h
    subst h
    exact ⟨rfl, hn, hp, List.take_length⟩
  | f + 1, p, z, h, hn, hp => by
    rw [genF] at h
    obtain ⟨w, hw, h⟩ := List.mem_flatMap.1 h
    rw [List.mem_range] at hw
    split at h
    · cases h
    · rename_i hm
      have hn' : (p ++ [(w : Int)]).Nodup := by
        rw [List.nodup_append]
        exact ⟨hn, by simp, fun a ha b hb e => hm (by rw [List.mem_singleton.1 hb] at e; exact e ▸ ha)⟩
      obtain ⟨h1, h2, h3, h4⟩ := genF_mem f _ z h hn' fun x hx => by
        rcases List.mem_append.1 hx with hx | hx
        · exact hp x hx
        · rw [List.mem_singleton.1 hx]; omega
      rw [List.length_append, List.length_singleton] at h1 h4
      refine ⟨by omega, h2, h3, ?_⟩
      have := congrArg (List.take p.length) h4
      rw [List.take_take, Nat.min_eq_left (by omega)] at this
      rw [this, List.take_left']
      rfl
theorem fm_len {α β : Type} {f : α → List β} {k : Nat} : ∀ {l : List α}, (∀ x ∈ l, (f x).length ≤ k) → (l.flatMap f).length ≤ l.length * k
  | [], _ => by simp
  | a :: l, h => by
    rw [List.flatMap_cons, List.length_append, List.length_cons, Nat.succ_mul]
    have := fm_len (l := l) fun x hx => h x (List.mem_cons_of_mem _ hx)
    have := h a List.mem_cons_self
    omega
theorem extW_len (n : Nat) (l : List Int) : (extW n l).length ≤ n := by
  have := fm_len (k := 1) (f := fun (w : Nat) => if (w : Int) ∈ l then [] else [l ++ [(w : Int)]]) (l := List.range n) fun x _ => by split <;> simp
  unfold extW
  simpa using this
theorem choicesR_len (n : Nat) : ∀ m, (choicesR n m).length ≤ n ^ m
  | 0 => by simp [choicesR]
  | m + 1 => by
    have h1 := fm_len (k := n) (f := extW n) (l := choicesR n m) fun x _ => extW_len n x
    have h2 := choicesR_len n m
    have h3 := Nat.mul_le_mul_right n h2
    unfold choicesR
    rw [Nat.pow_succ]
    omega
theorem choicesR_wires (n : Nat) : ∀ m, ∀ z ∈ choicesR n m, z.length = m
  | 0, z, h => by simp [choicesR] at h; subst h; rfl
  | m + 1, z, h => by
    unfold choicesR extW at h
    obtain ⟨l, hl, h⟩ := List.mem_flatMap.1 h
    obtain ⟨w, _, h⟩ := List.mem_flatMap.1 h
    split at h
    · cases h
    · rw [List.mem_singleton] at h
      subst h
      simp [choicesR_wires n m l hl]
end Go.Proofs.YtfommmijojfdbaaGreatDoor
