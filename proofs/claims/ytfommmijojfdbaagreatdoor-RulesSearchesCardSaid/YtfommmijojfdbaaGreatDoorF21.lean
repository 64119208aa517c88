/- The reference's rules: all lists of so many different wires. -/
import Derived.Test.YtfommmijojfdbaaGreatDoorSB
import Derived.Test.YtfommmijojfdbaaGreatDoorQ0
import Derived.Test.YtfommmijojfdbaaGreatDoorZ05
import Derived.Test.YtfommmijojfdbaaGreatDoorZ06
import Derived.Test.YtfommmijojfdbaaGreatDoorZ13
import Derived.Test.YtfommmijojfdbaaGreatDoorZ36
set_option linter.all false
namespace Go.Proofs.YtfommmijojfdbaaGreatDoor
open Go.RowKit

def someW (n : Nat) (l : List Int) : List (List Int) := (List.range n).flatMap fun (w : Nat) => if (w : Int) ∈ l then [] else [l ++ [(w : Int)]]
theorem someW_succ (n : Nat) (l : List Int) : someW (n + 1) l = someW n l ++ if (n : Int) ∈ l then [] else [l ++ [(n : Int)]] := by
  unfold someW
  rw [List.range_succ, List.flatMap_append]
  simp
theorem someW_len (n : Nat) (l : List Int) : (someW n l).length ≤ n := by
  have := extW_len n l
  unfold extW at this
  simpa [someW] using this
theorem extW_some (n : Nat) (l : List Int) : extW n l = someW n l := by unfold extW someW; simp
theorem App.rdL {ti T B B' : Nat} {w : World} {v : Value} {xs : List (List Int)} (h : App (ELo ti B) T 1 B' w v xs) (hl : xs.length ≤ 35184372088832) (hx : ∀ x ∈ xs, x.length ≤ 35184372088832) : ∃ A c, v = .slice A xs.length c ∧ xs.length ≤ c ∧ RdL w A xs := by
  obtain ⟨cs, ho, hr⟩ := h
  refine App.rd (E := EL) ⟨cs, ho, hr.1, fun j x hj => ?_⟩ hl
  obtain ⟨v, e, ha⟩ := hr.2 j x hj
  obtain ⟨A, c, rfl, hc, hr'⟩ := ha.rd (hx x (List.mem_of_getElem? hj))
  exact ⟨A, c, e, hc, hr'⟩

set_option maxRecDepth 100000 in
set_option maxHeartbeats 8000000 in
theorem rChoices_any (n m : Nat) (w : World) (hn : n ≤ 12) (hm : m ≤ 3) :
    Calls Tryz.prog 108 #[.int .i64 n, .int .i64 m] w fun e w' => ∃ A c, e = .returned (.slice A (choicesR n m).length c) ∧ RdL w' A (choicesR n m) ∧ Below w.heap.size w w' := by
  have hlen : ∀ k, k ≤ m → (choicesR n k).length ≤ 1728 := fun k hk => by
    have h1 := choicesR_len n k
    have h2 : n ^ k ≤ 12 ^ 3 := Nat.le_trans (Nat.pow_le_pow_left hn k) (Nat.pow_le_pow_right (by decide) (by omega))
    omega
  have HL := Lib.hid hlen
  clear hlen
  go_enter Tryz.func108, Tryz.ntmps108
  go_upto_region 2 with fail
  obtain ⟨W1, hW1⟩ : ∃ W1, w.alloc (.cells #[.slice none 0 0] 25) = W1 := ⟨_, rfl⟩
  have hb1 : Below w.heap.size w W1 := by rw [← hW1]; exact bl
  have p1 : W1.heap[w.heap.size]? = some (.cells #[.slice none 0 0] 25 (0, 0)) := by rw [← hW1]; exact heap_alloc_new _ _
  have hr1 : RdL W1 (some ⟨w.heap.size, 0, none⟩) (choicesR n 0) := by
    refine Rd.blk [[.slice none 0 0]] p1 rfl (by simp [choicesR]) rfl (by simp) fun k x cs hx hc => ?_
    rcases k with _ | k
    · cases hx; cases hc; exact ⟨_, _, rfl, Nat.le_refl _, Rd.nil _ _ _ _⟩
    · simp at hc
  have HS := Lib.hid (show ∃ A c, Value.slice (some ⟨w.heap.size, 0, none⟩) 1 1 = .slice A (choicesR n 0).length c ∧ RdL W1 A (choicesR n 0) from ⟨_, _, rfl, hr1⟩)
  rw [hW1]
  clear hW1 p1 hr1
  go_wp2
  go_loopw [5, 6, 8, 9, 12] (fun v _ _ _ i wr => ∃ k : Nat, k ≤ m ∧ i = .int .i64 k ∧ Hid (∃ A c, v = .slice A (choicesR n k).length c ∧ RdL wr A (choicesR n k)) ∧ Below w.heap.size w wr) (fun _ _ _ _ i _ => m - (intOf i).toNat)
  case atStart => exact ⟨0, Nat.zero_le _, rfl, HS, hb1⟩
  case round =>
    clear HS hb1 W1
    obtain ⟨k, hk, rfl, HO, hB⟩ := hrel
    rename World => wo
    obtain ⟨A, c, rfl, hrl⟩ := HO.out
    obtain ⟨L, hL⟩ : ∃ L, choicesR n k = L := ⟨_, rfl⟩
    have hLl := HL.out k hk
    rw [hL] at hrl hLl ⊢
    have HK := Lib.hid hL
    have HR := Lib.hid hrl
    clear hL hrl HO
    by_cases hlt : k < m
    · go_wp2
      go_loopw [6, 8, 9, 16] (fun v _ _ i wr => ∃ j : Nat, j ≤ L.length ∧ i = .int .i64 j ∧ Hid (App (ELo 3 wo.heap.size) 25 1 wo.heap.size wr v ((L.take j).flatMap (someW n))) ∧ Below wo.heap.size wo wr) (fun _ _ _ i _ => L.length - (intOf i).toNat)
      case atStart => exact ⟨0, Nat.zero_le _, rfl, Lib.hid (App.nil _ _ _ _ _), Below.refl _ _⟩
      case round =>
        obtain ⟨j, hj, rfl, HI, hB2⟩ := hrel
        rename World => wi
        by_cases hlt2 : j < L.length
        · obtain ⟨b, o, A2, c2, rfl, hx, hc2, hr2⟩ := HR.out.row j hlt2
          obtain ⟨l, hl⟩ : ∃ l, L[j] = l := ⟨_, rfl⟩
          rw [hl] at hx hc2 hr2
          replace hx := kc hB2 hx
          have hll : l.length ≤ 3 := by rw [← hl, choicesR_wires n k _ (HK.out ▸ List.getElem_mem hlt2)]; omega
          have HR2 := Lib.hid hr2
          have HJ := Lib.hid hl
          clear hl hr2
          go_wp2
          go_loopw [6, 9] (fun v i wr => ∃ x : Nat, x ≤ n ∧ i = .int .i64 x ∧ Hid (App (ELo 3 wo.heap.size) 25 1 wo.heap.size wr v ((L.take j).flatMap (someW n) ++ someW x l)) ∧ Below wo.heap.size wo wr) (fun _ i _ => n - (intOf i).toNat)
          case atStart => exact ⟨0, Nat.zero_le _, rfl, Lib.hid (by simpa [someW] using HI.out), hB2⟩
          case round =>
            clear HI
            obtain ⟨x, hxn, rfl, HA, hB3⟩ := hrel
            rename World => wr
            by_cases hlt3 : x < n
            · obtain ⟨q, hq⟩ : ∃ q, decide ((x : Int) ∈ l) = q := ⟨_, rfl⟩
              go_wp2_with fail
              refine (rHas_is A2 l.length c2 l x wr (HR2.out.bI hB3) rfl q hq).mono ?_
              rintro e w2 ⟨rfl, rfl⟩
              have HQ := Lib.hid hq
              clear hq
              cases q with
              | true =>
                go_wp2
                go_roundw
                case rel => exact ⟨x + 1, by omega, by go_num, Lib.hid (by rw [someW_succ, if_pos (by simpa using HQ.out), List.append_nil]; exact HA.out), hB3⟩
                case measure => simp [intOf]; omega
              | false =>
                obtain ⟨xs, hxs⟩ : ∃ xs, (L.take j).flatMap (someW n) ++ someW x l = xs := ⟨_, rfl⟩
                have hxl : xs.length ≤ 30000 := by
                  have h1 := fm_len (k := 12) (f := someW n) (l := L.take j) fun y _ => Nat.le_trans (someW_len n y) hn
                  have h2 := someW_len x l
                  rw [← hxs, List.length_append]
                  rw [List.length_take] at h1
                  have : min j L.length ≤ 1728 := by omega
                  omega
                have HX := Lib.hid hxs
                rw [hxs] at HA
                obtain ⟨A6, c6, rfl, _⟩ := HA.out.form
                clear hxs
                have hz := hB3.size
                have hb0 : Below wr.heap.size wr (wr.alloc (.cells #[] 3)) := bl
                have HE := Lib.hid (App.empty EI 3 1 wr.heap.size wr (Nat.le_refl _))
                go_wp2_with (first
                  | (at_builtin; refine wp_apps (E := EI) (E' := EI) (W := wr.alloc (.cells #[] 3)) EI.one (fun _ _ h => h) 3 1 wr.heap.size rfl _ _ 25 (.int .i64 0) 8 rfl Tryz.underlying25 (by kernel_rfl) rfl (by decide) (by decide) (.slice (some ⟨wr.heap.size, 0, none⟩) 0 0) [] l A2 c2 rfl rfl (HR2.out.bI (hB3.trans (hb0.mono hz))) HE.out hb0.size (by simp; omega) (fun _ _ _ _ _ _ _ h => h) ?_; intro v1 w1 ho1 hg1; rw [List.nil_append] at ho1; obtain ⟨A3, c3, rfl, _⟩ := ho1.form; have hb1 : Below wr.heap.size wr w1 := HE.out.grows hg1 hb0 (Nat.le_refl _) hb0.size; have HO := Lib.hid ho1; clear ho1 hg1 HE hb0)
                  | (at_builtin; have hb2 : Below w1.heap.size w1 (w1.alloc (.cells #[.int .i64 x] 3)) := bl; have hb3 := hb1.trans (hb2.mono hb1.size); refine wp_app (E := EI) (W := w1) 3 1 wr.heap.size rfl _ _ 25 (.int .i64 0) 8 rfl Tryz.underlying25 (by kernel_rfl) rfl (by decide) (by decide) (.slice A3 l.length c3) l (x : Int) [.int .i64 x] rfl rfl rfl (by simp [Value.oneCell']) rfl HO.out hb1.size (by omega) (fun _ _ _ _ _ _ _ h => h) ?_; intro v2 w2 ho2 hg2; obtain ⟨A4, c4, hv2, _⟩ := ho2.form; rw [List.length_append, List.length_singleton] at hv2; subst hv2; have hb4 : Below wr.heap.size wr w2 := HO.out.grows hg2 hb1 (Nat.le_refl _) hb1.size; have HO2 := Lib.hid ho2; clear ho2 hg2 hb2 hb3 hb1 HO)
                  | (at_builtin; refine wp_app (E := ELo 3 wo.heap.size) (W := w2) 25 1 wo.heap.size rfl _ _ 144 (.slice none 0 0) 24 rfl Tryz.underlying144 (by kernel_rfl) rfl (by decide) (by decide) (.slice A6 xs.length c6) xs (l ++ [(x : Int)]) [.slice A4 (l.length + 1) c4] rfl rfl rfl (by simp [Value.oneCell']) ⟨_, rfl, HO2.out.imp (by omega) fun _ _ h => h⟩ (HA.out.below (ELo.stays _ _) hb4) (by have := hb4.size; omega) (by omega) (fun w1 n cs hown hg x cs ⟨v, e, hv⟩ => ⟨v, e, hv.other hown hg (by decide)⟩) ?_; intro v4 w4 ho4 hg4; have HO4 := Lib.hid (And.intro ho4 ((HA.out.below (ELo.stays _ _) hb4).grows hg4 (hB3.trans (hb4.mono hz)) (Nat.le_refl _) (by have := hb4.size; omega))); clear ho4 hg4 hb4 HO2))
                go_roundw
                case rel => exact ⟨x + 1, by omega, by go_num, Lib.hid (by rw [someW_succ, if_neg (by simpa using HQ.out), ← List.append_assoc, HX.out]; exact HO4.out.1), HO4.out.2⟩
                case measure => simp [intOf]; omega
            · obtain rfl : x = n := by omega
              go_wp2
              go_roundw
              case rel => exact ⟨j + 1, by omega, by go_num, Lib.hid (by rw [List.take_succ_eq_append_getElem hlt2, List.flatMap_append, HJ.out]; simpa using HA.out), hB3⟩
              case measure => simp [intOf]; omega
        · obtain rfl : j = L.length := by omega
          have HN := Lib.hid (show choicesR n (k + 1) = L.flatMap (someW n) by rw [choicesR, HK.out]; exact fm_congr fun l _ => extW_some n l)
          have HA := Lib.hid (show App (ELo 3 wo.heap.size) 25 1 wo.heap.size wi u6 (choicesR n (k + 1)) by rw [HN.out]; have := HI.out; rwa [List.take_of_length_le (Nat.le_refl _)] at this)
          go_wp2
          go_roundw
          case rel =>
            have hl1 := HL.out (k + 1) hlt
            have hl2 := choicesR_wires n (k + 1)
            obtain ⟨A9, c9, e, _, hr⟩ := HA.out.rdL (by omega) (fun x hx => by rw [hl2 x hx]; omega)
            exact ⟨k + 1, by omega, by go_num, Lib.hid ⟨A9, c9, e, hr⟩, hB.trans (hB2.mono hB.size)⟩
          case measure => simp [intOf]; omega
    · obtain rfl : k = m := by omega
      have HR' := Lib.hid (show RdL wo A (choicesR n k) by rw [HK.out]; exact HR.out)
      have HZ := Lib.hid (congrArg List.length HK.out)
      go_wp2
      go_ret
      exact ⟨A, c, by rw [HZ.out]; rfl, HR'.out, hB⟩
end Go.Proofs.YtfommmijojfdbaaGreatDoor
