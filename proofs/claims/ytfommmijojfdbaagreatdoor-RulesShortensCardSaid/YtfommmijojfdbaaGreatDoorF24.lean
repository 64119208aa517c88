/- The reference's rules: the first step that leaves fewer gates. -/
import Derived.Test.YtfommmijojfdbaaGreatDoorF22
import Derived.Test.YtfommmijojfdbaaGreatDoorZ37
set_option linter.all false
namespace Go.Proofs.YtfommmijojfdbaaGreatDoor
open Go.RowKit

/-- What a rule finds first. -/
def lessF (c : C) (i : Nat) : Option (M × C) := if lessB i = true then (stepsL c i false).head? else none
def shS (c : C) : M := ((shortest c).map Prod.fst).getD ⟨0, 0, false, []⟩
theorem shortest_43 (c : C) : shortest c = (List.range 43).findSome? (lessF c) := by
  have h : lessF c 43 = none := by unfold lessF; rw [if_neg (by decide)]
  have := range_find (lessF c) 43
  rw [h, Option.or_none] at this
  exact this
theorem lessF_none {c : C} {i : Nat} (hi : i < 44) (hG : Good c) (h : fitR c i false = []) : lessF c i = none := by
  unfold lessF
  split
  · rw [fit_eq hi (by unfold fitB; simp) hG] at h
    have : stepsL c i false = [] := by simpa using h
    rw [this]; rfl
  · rfl
theorem lessF_some {c : C} {i : Nat} {s : M} {l : List M} (hi : i < 44) (hl : lessB i = true) (hG : Good c) (h : fitR c i false = s :: l) : ∃ d, lessF c i = some (s, d) := by
  unfold lessF
  rw [if_pos hl]
  rw [fit_eq hi (by unfold fitB; simp) hG] at h
  cases hs : stepsL c i false with
  | nil => rw [hs] at h; cases h
  | cons x t =>
    rw [hs, List.map_cons] at h
    injection h with h1 h2
    exact ⟨x.2, by rw [← h1]; rfl⟩
theorem App.setI4 {ti B : Nat} {W : World} {v : Value} {xs : List Int} (h : App EI ti 1 B W v xs) {b : Nat} {x0 x1 x2 x3 u0 u1 u2 u3 : Value} {T' : TypeId} (hb : W.heap[b]? = some (.cells #[x0, x1, x2, x3] T' (0, 0))) (h1 : ti ≠ T') :
    App EI ti 1 B ((((W.setCell ⟨b, 0, none⟩ u0).setCell ⟨b, 1, none⟩ u1).setCell ⟨b, 2, none⟩ u2).setCell ⟨b, 3, none⟩ u3) v xs :=
  have h2 : (W.setCell ⟨b, 0, none⟩ u0).heap[b]? = some (.cells #[u0, x1, x2, x3] T' (0, 0)) := heap_setCell_same _ _ 0 _ _ _ hb
  have h3 : ((W.setCell ⟨b, 0, none⟩ u0).setCell ⟨b, 1, none⟩ u1).heap[b]? = some (.cells #[u0, u1, x2, x3] T' (0, 0)) := heap_setCell_same _ _ 1 _ _ _ h2
  have h4 : (((W.setCell ⟨b, 0, none⟩ u0).setCell ⟨b, 1, none⟩ u1).setCell ⟨b, 2, none⟩ u2).heap[b]? = some (.cells #[u0, u1, u2, x3] T' (0, 0)) := heap_setCell_same _ _ 2 _ _ _ h3
  have k1 : App EI ti 1 B (W.setCell ⟨b, 0, none⟩ u0) v xs := h.setT (a := ⟨b, 0, none⟩) hb h1 fun _ _ h => h
  have k2 : App EI ti 1 B ((W.setCell ⟨b, 0, none⟩ u0).setCell ⟨b, 1, none⟩ u1) v xs := k1.setT (a := ⟨b, 1, none⟩) h2 h1 fun _ _ h => h
  have k3 : App EI ti 1 B (((W.setCell ⟨b, 0, none⟩ u0).setCell ⟨b, 1, none⟩ u1).setCell ⟨b, 2, none⟩ u2) v xs := k2.setT (a := ⟨b, 2, none⟩) h3 h1 fun _ _ h => h
  k3.setT (a := ⟨b, 3, none⟩) h4 h1 fun _ _ h => h

set_option maxRecDepth 1000000 in
set_option maxHeartbeats 8000000 in
theorem rShorter_any (A : Option Addr) (k : Nat) (c : C) (w : World) (h : RdG w A c.gates) (hk : c.gates.length ≤ k) (hG : Good c) :
    Calls Tryz.prog 75 #[.agg #[.int .i64 c.wires, .int .i64 c.bits, .slice A c.gates.length k]] w fun e w' => ∃ v, e = .returned (.tuple #[.agg #[.int .i64 (shS c).rule, .int .i64 (shS c).at_, .bool (shS c).back, v], .bool (shortest c).isSome]) ∧ App EI 3 1 w.heap.size w' v (shS c).wires ∧ Below w.heap.size w w' := by
  have HG := Lib.hid (And.intro hG h)
  clear hG h
  go_enter Tryz.func75, Tryz.ntmps75
  go_upto_region 1 with fail
  obtain ⟨W1, hW1⟩ : ∃ W1, (w.alloc (.cells #[.int .i64 c.wires, .int .i64 c.bits, .slice A c.gates.length k] 24)).alloc (.cells #[.int .i64 0, .int .i64 0, .bool false, .slice none 0 0] 27) = W1 := ⟨_, rfl⟩
  have hb1 : Below w.heap.size w W1 := by rw [← hW1]; exact bl
  have p0 : W1.heap[w.heap.size]? = some (.cells #[.int .i64 c.wires, .int .i64 c.bits, .slice A c.gates.length k] 24 (0, 0)) := by rw [← hW1]; exact alloc_old (blk_alloc _ _ _ rfl)
  have p1 : W1.heap[w.heap.size + 1]? = some (.cells #[.int .i64 0, .int .i64 0, .bool false, .slice none 0 0] 27 (0, 0)) := by rw [← hW1]; exact blk_alloc _ _ _ (by simp)
  rw [hW1]
  clear hW1
  have HP := Lib.hid (And.intro p0 (And.intro p1 hb1))
  clear p0 p1 hb1
  go_wp2
  go_loopw [4, 5, 6] (fun r _ _ wr => ∃ i : Nat, i ≤ 43 ∧ r = .int .i64 i ∧ Hid ((List.range i).findSome? (lessF c) = none) ∧ Below W1.heap.size W1 wr) (fun r _ _ _ => 43 - (intOf r).toNat)
  case atStart => exact ⟨0, Nat.zero_le _, rfl, Lib.hid rfl, Below.refl _ _⟩
  case round =>
    obtain ⟨i, hi, rfl, HN, hB⟩ := hrel
    rename World => wr
    obtain ⟨a0, a1, a2, af⟩ := cells3 (blk2 hB HP.out.1)
    obtain ⟨b0, b1, b2, b3, bf⟩ := cells4 (blk2 hB HP.out.2.1)
    have la := blk_lt (blk2 hB HP.out.1)
    have lb := blk_lt (blk2 hB HP.out.2.1)
    have hz := hB.size
    by_cases hlt : i < 43
    · go_wp2_with fail
      refine (rRuled_any i hlt wr).mono ?_
      rintro e w2 ⟨A1, c1, A2, c2, rfl, _, _, _, _, hb⟩
      have hB2 := hB.trans (hb.mono hz)
      clear hb a0 a1 a2 af b0 b1 b2 b3 bf la lb
      obtain ⟨W3, hW3⟩ : ∃ W3, w2.alloc (.cells #[.int .i64 (ruleW i), .slice A1 (ruleL i).length c1, .slice A2 (ruleR i).length c2, .int .i64 (ruleP i)] 107) = W3 := ⟨_, rfl⟩
      have hB3 : Below W1.heap.size W1 W3 := by rw [← hW3]; exact below_alloc hB2 _
      have x3 : W3.heap[w2.heap.size]? = some (.cells #[.int .i64 (ruleW i), .slice A1 (ruleL i).length c1, .slice A2 (ruleR i).length c2, .int .i64 (ruleP i)] 107 (0, 0)) := by rw [← hW3]; exact blk_alloc _ _ _ rfl
      go_upto_region 5 with fail
      clear hW3
      obtain ⟨r0, r1, r2, r3, rf⟩ := cells4 x3
      obtain ⟨a0, a1, a2, af⟩ := cells3 (blk2 hB3 HP.out.1)
      clear x3 hB2
      have hk1 := (rule_wires i (by omega) _ (.inl rfl)).1
      have hk2 := (rule_wires i (by omega) _ (.inr rfl)).1
      by_cases hl : (ruleR i).length < (ruleL i).length
      · have hl' : ¬ ((ruleL i).length : Int) ≤ ((ruleR i).length : Int) := by omega
        have HL := Lib.hid (show lessB i = true by unfold lessB; exact decide_eq_true hl)
        have hc := rFitting_any A k c i false W3 (HG.out.2.bG (HP.out.2.2.trans (hB3.mono HP.out.2.2.size))) hk HG.out.1 (by omega)
        clear hl
        go_wp2_with fail
        refine hc.mono ?_
        clear hc
        rintro e w4 ⟨v, rfl, ho, hb⟩
        have hB4 := hB3.trans (hb.mono hB3.size)
        have hz3 := hB3.size
        clear hb r0 r1 r2 r3 rf a0 a1 a2 af
        obtain ⟨xs, hxs⟩ : ∃ xs, fitR c i false = xs := ⟨_, rfl⟩
        have hxl : xs.length ≤ 300000 := by
          rw [← hxs]
          have h1 := fm_len (k := 1728) (f := fitAt c i false) (l := List.range (c.gates.length + 1)) fun y _ => fitAt_len HG.out.1 (by omega)
          have h2 := HG.out.1.len
          rw [List.length_range] at h1
          unfold fitR
          omega
        rw [hxs] at ho
        obtain ⟨A', c', rfl, _, hrd⟩ := App.rd ho (by omega)
        have HO := Lib.hid (And.intro ho hrd)
        have HX := Lib.hid hxs
        clear ho hrd hxs
        cases xs with
        | nil =>
          simp only [List.length_nil]
          go_wp2
          go_roundw
          case rel => exact ⟨i + 1, by omega, by go_num, Lib.hid (by rw [range_find, HN.out, lessF_none (by omega) HG.out.1 HX.out]; rfl), hB4⟩
          case measure => simp [intOf]; omega
        | cons s t =>
          have HS := Lib.hid (show ∃ d, shortest c = some (s, d) by
            obtain ⟨d, hd⟩ := lessF_some (by omega) HL.out HG.out.1 HX.out
            exact ⟨d, by rw [shortest_43]; exact find_at hlt HN.out hd⟩)
          obtain ⟨b, o, cs, rfl, ⟨v, rfl, hv⟩, _, hcs⟩ := HO.out.2.2 0 s rfl
          obtain ⟨Av, cv, rfl, _⟩ := hv.form
          have g0 := hcs 0 _ rfl
          have g1 := hcs 1 _ rfl
          have g2 := hcs 2 _ rfl
          have g3 := hcs 3 _ rfl
          simp only [Nat.zero_mul, Nat.add_zero] at g0 g1 g2 g3
          obtain ⟨b0, b1, b2, b3, bf⟩ := cells4 (blk2 hB4 HP.out.2.1)
          have lb := blk_lt (blk2 hB4 HP.out.2.1)
          have HV := Lib.hid (And.intro hv (blk2 hB4 HP.out.2.1))
          have hlp : (0 : Int) < ((s :: t).length : Int) := by simp only [List.length_cons]; omega
          simp only [List.length_cons] at hlp hxl ⊢
          clear hcs hv
          go_wp2
          obtain ⟨d, hd⟩ := HS.out
          have e1 : shS c = s := by unfold shS; rw [hd]; rfl
          rw [e1, hd]
          have hBw := HP.out.2.2.trans (hB4.mono HP.out.2.2.size)
          refine bodyPost_ret (results_list (rs := [.cell 2 27, .tmp 3]) rfl (by simp) (.cell (w.heap.size + 1) 27 _ _ _ rfl (set4 HV.out.2) Tryz.underlying27 rfl (by kernel_rfl) (.tmp .nil))) rfl ⟨_, rfl, ?_, ?_⟩
          · exact (HV.out.1.imp (by have := HP.out.2.2.size; omega) fun _ _ h => h).setI4 HV.out.2 (by decide)
          · exact (((hBw.setCell bo _).setCell bo _).setCell bo _).setCell bo _
      · have hl' : ((ruleL i).length : Int) ≤ ((ruleR i).length : Int) := by omega
        have HL := Lib.hid (show lessF c i = none by unfold lessF lessB; rw [if_neg (by simpa using hl)])
        clear hl
        go_wp2
        go_roundw
        case rel => exact ⟨i + 1, by omega, by go_num, Lib.hid (by rw [range_find, HN.out, HL.out]; rfl), hB3⟩
        case measure => simp [intOf]; omega
    · obtain rfl : i = 43 := by omega
      have HS := Lib.hid (show shortest c = none by rw [shortest_43]; exact HN.out)
      go_wp2
      have e1 : shS c = ⟨0, 0, false, []⟩ := by unfold shS; rw [HS.out]; rfl
      rw [e1, HS.out]
      have hBw := HP.out.2.2.trans (hB.mono HP.out.2.2.size)
      refine bodyPost_ret (results_list (rs := [.cell 2 27, .tmp 3]) rfl (by simp) (.cell (w.heap.size + 1) 27 _ _ _ rfl (set4 (blk2 hB HP.out.2.1)) Tryz.underlying27 rfl (by kernel_rfl) (.tmp .nil))) rfl ⟨.slice none 0 0, rfl, App.nil _ _ _ _ _, ?_⟩
      exact (((hBw.setCell bo _).setCell bo _).setCell bo _).setCell bo _
end Go.Proofs.YtfommmijojfdbaaGreatDoor
