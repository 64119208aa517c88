/- The reference's rules: all steps by a rule that can be done, in order. -/
import Derived.Test.YtfommmijojfdbaaGreatDoorF21
import Derived.Test.YtfommmijojfdbaaGreatDoorF20
import Derived.Test.YtfommmijojfdbaaGreatDoorQ4
import Derived.Test.YtfommmijojfdbaaGreatDoorZ26
import Derived.Test.YtfommmijojfdbaaGreatDoorZ31
import Derived.Test.YtfommmijojfdbaaGreatDoorZ33
set_option linter.all false
namespace Go.Proofs.YtfommmijojfdbaaGreatDoor
open Go.RowKit

theorem rChoices_is (n m : Int) (k : Nat) (w : World) (hn : 0 ≤ n ∧ n ≤ 12) (hm : m = k) (hk : k ≤ 3) :
    Calls Tryz.prog 108 #[.int .i64 n, .int .i64 m] w fun e w' => ∃ A c, e = .returned (.slice A (choicesR n k).length c) ∧ RdL w' A (choicesR n k) ∧ Below w.heap.size w w' := by
  obtain ⟨j, rfl⟩ : ∃ j : Nat, n = j := ⟨n.toNat, by omega⟩
  subst hm
  exact rChoices_any j k w (by omega) hk
theorem choicesR_small {n : Int} {k : Nat} (hn : 0 ≤ n ∧ n ≤ 12) (hk : k ≤ 3) : (choicesR n k).length ≤ 1728 := by
  obtain ⟨j, rfl⟩ : ∃ j : Nat, n = j := ⟨n.toNat, by omega⟩
  have h1 := choicesR_len j k
  have h2 : j ^ k ≤ 12 ^ 3 := Nat.le_trans (Nat.pow_le_pow_left (by omega) k) (Nat.pow_le_pow_right (by decide) (by omega))
  omega
theorem choicesR_w {n : Int} {k : Nat} (hn : 0 ≤ n) : ∀ z ∈ choicesR n k, z.length = k := by
  obtain ⟨j, rfl⟩ : ∃ j : Nat, n = j := ⟨n.toNat, by omega⟩
  exact choicesR_wires j k
def mkS (i : Nat) (back : Bool) (at_ : Nat) (z : List Int) : M := ⟨i, at_, back, z⟩
def okS (c : C) (s : M) : Bool := decide ((applyR c s).1 = 0)
theorem fitAt_len {c : C} {i : Nat} {back : Bool} {at_ : Nat} (hG : Good c) (hi : i < 44) : (fitAt c i back at_).length ≤ 1728 := by
  have hw := (rule_ok i hi).2.2
  have := choicesR_small (n := c.wires) (k := (ruleW i).toNat) (by have := (good_iff.1 hG).1; omega) (by omega)
  unfold fitAt
  split
  · refine Nat.le_trans (List.length_filter_le _ _) ?_
    rwa [List.length_map]
  · simp
theorem fitAt_wires {c : C} {i : Nat} {back : Bool} {at_ : Nat} (hG : Good c) (hi : i < 44) : ∀ s ∈ fitAt c i back at_, s.wires.length ≤ 3 := fun s hs => by
  have hw := (rule_ok i hi).2.2
  unfold fitAt at hs
  split at hs
  · obtain ⟨z, hz, rfl⟩ := List.mem_map.1 (List.mem_filter.1 hs).1
    rw [choicesR_w (by have := (good_iff.1 hG).1; omega) z hz]
    omega
  · cases hs

set_option maxRecDepth 1000000 in
set_option maxHeartbeats 8000000 in
theorem rFitting_any (A : Option Addr) (k : Nat) (c : C) (i : Nat) (back : Bool) (w : World) (h : RdG w A c.gates) (hk : c.gates.length ≤ k) (hG : Good c) (hi : i < 44) :
    Calls Tryz.prog 66 #[.agg #[.int .i64 c.wires, .int .i64 c.bits, .slice A c.gates.length k], .int .i64 i, .bool back] w fun e w' => ∃ v, e = .returned v ∧ App (EMo 3 w.heap.size) 27 4 w.heap.size w' v (fitR c i back) ∧ Below w.heap.size w w' := by
  have hcw := (good_iff.1 hG).1
  have hgl := hG.len
  have hw := (rule_ok i hi).2.2
  have HG := Lib.hid (And.intro hG (And.intro h hw))
  clear hG h hw
  go_enter Tryz.func66, Tryz.ntmps66
  go_upto_region 3 with fail
  obtain ⟨W1, hW1⟩ : ∃ W1, w.alloc (.cells #[.int .i64 c.wires, .int .i64 c.bits, .slice A c.gates.length k] 24) = W1 := ⟨_, rfl⟩
  have hb1 : Below w.heap.size w W1 := by rw [← hW1]; exact bl
  have p0 : W1.heap[w.heap.size]? = some (.cells #[.int .i64 c.wires, .int .i64 c.bits, .slice A c.gates.length k] 24 (0, 0)) := by rw [← hW1]; exact blk_alloc _ _ _ rfl
  rw [hW1]
  clear hW1
  have HP := Lib.hid (And.intro p0 hb1)
  clear p0 hb1
  go_upto_if 19 with fail
  go_cut [7, 8] (fun p q wx => ∃ A1 c1, p = .int .i64 (ruleW i) ∧ q = .slice A1 (fromG i back).length c1 ∧ (fromG i back).length ≤ c1 ∧ Hid (RdG wx A1 (fromG i back) ∧ Below W1.heap.size W1 wx))
  case first =>
    by_cases h43 : i = 43
    · subst h43
      have e1 : ruleW 43 = 0 := by decide
      have e2 : fromG 43 back = [] := by cases back <;> decide
      go_wp2
      go_meet
      rw [e1, e2]
      exact ⟨none, 0, rfl, rfl, Nat.le_refl _, Lib.hid ⟨Rd.nil _ _ _ _, Below.refl _ _⟩⟩
    · have hne : ((i : Int) != 43) = true := by simp; omega
      go_wp2_with fail
      refine (rSides_any i (by omega) 0 back (.slice none 0 0) 0 0 none rfl W1).mono ?_
      rintro e w2 ⟨A1, c1, A2, c2, rfl, h1, h2, h3, h4, hb⟩
      have H := Lib.hid (And.intro h3 hb)
      clear h3 h4 hb
      go_wp2
      go_meet
      exact ⟨A1, c1, rfl, rfl, h1, H⟩
  case rest =>
  obtain ⟨A1, c1, rfl, rfl, hc1, HF⟩ := hcut
  rename World => W2
  replace HP := Lib.hid (show W2.heap[w.heap.size]? = some (.cells #[.int .i64 c.wires, .int .i64 c.bits, .slice A c.gates.length k] 24 (0, 0)) ∧ Below w.heap.size w W2 from ⟨blk2 HF.out.2 HP.out.1, HP.out.2.trans (HF.out.2.mono HP.out.2.size)⟩)
  obtain ⟨a0, a1, a2, af⟩ := cells3 HP.out.1
  obtain ⟨m, hm⟩ : ∃ m : Nat, ruleW i = m := ⟨(ruleW i).toNat, by have := HG.out.2.2; omega⟩
  have hm3 : m ≤ 3 := by have := HG.out.2.2; omega
  have hc := rChoices_is c.wires (ruleW i) m W2 (by omega) hm hm3
  have HM := Lib.hid (And.intro hm hm3)
  clear hm hm3
  go_wp2_with fail
  refine hc.mono ?_
  clear hc
  rintro e w0 ⟨A3, c3, rfl, hr3, hb⟩
  obtain ⟨L, hL⟩ : ∃ L, choicesR c.wires m = L := ⟨_, rfl⟩
  obtain ⟨hm, hm3⟩ := HM.out
  have hLl : L.length ≤ 1728 := by rw [← hL]; exact choicesR_small (by omega) hm3
  have hLw : ∀ z ∈ L, z.length ≤ 3 := by rw [← hL]; intro z hz; rw [choicesR_w (by omega) z hz]; exact hm3
  rw [hL] at hr3 ⊢
  have HL := Lib.hid (show choicesR c.wires (ruleW i).toNat = L by rw [hm]; exact hL)
  have HLw := Lib.hid hLw
  replace HF := Lib.hid (And.intro (HF.out.1.bG hb) hr3)
  replace HP := Lib.hid (show w0.heap[w.heap.size]? = some (.cells #[.int .i64 c.wires, .int .i64 c.bits, .slice A c.gates.length k] 24 (0, 0)) ∧ Below w.heap.size w w0 from ⟨blk2 hb HP.out.1, HP.out.2.trans (hb.mono HP.out.2.size)⟩)
  clear hb a0 a1 a2 af hr3 hL hLw hm hm3
  go_wp2
  go_loopw [10, 11, 13, 14, 15, 16, 17] (fun v at_ _ _ _ _ _ wr => ∃ p : Nat, p ≤ c.gates.length + 1 ∧ at_ = .int .i64 p ∧ Hid (App (EM0 w0) 27 4 w0.heap.size wr v ((List.range p).flatMap (fitAt c i back))) ∧ Below w0.heap.size w0 wr) (fun _ at_ _ _ _ _ _ _ => c.gates.length + 1 - (intOf at_).toNat)
  case atStart => exact ⟨0, Nat.zero_le _, rfl, Lib.hid (App.nil _ _ _ _ _), Below.refl _ _⟩
  case round =>
    obtain ⟨p, hp, rfl, HO, hB⟩ := hrel
    rename World => wo
    have q0 := blk2 hB HP.out.1
    obtain ⟨a0, a1, a2, af⟩ := cells3 q0
    by_cases hlt : p < c.gates.length + 1
    · obtain ⟨q, hq⟩ : ∃ q, kindsB c p (fromG i back) = q := ⟨_, rfl⟩
      have hc := rKinds_any A A1 k c1 c p (fromG i back) wo (HG.out.2.1.bG (HP.out.2.trans (hB.mono HP.out.2.size))) (HF.out.1.bG hB) (by omega) (by omega) (by have := (from_wires i hi back).1; omega)
      rw [hq] at hc
      have HQ := Lib.hid hq
      clear hq
      go_wp2_with fail
      refine hc.mono ?_
      clear hc
      rintro e w2 ⟨rfl, hb⟩
      have hB2 := hB.trans (hb.mono hB.size)
      have HO2 := Lib.hid (HO.out.below (EM0.stays _) hb)
      clear hb a0 a1 a2 af q0 HO
      cases q with
      | false =>
        go_wp2
        go_roundw
        case rel => exact ⟨p + 1, by omega, by go_num, Lib.hid (by rw [List.range_succ, List.flatMap_append, List.flatMap_singleton, fitAt, if_neg (by rw [HQ.out]; decide), List.append_nil]; exact HO2.out), hB2⟩
        case measure => simp [intOf]; omega
      | true =>
        go_wp2
        go_loopw [10, 13, 14, 15, 16, 17, 47] (fun v _ _ _ _ _ ix wr => ∃ j : Nat, j ≤ L.length ∧ ix = .int .i64 j ∧ Hid (App (EM0 w0) 27 4 w0.heap.size wr v ((List.range p).flatMap (fitAt c i back) ++ ((L.take j).map (mkS i back p)).filter (okS c))) ∧ Below w0.heap.size w0 wr) (fun _ _ _ _ _ _ ix _ => L.length - (intOf ix).toNat)
        case atStart => exact ⟨0, Nat.zero_le _, rfl, Lib.hid (by simpa using HO2.out), hB2⟩
        case round =>
          clear HO2 hB2
          obtain ⟨j, hj, rfl, HI, hB3⟩ := hrel
          rename World => wi
          by_cases hlt2 : j < L.length
          · obtain ⟨b, o, A4, c4, rfl, hx, hc4, hr4⟩ := HF.out.2.row j hlt2
            obtain ⟨z, hz⟩ : ∃ z, L[j] = z := ⟨_, rfl⟩
            rw [hz] at hx hc4 hr4
            have HZ := Lib.hid (And.intro hz (And.intro hc4 hr4))
            replace hx := kc hB3 hx
            obtain ⟨a0, a1, a2, af⟩ := cells3 (blk2 hB3 HP.out.1)
            have la := cell_lt a0
            have lx := cell_lt hx
            have hold := olds wi
            obtain ⟨xs, hxs⟩ : ∃ xs, (List.range p).flatMap (fitAt c i back) ++ ((L.take j).map (mkS i back p)).filter (okS c) = xs := ⟨_, rfl⟩
            have hxl : xs.length ≤ 300000 := by
              have h1 := fm_len (k := 1728) (f := fitAt c i back) (l := List.range p) fun y _ => fitAt_len HG.out.1 hi
              have h2 := List.length_filter_le (okS c) ((L.take j).map (mkS i back p))
              rw [← hxs, List.length_append]
              rw [List.length_map, List.length_take] at h2
              rw [List.length_range] at h1
              omega
            have HX := Lib.hid hxs
            rw [hxs] at HI
            obtain ⟨A6, c6, rfl, _⟩ := HI.out.form
            clear hz hr4 hxs
            go_upto_region 15 with fail
            obtain ⟨V1, hV⟩ : ∃ V, wi.alloc (.cells #[.int .i64 i, .int .i64 p, .bool back, .slice A4 z.length c4] 27) = V := ⟨_, rfl⟩
            have hb1 : Below wi.heap.size wi V1 := by rw [← hV]; exact bl
            have x1 : V1.heap[wi.heap.size]? = some (.cells #[.int .i64 i, .int .i64 p, .bool back, .slice A4 z.length c4] 27 (0, 0)) := by rw [← hV]; exact blk_alloc _ _ _ rfl
            rw [hV]
            clear hV a0 a1 a2 af la lx hold hx
            have hB4 := hB3.trans (hb1.mono hB3.size)
            have HI4 := Lib.hid (HI.out.below (EM0.stays _) hb1)
            clear HI hb1
            obtain ⟨a0, a1, a2, af⟩ := cells3 (blk2 hB4 HP.out.1)
            obtain ⟨b0, b1, b2, b3, bf⟩ := cells4 x1
            have hc := rDone_any A A4 k c4 c (mkS i back p z) V1 (HG.out.2.1.bG (HP.out.2.trans (hB4.mono HP.out.2.size))) hk (HZ.out.2.2.bI hB4) hc4 HG.out.1
            obtain ⟨⟨er, c2, ph⟩, hy⟩ : ∃ x, applyR c (mkS i back p z) = x := ⟨_, rfl⟩
            rw [hy] at hc
            dsimp only [mkS] at hc
            have HY := Lib.hid hy
            have HX1 := Lib.hid x1
            clear hy x1
            go_wp2_with fail
            refine hc.mono ?_
            clear hc
            rintro e w5 ⟨A9, c9, rfl, _, _, hb⟩
            have hB5 := hB4.trans (hb.mono hB4.size)
            have HI5 := Lib.hid (HI4.out.below (EM0.stays _) hb)
            have x5 := blk2 hb HX1.out
            clear hb a0 a1 a2 af b0 b1 b2 b3 bf HI4 HX1 hB4
            obtain ⟨b0, b1, b2, b3, bf⟩ := cells4 x5
            have lb := blk_lt x5
            have hold := olds w5
            clear x5
            dsimp only
            have hb6 : ∀ o, Below w5.heap.size w5 (w5.alloc o) := fun o => bl
            have hz5 := hB5.size
            by_cases he : er = 0
            · subst he
              go_wp2_with (at_builtin; refine wp_app (E := EM0 w0) (W := w5.alloc (.cells #[.int .i64 c2.wires, .int .i64 c2.bits, .slice A9 c2.gates.length c9] 24)) 27 4 w0.heap.size rfl _ _ 30 (.agg #[.int .i64 0, .int .i64 0, .bool false, .slice none 0 0]) 48 rfl Tryz.underlying30 (by kernel_rfl) rfl (by decide) (by decide) (.slice A6 xs.length c6) xs (mkS i back p z) [.int .i64 i, .int .i64 p, .bool back, .slice A4 z.length c4] rfl (by show Value.slice (some ⟨w5.heap.size + 1, 0, none⟩) 1 1 = _; simp) rfl (by simp [Value.oneCell']) ⟨A4, c4, rfl, hc4, HZ.out.2.2⟩ (HI5.out.below (EM0.stays _) (hb6 _)) (by simp; omega) (by omega) (fun _ _ _ _ _ _ _ h => h) ?_; intro v7 w7 ho7 hg7; have HO7 := Lib.hid (And.intro ho7 ((HI5.out.below (EM0.stays _) (hb6 _)).grows hg7 (hB5.trans ((hb6 _).mono hz5)) (Nat.le_refl _) (by simp; omega))); clear ho7 hg7)
              go_roundw
              case rel => exact ⟨j + 1, by omega, by go_num, Lib.hid (by rw [List.take_succ_eq_append_getElem hlt2, List.map_append, List.filter_append, ← List.append_assoc, HX.out, HZ.out.1, List.map_singleton, List.filter_cons_of_pos (by unfold okS; rw [HY.out]; rfl), List.filter_nil]; exact HO7.out.1), HO7.out.2⟩
              case measure => simp [intOf]; omega
            · have he1 : (er == 0) = false := by simpa using he
              have HN := Lib.hid he
              clear he
              go_wp2
              go_roundw
              case rel => exact ⟨j + 1, by omega, by go_num, Lib.hid (by rw [List.take_succ_eq_append_getElem hlt2, List.map_append, List.filter_append, ← List.append_assoc, HX.out, HZ.out.1, List.map_singleton, List.filter_cons_of_neg (by unfold okS; rw [HY.out]; simpa using HN.out), List.filter_nil, List.append_nil]; exact HI5.out.below (EM0.stays _) (hb6 _)), hB5.trans ((hb6 _).mono hz5)⟩
              case measure => simp [intOf]; omega
          · obtain rfl : j = L.length := by omega
            have HN := Lib.hid (show (List.range (p + 1)).flatMap (fitAt c i back) = (List.range p).flatMap (fitAt c i back) ++ ((L.take L.length).map (mkS i back p)).filter (okS c) by
              rw [List.range_succ, List.flatMap_append, List.flatMap_singleton, fitAt, if_pos HQ.out, HL.out, List.take_length]; rfl)
            go_wp2
            go_roundw
            case rel => exact ⟨p + 1, by omega, by go_num, Lib.hid (by rw [HN.out]; exact HI.out), hB3⟩
            case measure => simp [intOf]; omega
    · obtain rfl : p = c.gates.length + 1 := by omega
      obtain ⟨ys, hys⟩ : ∃ ys, fitR c i back = ys := ⟨_, rfl⟩
      have hyl : ys.length ≤ 300000 := by
        rw [← hys]
        have h1 := fm_len (k := 1728) (f := fitAt c i back) (l := List.range (c.gates.length + 1)) fun y _ => fitAt_len HG.out.1 hi
        rw [List.length_range] at h1
        unfold fitR
        omega
      have hyw : ∀ s ∈ ys, s.wires.length ≤ 3 := by
        rw [← hys]
        intro s hs
        obtain ⟨x, _, hx⟩ := List.mem_flatMap.1 hs
        exact fitAt_wires HG.out.1 hi s hx
      have HE := Lib.hid (show App EM 27 4 w0.heap.size wo u10 ys by rw [← hys]; exact HO.out.imp (Nat.le_refl _) fun x cs h => EM.stays _ _ _ _ hB h)
      have HYS := Lib.hid hys
      obtain ⟨A6, c6, rfl, _, hrd⟩ := HE.out.rd (by omega)
      have HRD := Lib.hid hrd
      have hB' := HP.out.2.trans (hB.mono HP.out.2.size)
      clear hrd hys HO HE
      go_wp2_with fail
      refine (rOwnM_any A6 ys.length c6 ys wo HRD.out rfl (fun s hs => by have := hyw s hs; omega) (by omega)).mono ?_
      rintro e w9 ⟨v, rfl, ho, hb⟩
      have HO9 := Lib.hid (And.intro (ho.imp (E' := EMo 3 w.heap.size) hB'.size fun x cs ⟨v, e, hv⟩ => ⟨v, e, hv.imp hB'.size fun _ _ h => h⟩) (hB'.trans (hb.mono hB'.size)))
      clear ho hb a0 a1 a2 af q0
      go_wp2
      go_ret
      exact ⟨v, rfl, by rw [HYS.out]; exact HO9.out.1, HO9.out.2⟩
end Go.Proofs.YtfommmijojfdbaaGreatDoor
