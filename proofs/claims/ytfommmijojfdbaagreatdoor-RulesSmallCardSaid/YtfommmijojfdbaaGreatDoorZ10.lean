/- Part 11 of the proof that 'spoondriftlaw19.RulesApplies' holds for every input; it has no condition beyond the statement's own. -/
import Derived.Test.YtfommmijojfdbaaGreatDoorZ09
import Derived.Deep.RegionWith
import Derived.Deep.DeepCutAuto
import Derived.Test.YtfommmijojfdbaaGreatDoorZ00
import Derived.Sort.OwnSortedInts
import Derived.Lib.RowBridge
set_option linter.all false
namespace Go.Proofs.YtfommmijojfdbaaGreatDoor
open Go.RowKit
def axG (g : G) (n : Int) : Int := axN g.kind (decide (n = g.wires.length - 1))
def badX (g h : G) (x i : Int) : Bool := decide (0 ≤ idx h.wires x 0) && (axG g i == 0 || axG g i != axG h (idx h.wires x 0))
def commL (g h : G) : List Int → Int → Bool
  | [], _ => true
  | x :: l, i => if badX g h x i = true then false else commL g h l (i + 1)
def commB (g h : G) : Bool :=
  if meets g.wires h.wires = false then true else
  if ((swapsB g h || swapsB h g) && sameW g.wires h.wires) = true then true else commL g h g.wires 0
set_option maxRecDepth 100000 in
set_option maxHeartbeats 8000000 in
theorem commute_any (A B : Option Addr) (c d : Nat) (g h : G) (w : World) (hr : RdI w A g.wires) (hr' : RdI w B h.wires) (hg : Right g) (hh : Right h) :
    Calls Tryz.prog 164 #[.agg #[.int .i64 g.kind, .slice A g.wires.length c, .int .i64 g.bit, .int .i64 g.cif], .agg #[.int .i64 h.kind, .slice B h.wires.length d, .int .i64 h.bit, .int .i64 h.cif]] w fun e w' => e = .returned (.bool (commB g h)) ∧ Below w.heap.size w w' := by
  obtain ⟨qm, hm⟩ : ∃ q, meets g.wires h.wires = q := ⟨_, rfl⟩
  obtain ⟨q1, h1⟩ : ∃ q, swapsB g h = q := ⟨_, rfl⟩
  obtain ⟨q2, h2⟩ : ∃ q, swapsB h g = q := ⟨_, rfl⟩
  obtain ⟨q3, h3⟩ : ∃ q, sameW g.wires h.wires = q := ⟨_, rfl⟩
  have HF := Lib.hid (show commB g h = if qm = false then true else if ((q1 || q2) && q3) = true then true else commL g h g.wires 0 by unfold commB; rw [hm, h1, h2, h3])
  have heql : ∀ w, (binOp .eql 200 (.agg (bv (inW g.wires))) (.agg (bv (inW h.wires)))).run Tryz.prog w = .ok (.bool q3) w := fun w => by rw [eqlB, ← h3]; rfl
  have HM := Lib.hid (And.intro hm (And.intro h1 h2))
  have HR := Lib.hid (And.intro hr hr')
  have HG := Lib.hid (And.intro hg hh)
  have hl1 := hr.1
  have hl2 := hr'.1
  clear hr hr' hg hh hm h1 h2 h3
  obtain ⟨W0, hW0⟩ : ∃ W0, (w.alloc (.cells #[.int .i64 g.kind, .slice A g.wires.length c, .int .i64 g.bit, .int .i64 g.cif] 55)).alloc (.cells #[.int .i64 h.kind, .slice B h.wires.length d, .int .i64 h.bit, .int .i64 h.cif] 55) = W0 := ⟨_, rfl⟩
  have HB0 := Lib.hid (show Below w.heap.size w W0 by rw [← hW0]; (repeat (first|exact bR _ _|assumption|apply bN|apply bA|apply bD)))
  have HD : Hid (∀ W', Below W0.heap.size W0 W' → RdI W' A g.wires ∧ RdI W' B h.wires) := Lib.hid fun W' hb => ⟨HR.out.1.bI (HB0.out.trans (hb.mono HB0.out.size)), HR.out.2.bI (HB0.out.trans (hb.mono HB0.out.size))⟩
  have HC : Hid (∀ W', Below W0.heap.size W0 W' → (W'.cell? ⟨w.heap.size, 0, none⟩ = some (.int .i64 g.kind) ∧ W'.cell? ⟨w.heap.size, 1, none⟩ = some (.slice A g.wires.length c) ∧ W'.cell? ⟨w.heap.size, 2, none⟩ = some (.int .i64 g.bit) ∧ W'.cell? ⟨w.heap.size, 3, none⟩ = some (.int .i64 g.cif) ∧ W'.cell? ⟨w.heap.size + 1, 0, none⟩ = some (.int .i64 h.kind) ∧ W'.cell? ⟨w.heap.size + 1, 1, none⟩ = some (.slice B h.wires.length d) ∧ W'.cell? ⟨w.heap.size + 1, 2, none⟩ = some (.int .i64 h.bit) ∧ W'.cell? ⟨w.heap.size + 1, 3, none⟩ = some (.int .i64 h.cif))) := by
    refine Lib.hid fun W' hb => ?_
    subst hW0
    exact ⟨kc hb (by go_simp), kc hb (by go_simp), kc hb (by go_simp), kc hb (by go_simp), kc hb (by go_simp), kc hb (by go_simp), kc hb (by go_simp), kc hb (by go_simp)⟩
  have HW := Lib.hid hW0
  clear hW0
  cases qm
  · go_enter Tryz.func164, Tryz.ntmps164
    go_wp2_with fail
    rw [HW.out]
    refine (meet_any A B c d g h W0 (HD.out _ (Below.refl _ _)).1 (HD.out _ (Below.refl _ _)).2 HG.out.1 HG.out.2).mono ?_
    rintro e w2 ⟨rfl, hb⟩
    rw [HM.out.1]
    go_wp2
    go_ret
    exact ⟨ret_bool (by rw [HF.out]; rfl), HB0.out.trans (hb.mono HB0.out.size)⟩
  · go_enter Tryz.func164, Tryz.ntmps164
    go_wp2_with fail
    rw [HW.out]
    refine (meet_any A B c d g h W0 (HD.out _ (Below.refl _ _)).1 (HD.out _ (Below.refl _ _)).2 HG.out.1 HG.out.2).mono ?_
    rintro e w2 ⟨rfl, hb⟩
    rw [HM.out.1]
    obtain ⟨_, _, _, _, _, _, _, _⟩ := HC.out w2 hb
    go_wp2_with fail
    refine (touches_no A B c d g h _ HG.out.1.2).mono ?_
    rintro e w3 ⟨rfl, hb3⟩
    replace hb := hb.trans (hb3.mono hb.size)
    clear hb3
    obtain ⟨_, _, _, _, _, _, _, _⟩ := HC.out w3 hb
    go_wp2_with fail
    refine (touches_no B A d c h g _ HG.out.2.2).mono ?_
    rintro e w4 ⟨rfl, hb3⟩
    replace hb := hb.trans (hb3.mono hb.size)
    clear hb3
    obtain ⟨_, _, _, _, _, _, _, _⟩ := HC.out w4 hb
    go_upto_region 6 with fail
    go_cut [37] (fun v wx => v = .bool ((q1 || q2) && q3) ∧ Below W0.heap.size W0 wx)
    case first =>
      cases q1
      · cases q2
        · first | go_region_with (first
        | (go_at_call 181; refine (swaps_any _ _ _ _ _ _ _).mono ?_; rintro e w5 ⟨rfl, hb3⟩; (first | rw [HM.out.2.1] | rw [HM.out.2.2]); have hb5 := Below.trans (show Below W0.heap.size W0 _ by (repeat (first|exact bR _ _|assumption|apply bN|apply bA|apply bD))) (hb3.mono (by first | exact Nat.le_refl _ | exact Below.size (by (repeat (first|exact bR _ _|assumption|apply bN|apply bA|apply bD))) | simp)); clear hb3; obtain ⟨_, _, _, _, _, _, _, _⟩ := HC.out w5 hb5)
        | (go_at_call 182; refine (of_any _ _ _ _ (by first | exact (HD.out _ (by (repeat (first|exact bR _ _|assumption|apply bN|apply bA|apply bD)))).1 | exact (HD.out _ (by (repeat (first|exact bR _ _|assumption|apply bN|apply bA|apply bD)))).2) (by first | exact HG.out.1.1 | exact HG.out.2.1)).mono ?_; rintro e w5 ⟨rfl, hb3⟩; have hb5 := Below.trans (show Below W0.heap.size W0 _ by (repeat (first|exact bR _ _|assumption|apply bN|apply bA|apply bD))) (hb3.mono (by first | exact Nat.le_refl _ | exact Below.size (by (repeat (first|exact bR _ _|assumption|apply bN|apply bA|apply bD))) | simp)); clear hb3; obtain ⟨_, _, _, _, _, _, _, _⟩ := HC.out w5 hb5)) | fail
          all_goals (go_wp2_with fail; go_meet; exact ⟨rfl, by (repeat (first|exact bR _ _|assumption|apply bN|apply bA|apply bD))⟩)
        · go_region_held3 (fun W' => W'.cell? ⟨w.heap.size, 0, none⟩ = some (.int .i64 g.kind) ∧ W'.cell? ⟨w.heap.size, 1, none⟩ = some (.slice A g.wires.length c) ∧ W'.cell? ⟨w.heap.size, 2, none⟩ = some (.int .i64 g.bit) ∧ W'.cell? ⟨w.heap.size, 3, none⟩ = some (.int .i64 g.cif) ∧ W'.cell? ⟨w.heap.size + 1, 0, none⟩ = some (.int .i64 h.kind) ∧ W'.cell? ⟨w.heap.size + 1, 1, none⟩ = some (.slice B h.wires.length d) ∧ W'.cell? ⟨w.heap.size + 1, 2, none⟩ = some (.int .i64 h.bit) ∧ W'.cell? ⟨w.heap.size + 1, 3, none⟩ = some (.int .i64 h.cif)) (exact HC.out _ (by (repeat (first|exact bR _ _|assumption|apply bN|apply bA|apply bD)))) (first
        | (go_at_call 181; refine (swaps_any _ _ _ _ _ _ _).mono ?_; rintro e w5 ⟨rfl, hb3⟩; (first | rw [HM.out.2.1] | rw [HM.out.2.2]); have hb5 := Below.trans (show Below W0.heap.size W0 _ by (repeat (first|exact bR _ _|assumption|apply bN|apply bA|apply bD))) (hb3.mono (by first | exact Nat.le_refl _ | exact Below.size (by (repeat (first|exact bR _ _|assumption|apply bN|apply bA|apply bD))) | simp)); clear hb3)
        | (go_at_call 182; refine (of_any _ _ _ _ (by first | exact (HD.out _ (by (repeat (first|exact bR _ _|assumption|apply bN|apply bA|apply bD)))).1 | exact (HD.out _ (by (repeat (first|exact bR _ _|assumption|apply bN|apply bA|apply bD)))).2) (by first | exact HG.out.1.1 | exact HG.out.2.1)).mono ?_; rintro e w5 ⟨rfl, hb3⟩; have hb5 := Below.trans (show Below W0.heap.size W0 _ by (repeat (first|exact bR _ _|assumption|apply bN|apply bA|apply bD))) (hb3.mono (by first | exact Nat.le_refl _ | exact Below.size (by (repeat (first|exact bR _ _|assumption|apply bN|apply bA|apply bD))) | simp)); clear hb3))
          all_goals (go_wp2_with fail; go_meet; exact ⟨by simp, by (repeat (first|exact bR _ _|assumption|apply bN|apply bA|apply bD))⟩)
      · first | go_region_with (first
        | (go_at_call 181; refine (swaps_any _ _ _ _ _ _ _).mono ?_; rintro e w5 ⟨rfl, hb3⟩; (first | rw [HM.out.2.1] | rw [HM.out.2.2]); have hb5 := Below.trans (show Below W0.heap.size W0 _ by (repeat (first|exact bR _ _|assumption|apply bN|apply bA|apply bD))) (hb3.mono (by first | exact Nat.le_refl _ | exact Below.size (by (repeat (first|exact bR _ _|assumption|apply bN|apply bA|apply bD))) | simp)); clear hb3; obtain ⟨_, _, _, _, _, _, _, _⟩ := HC.out w5 hb5)
        | (go_at_call 182; refine (of_any _ _ _ _ (by first | exact (HD.out _ (by (repeat (first|exact bR _ _|assumption|apply bN|apply bA|apply bD)))).1 | exact (HD.out _ (by (repeat (first|exact bR _ _|assumption|apply bN|apply bA|apply bD)))).2) (by first | exact HG.out.1.1 | exact HG.out.2.1)).mono ?_; rintro e w5 ⟨rfl, hb3⟩; have hb5 := Below.trans (show Below W0.heap.size W0 _ by (repeat (first|exact bR _ _|assumption|apply bN|apply bA|apply bD))) (hb3.mono (by first | exact Nat.le_refl _ | exact Below.size (by (repeat (first|exact bR _ _|assumption|apply bN|apply bA|apply bD))) | simp)); clear hb3; obtain ⟨_, _, _, _, _, _, _, _⟩ := HC.out w5 hb5)) | fail
        all_goals (go_wp2_with fail; go_meet; exact ⟨by simp, by (repeat (first|exact bR _ _|assumption|apply bN|apply bA|apply bD))⟩)
    case rest =>
      obtain ⟨rfl, hB⟩ := hcut
      cases hq : ((q1 || q2) && q3)
      · have HQ := Lib.hid hq
        clear hq
        obtain ⟨_, _, _, _, _, _, _, _⟩ := HC.out wc hB
        have HFL := Lib.hid (show commB g h = commL g h g.wires 0 by rw [HF.out, HQ.out]; rfl)
        go_wp2
        go_loopw [6, 7, 8, 41] (fun _ _ _ l wr => ∃ n : Nat, n ≤ g.wires.length ∧ l = .int .i64 n ∧ Below W0.heap.size W0 wr ∧ Hid (commB g h = commL g h (g.wires.drop n) n)) (fun _ _ _ l _ => g.wires.length - (intOf l).toNat)
        case atStart => exact ⟨0, Nat.zero_le _, rfl, by (repeat (first|exact bR _ _|assumption|apply bN|apply bA|apply bD)), Lib.hid (by rw [HFL.out]; simp)⟩
        case round =>
          obtain ⟨n, hn, rfl, hbr, HN⟩ := hrel
          obtain ⟨hm0, hm1, hm2, hm3, hm4, hm5, hm6, hm7⟩ := HC.out _ hbr
          have lb := cell_lt hm0
          have lb' := cell_lt hm4
          by_cases hk : n < g.wires.length
          · obtain ⟨b, o, hA, hc⟩ := (HD.out _ hbr).1.int n hk
            obtain ⟨x, hx⟩ : ∃ x, g.wires[n]'hk = x := ⟨_, rfl⟩
            rw [hx] at hc
            have HX := Lib.hid hx
            have HA := Lib.hid hA
            have HN' := Lib.hid (show commB g h = if badX g h x n = true then false else commL g h (g.wires.drop (n + 1)) ((n + 1 : Nat) : Int) by
              rw [HN.out, drop_cons g.wires n hk, hx, commL]; rfl)
            have hrb := (HD.out _ hbr).2
            subst hA
            clear hx HN
            go_wp2_with fail
            refine (Index_any B d h.wires x wr hrb).mono ?_
            rintro e w5 ⟨rfl, rfl⟩
            clear hrb
            obtain ⟨i, hi⟩ : ∃ i, idx h.wires x 0 = i := ⟨_, rfl⟩
            have HI := Lib.hid hi
            rw [hi]
            clear hi
            obtain ⟨qb, hqb⟩ : ∃ q, badX g h x n = q := ⟨_, rfl⟩
            rw [hqb] at HN'
            have HQB := Lib.hid hqb
            clear hqb
            go_upto_region 12 with fail
            go_cut [66] (fun v wx => v = .bool qb ∧ Below W0.heap.size W0 wx)
            case first =>
              by_cases h0 : i < 0
              · have h1 : decide (0 ≤ i) = false := by simp; omega
                have HQ0 := Lib.hid (show qb = false by rw [← HQB.out]; unfold badX; rw [HI.out, h1]; rfl)
                go_quiet (fail)
                go_wp2_with fail
                go_meet
                exact ⟨by rw [HQ0.out], by (repeat (first|exact bR _ _|assumption|apply bN|apply bA|apply bD))⟩
              · have h1 : decide (0 ≤ i) = true := by simp; omega
                obtain ⟨u, hu⟩ : ∃ u, axN g.kind (decide ((n:Int) = g.wires.length - 1)) = u := ⟨_, rfl⟩
                obtain ⟨v, hv⟩ : ∃ u, axN h.kind (decide (i = h.wires.length - 1)) = u := ⟨_, rfl⟩
                have HQ0 := Lib.hid (show qb = (u == 0 || u != v) by rw [← HQB.out]; unfold badX; rw [HI.out, h1]; unfold axG; rw [hu, hv]; rfl)
                have HU := Lib.hid (And.intro hu hv)
                clear hu hv
                cases h2 : (u == 0)
                · first | go_region_with (go_at_call 183; refine (axis_any _ _ _ _ _ (by first | exact hl1 | exact hl2)).mono ?_; rintro e w5 ⟨rfl, hb3⟩; have hb5 := Below.trans (show Below W0.heap.size W0 _ by (repeat (first|exact bR _ _|assumption|apply bN|apply bA|apply bD))) (hb3.mono (by first | exact Nat.le_refl _ | exact Below.size (by (repeat (first|exact bR _ _|assumption|apply bN|apply bA|apply bD))) | simp)); clear hb3; (first | rw [HU.out.1] | rw [HU.out.2]); obtain ⟨_, _, _, _, _, _, _, _⟩ := HC.out w5 hb5) | fail
                  all_goals (go_wp2_with fail; go_meet; exact ⟨by rw [HQ0.out, h2]; rfl, by (repeat (first|exact bR _ _|assumption|apply bN|apply bA|apply bD))⟩)
                · obtain rfl : u = 0 := by simpa using h2
                  first | go_region_with (go_at_call 183; refine (axis_any _ _ _ _ _ (by first | exact hl1 | exact hl2)).mono ?_; rintro e w5 ⟨rfl, hb3⟩; have hb5 := Below.trans (show Below W0.heap.size W0 _ by (repeat (first|exact bR _ _|assumption|apply bN|apply bA|apply bD))) (hb3.mono (by first | exact Nat.le_refl _ | exact Below.size (by (repeat (first|exact bR _ _|assumption|apply bN|apply bA|apply bD))) | simp)); clear hb3; (first | rw [HU.out.1] | rw [HU.out.2]); obtain ⟨_, _, _, _, _, _, _, _⟩ := HC.out w5 hb5) | fail
                  all_goals (go_wp2_with fail; go_meet; exact ⟨by rw [HQ0.out]; rfl, by (repeat (first|exact bR _ _|assumption|apply bN|apply bA|apply bD))⟩)
            case rest =>
              obtain ⟨rfl, hB2⟩ := hcut
              cases qb
              · go_wp2
                go_roundw
                case rel => exact ⟨n + 1, by omega, by go_num, by (repeat (first|exact bR _ _|assumption|apply bN|apply bA|apply bD)), Lib.hid (by rw [HN'.out]; rfl)⟩
                case measure => simp [intOf]; omega
              · go_wp2
                go_ret
                exact ⟨ret_bool (by rw [HN'.out]; rfl), HB0.out.trans (hB2.mono HB0.out.size)⟩
          · have HK := Lib.hid (show commB g h = true by rw [HN.out, drop_end g.wires n (by omega)]; rfl)
            clear HN
            go_wp2
            go_ret
            exact ⟨ret_bool HK.out.symm, HB0.out.trans (hbr.mono HB0.out.size)⟩
      · have HQ := Lib.hid hq
        clear hq
        go_wp2
        go_ret
        exact ⟨ret_bool (by rw [HF.out, HQ.out]; rfl), HB0.out.trans (hB.mono HB0.out.size)⟩
end Go.Proofs.YtfommmijojfdbaaGreatDoor
namespace Go.Proofs.YtfommmijojfdbaaGreatDoor
open Go.RowKit Go.Shelf Go.Sort
attribute [local go_sem] Oper.semAt_some
theorem ei_map {w : World} : ∀ {xs : List Int} {cs : List Value}, Reps (EI w) 1 xs cs → cs = xs.map (Value.int .i64) := by
  intro xs cs h
  have hl := h.1
  apply List.ext_getElem?
  intro j
  by_cases hj : j < xs.length
  · have := h.2 j xs[j] (List.getElem?_eq_getElem hj)
    unfold EI at this
    have h2 : cs[j]? = some (.int .i64 xs[j]) := by
      have h3 := congrArg (fun l => l[0]?) this
      simpa using h3
    rw [h2]; simp [hj]
  · rw [List.getElem?_eq_none (by omega), List.getElem?_eq_none (by simp; omega)]
theorem ei_rep (w : World) (xs : List Int) : Reps (EI w) 1 xs (xs.map (Value.int .i64)) := by
  refine ⟨by simp, fun j p hj => ?_⟩
  unfold EI
  have hl := (List.getElem?_eq_some_iff.1 hj).1
  apply List.ext_getElem?
  rintro (_ | i)
  · simp [hj]
  · simp
    omega
theorem App.ints {ti B : Nat} {w : World} {v : Value} {xs : List Int} (h : App EI ti 1 B w v xs) : (v = .slice none 0 0 ∧ xs = []) ∨
    ∃ g cap cur, v = .slice (some ⟨g, 0, none⟩) xs.length cap ∧ B ≤ g ∧ w.heap[g]? = some (.cells cur ti (0, 0)) ∧ xs.length ≤ cap ∧ cap ≤ maxLen ∧ cur.size = cap * 1 ∧ cur.toList.take xs.length = xs.map (Value.int .i64) := by
  obtain ⟨cs, ⟨_, h1 | ⟨g, cap, cur, h1, h2, h3, h4, h5, h6, h7⟩⟩, hr⟩ := h
  · exact .inl ⟨h1.1, List.length_eq_zero_iff.1 h1.2⟩
  · refine .inr ⟨g, cap, cur, h1, h2, h3, h4, h5, h6, ?_⟩
    rw [← ei_map hr, ← h7, Nat.mul_one]
set_option maxRecDepth 100000 in
theorem Collect_any (gf : Nat) (lb : Array Value) (eg : ∀ args w, (callFunc gf args).run Tryz.prog w = .ok (.enter gf args) w) (xs : List Int) (n0 : Nat) (w : World) (hn : n0 ≤ w.heap.size) (hl : xs.length ≤ 1000000)
    (hit : IterK Tryz.prog gf lb (fun _ x args => args = #[.int .i64 x]) (Below n0) w xs) :
    Calls Tryz.prog 139 #[.func (.func gf) #[] lb] w fun e w' => ∃ v, e = .returned v ∧ App EI 3 1 w.heap.size w' v xs ∧ Below w.heap.size w w' := by
  have hc := AppendSeq_any gf lb eg xs n0 w hn hl hit
  clear hit eg
  go_enter Tryz.func139, Tryz.ntmps139
  go_wp2_with fail
  refine hc.mono ?_
  rintro e w1 ⟨v, rfl, hv, hb⟩
  have HE := Lib.hid (And.intro hv hb)
  clear hv hb hc
  go_wp2
  go_ret
  exact ⟨v, rfl, HE.out⟩
def sortI (xs : List Int) : List Int := xs.mergeSort fun x y => decide (x ≤ y)
theorem sortI_length (xs : List Int) : (sortI xs).length = xs.length := by simp [sortI]
theorem Sort_app (zs : List Int) (v : Value) (B : Nat) (w : World) (h : App EI 3 1 B w v zs) (hB : B ≤ w.heap.size) (hl : zs.length ≤ 1000000) :
    Calls Tryz.prog 140 #[v] w fun e w' => e = .returned (.tuple #[]) ∧ App EI 3 1 B w' v (sortI zs) ∧ Below B w w' := by
  rcases h.ints with ⟨rfl, rfl⟩ | ⟨g, cap, cur, rfl, h2, h3, h4, h5, h6, h7⟩
  · refine (Tryz.slices_Sort_int_none none 0 w).mono ?_
    rintro e w' ⟨rfl, rfl⟩
    exact ⟨rfl, by simpa [sortI] using h, Below.refl _ _⟩
  · refine (Tryz.slices_Sort_int g 0 cap zs w (holds_of_blockI h3 h7) (Array.getElem?_eq_some_iff.1 h3).1 (by omega)).mono ?_
    rintro e w' ⟨rfl, n, os, rfl⟩
    refine ⟨rfl, ⟨(sortI zs).map (Value.int .i64), ?_, ei_rep _ _⟩, h.grows (w0 := w) (grownBy_sortedI _) (Below.refl _ _) (Nat.le_refl _) hB⟩
    have := ownsRow_sortedI (n := n) (os := os) (sortI_length zs) h2 h3 h4 h5 h6
    rw [sortI_length]
    exact this
set_option maxRecDepth 100000 in
theorem Sorted_any (gf : Nat) (lb : Array Value) (eg : ∀ args w, (callFunc gf args).run Tryz.prog w = .ok (.enter gf args) w) (xs : List Int) (n0 : Nat) (w : World) (hn : n0 ≤ w.heap.size) (hl : xs.length ≤ 1000000)
    (hit : IterK Tryz.prog gf lb (fun _ x args => args = #[.int .i64 x]) (Below n0) w xs) :
    Calls Tryz.prog 104 #[.func (.func gf) #[] lb] w fun e w' => ∃ v, e = .returned v ∧ App EI 3 1 w.heap.size w' v (sortI xs) ∧ Below w.heap.size w w' := by
  have hc := Collect_any gf lb eg xs n0 w hn hl hit
  clear hit eg
  go_enter Tryz.func104, Tryz.ntmps104
  go_wp2_with fail
  refine hc.mono ?_
  rintro e w1 ⟨v, rfl, hv, hb⟩
  have hs := Sort_app xs v w.heap.size w1 hv hb.size hl
  have HE := Lib.hid hb
  clear hv hb hc
  go_wp2_with fail
  refine hs.mono ?_
  rintro e w2 ⟨rfl, hv, hb⟩
  have HF := Lib.hid (And.intro hv (HE.out.trans hb))
  clear hs hv hb
  go_wp2
  go_ret
  exact ⟨v, rfl, HF.out⟩
theorem Compact_app (zs : List Int) (v : Value) (B : Nat) (w : World) (h : App EI 3 1 B w v zs) (hB : B ≤ w.heap.size) (hl : zs.length ≤ 1000000) :
    Calls Tryz.prog 103 #[v] w fun e w' => ∃ A c, e = .returned (.slice A (Lib.compact zs).length c) ∧ Below B w w' := by
  rcases h.ints with ⟨rfl, rfl⟩ | ⟨g, cap, cur, rfl, h2, h3, h4, h5, h6, h7⟩
  · refine (Tryz.slices_Compact_int_empty none 0 w).mono ?_
    rintro e w' ⟨rfl, rfl⟩
    exact ⟨none, 0, by simp [Lib.compact, Lib.compactUpTo], Below.refl _ _⟩
  · refine (Tryz.slices_Compact_int g 0 cap zs w (holds_of_blockI h3 h7) (by omega) h4).mono ?_
    rintro e w' ⟨rfl, q, rfl⟩
    refine ⟨_, _, rfl, ?_⟩
    rw [← grow_empty (putRow _ _ _ _ _)]
    exact h.grows (w0 := w) (grownBy_sortedI _) (Below.refl _ _) (Nat.le_refl _) hB
theorem compact_nodup (xs : List Int) : (Lib.compact (sortI xs)).length < xs.length ↔ ¬ xs.Nodup := by
  have hs : (sortI xs).Pairwise (· ≤ ·) := (List.pairwise_mergeSort (le := fun x y => decide (x ≤ y)) (by simp; omega) (by simp; omega) xs).imp (by simp)
  have hp : (sortI xs).Perm xs := List.mergeSort_perm _ _
  rw [← sortI_length xs, ← hp.nodup_iff]
  generalize sortI xs = zs at hs
  constructor
  · intro h hn
    rw [Lib.compact_all zs (fun j hj => ?_)] at h
    · omega
    · unfold Lib.keeps
      simp only [decide_eq_true_eq]
      by_cases h0 : j = 0
      · exact .inl h0
      · refine .inr fun e => ?_
        rw [getElem!_pos _ _ (by simpa using hj), getElem!_pos _ _ (by simp; omega)] at e
        simp only [List.getElem_toArray] at e
        exact (List.pairwise_iff_getElem.1 hn) (j - 1) j (by omega) hj (by omega) e.symm
  · intro h
    refine Classical.byContradiction fun hn => h ?_
    have hle : (Lib.compact zs).length = zs.length := by have := Lib.compact_length_le zs; omega
    have hall : ∀ j, j < zs.length → Lib.keeps zs.toArray j = true := by
      unfold Lib.compact Lib.compactUpTo at hle
      rw [List.length_map] at hle
      have h2 := List.length_filter_eq_length_iff.1 (by rw [hle, List.length_range] : ((List.range zs.length).filter (Lib.keeps zs.toArray)).length = (List.range zs.length).length)
      exact fun j hj => h2 j (List.mem_range.2 hj)
    have hlt : zs.Pairwise (· < ·) := by
      rw [List.pairwise_iff_getElem] at hs ⊢
      intro i j hi hj hij
      have h1 := hall j hj
      unfold Lib.keeps at h1
      simp only [decide_eq_true_eq] at h1
      rcases h1 with h1 | h1
      · omega
      · rw [getElem!_pos _ _ (by simpa using hj), getElem!_pos _ _ (by simp; omega)] at h1
        simp only [List.getElem_toArray] at h1
        have h2 : zs[j - 1] ≤ zs[j] := hs (j - 1) j (by omega) hj (by omega)
        have h3 : zs[i] ≤ zs[j - 1] := by
          rcases Nat.lt_or_ge i (j - 1) with h | h
          · exact hs i (j - 1) hi (by omega) h
          · have : i = j - 1 := by omega
            subst this; exact Int.le_refl _
        omega
    exact hlt.imp (fun h e => by omega)
end Go.Proofs.YtfommmijojfdbaaGreatDoor
