/- What the packed texts left out. (Written by mkX0.py.) -/
import Derived.Test.YtfommmijojfdbaaGreatDoorZ02
import Derived.Test.YtfommmijojfdbaaGreatDoorZ04
import Derived.Test.YtfommmijojfdbaaGreatDoorZ13
import Derived.Deep.DeepCutAuto
import Derived.MapKept
import Derived.Deep.RegionHeld3
set_option linter.all false
namespace Go.Proofs.YtfommmijojfdbaaGreatDoor
open Go.RowKit
def cmpI (a b : Int) : Int := if a < b then -1 else if b < a then 1 else 0
theorem Compare1_any (a b : Int) (w : World) :
    Calls Tryz.prog 86 #[.int .i64 a, .int .i64 b] w fun e w' => e = .returned (.int .i64 (cmpI a b)) ∧ w = w' := by
  by_cases h1 : a < b
  · go_enter Tryz.func86, Tryz.ntmps86
    go_wp2
    go_ret
    exact ⟨ret_int (by unfold cmpI; rw [if_pos h1]), rfl⟩
  · by_cases h2 : b < a
    · go_enter Tryz.func86, Tryz.ntmps86
      go_wp2
      go_ret
      exact ⟨ret_int (by unfold cmpI; rw [if_neg (by omega), if_pos h2]), rfl⟩
    · go_enter Tryz.func86, Tryz.ntmps86
      go_wp2
      go_ret
      exact ⟨ret_int (by unfold cmpI; rw [if_neg (by omega), if_neg (by omega)]), rfl⟩
def cmpL : List Int → List Int → Int
  | [], [] => 0
  | [], _ :: _ => -1
  | _ :: _, [] => 1
  | x :: xs, y :: ys => if cmpI x y = 0 then cmpL xs ys else cmpI x y
theorem cmpL_nil_left (ys : List Int) : cmpL [] ys = if 0 < ys.length then -1 else 0 := by cases ys <;> simp [cmpL]
theorem Compare_any (A B : Option Addr) (c d : Nat) (xs ys : List Int) (w : World) (h : RdI w A xs) (h' : RdI w B ys) :
    Calls Tryz.prog 84 #[.slice A xs.length c, .slice B ys.length d] w fun e w' => e = .returned (.int .i64 (cmpL xs ys)) ∧ w = w' := by
  have hl := h.1
  have hl' := h'.1
  go_enter Tryz.func84, Tryz.ntmps84
  go_wp2
  go_loop [5, 11] (fun _ i => ∃ k : Nat, k ≤ xs.length ∧ k ≤ ys.length ∧ i = .int .i64 k ∧ Hid (cmpL xs ys = cmpL (xs.drop k) (ys.drop k))) (fun _ i => xs.length - (intOf i).toNat)
  case atStart => exact ⟨0, Nat.zero_le _, Nat.zero_le _, rfl, Lib.hid (by simp)⟩
  case round =>
    obtain ⟨k, hk, hk', rfl, HI⟩ := hrel
    by_cases hlt : k < xs.length
    · obtain ⟨b, o, rfl, hc⟩ := h.int k hlt
      clear h
      by_cases hlt' : k < ys.length
      · obtain ⟨b', o', rfl, hc'⟩ := h'.int k hlt'
        clear h'
        by_cases hx : cmpI xs[k] ys[k] = 0
        · have h1 : (cmpI xs[k] ys[k] != 0) = false := by simp [hx]
          have HX := Lib.hid hx
          clear hx
          go_wp2_with (go_at_call 86; refine (Compare1_any _ _ _).mono ?_; rintro e w' ⟨rfl, rfl⟩)
          go_round
          case rel => exact ⟨k + 1, by omega, by omega, by go_num, Lib.hid (by rw [HI.out, drop_cons xs k hlt, drop_cons ys k hlt', cmpL, if_pos HX.out])⟩
          case measure => simp [intOf]; omega
        · have h1 : (cmpI xs[k] ys[k] != 0) = true := by simp [hx]
          have HX := Lib.hid hx
          clear hx
          go_wp2_with (go_at_call 86; refine (Compare1_any _ _ _).mono ?_; rintro e w' ⟨rfl, rfl⟩)
          go_ret
          exact ⟨ret_int (by rw [HI.out, drop_cons xs k hlt, drop_cons ys k hlt', cmpL, if_neg HX.out]), rfl⟩
      · have hlen : ys.length ≤ k := by omega
        clear hk'
        go_wp2
        go_ret
        exact ⟨ret_int (by rw [HI.out, drop_cons xs k hlt, drop_end ys k hlen, cmpL]), rfl⟩
    · by_cases hlt' : xs.length < ys.length
      · have h1 : decide (xs.length < ys.length) = true := by simpa using hlt'
        go_wp2
        go_ret
        exact ⟨ret_int (by rw [HI.out, drop_end xs k (by omega), cmpL_nil_left, List.length_drop, if_pos (by omega)]), rfl⟩
      · have h1 : decide (xs.length < ys.length) = false := by simpa using hlt'
        go_wp2
        go_ret
        exact ⟨ret_int (by rw [HI.out, drop_end xs k (by omega), cmpL_nil_left, List.length_drop, if_neg (by omega)]), rfl⟩

theorem placed_any (s : M) (A : Option Addr) (c : Nat) (w : World) : Calls Tryz.prog 83 #[.agg #[.int .i64 s.rule, .int .i64 s.at_, .bool s.back, .slice A s.wires.length c]] w fun e w' => e = .returned (.agg #[.int .i64 s.rule, .bool s.back, .int .i64 s.at_]) ∧
    w' = (w.alloc (.cells #[.int .i64 s.rule, .int .i64 s.at_, .bool s.back, .slice A s.wires.length c] 27)).alloc (.cells #[.int .i64 s.rule, .bool s.back, .int .i64 s.at_] 110) := by
  go_enter Tryz.func83, Tryz.ntmps83
  go_wp2
  exact bodyPost_ret (results_cell_row rfl _ _ (w.heap.size + 1) 110 _ _ _ rfl ((show w.heap.size + 1 = (w.alloc (.cells #[.int .i64 s.rule, .int .i64 s.at_, .bool s.back, .slice A s.wires.length c] 27)).heap.size by simp) ▸ heap_alloc_new _ _) Tryz.underlying110 rfl (by kernel_rfl)) rfl ⟨rfl, rfl⟩

def backMap : Obj := .map #[{ key := .bool true, val := .int .i64 1, born := 0 }] 1
def bn (b : Bool) : Int := if b then 1 else 0
theorem lookup_back (w : World) (m : Nat) (b : Bool) (h : w.heap[m]? = some backMap) : (Instr.lookup 113 (.map (some m)) (.bool b) false).run Tryz.prog w = .ok (.int .i64 (bn b)) w := by
  unfold backMap at h
  cases b
  · simp [bn, Instr.lookup, run_underlying Tryz.underlying113, MapKept.run_getObj_map h, MapKept.run_checkKey Tryz.underlying4 (k := .bool false) (by simp [MapKept.IsKey]), Instr.findKey, Instr.findNow, Instr.sameNow, run_underlying Tryz.underlying4, Result.andThen]
  · simp [bn, Instr.lookup, run_underlying Tryz.underlying113, MapKept.run_getObj_map h, MapKept.run_checkKey Tryz.underlying4 (k := .bool true) (by simp [MapKept.IsKey]), Instr.findKey, Instr.findNow, Instr.sameNow, run_underlying Tryz.underlying4, Result.andThen]
theorem update_back (w : World) : (Instr.mapUpdate 113 (.map (some w.heap.size)) (.bool true) (.int .i64 1)).run Tryz.prog (w.alloc (.map #[] 0)) = .ok () (w.alloc backMap) := by
  have h := heap_alloc_new w (.map #[] 0)
  simp [Instr.mapUpdate, run_underlying Tryz.underlying113, MapKept.run_getObj_map h, MapKept.run_setObj_map _ h, MapKept.run_checkKey Tryz.underlying4 (k := .bool true) (by simp [MapKept.IsKey]), Instr.findKey, Instr.findNow, run_underlying Tryz.underlying4, Result.andThen]
  have e : (w.heap.push (.map #[] 0)).setIfInBounds w.heap.size backMap = w.heap.push backMap := by
    apply Array.ext
    · simp
    · intro i h1 h2
      rw [Array.getElem_setIfInBounds (by simpa using h1), Array.getElem_push, Array.getElem_push]
      by_cases hi : w.heap.size = i
      · subst hi; simp
      · have : i < w.heap.size := by simp at h1; omega
        simp [hi, this]
  show ({ heap := (w.heap.push (.map #[] 0)).setIfInBounds w.heap.size backMap, tape := w.tape, drawn := w.drawn, os := w.os, output := w.output } : World) = { heap := w.heap.push backMap, tape := w.tape, drawn := w.drawn, os := w.os, output := w.output }
  rw [e]
def orI : List Int → Int
  | [] => 0
  | x :: l => if x = 0 then orI l else x
theorem Or_any (A : Option Addr) (c : Nat) (xs : List Int) (w : World) (h : RdI w A xs) :
    Calls Tryz.prog 85 #[.slice A xs.length c] w fun e w' => e = .returned (.int .i64 (orI xs)) ∧ w = w' := by
  have hl := h.1
  go_enter Tryz.func85, Tryz.ntmps85
  go_wp2
  go_loop [5, 8] (fun _ i => ∃ k : Nat, k ≤ xs.length ∧ i = .int .i64 k ∧ Hid (orI xs = orI (xs.drop k))) (fun _ i => xs.length - (intOf i).toNat)
  case atStart => exact ⟨0, Nat.zero_le _, rfl, Lib.hid (by simp)⟩
  case round =>
    obtain ⟨k, hk, rfl, HI⟩ := hrel
    by_cases hlt : k < xs.length
    · obtain ⟨b, o, rfl, hc⟩ := h.int k hlt
      clear h
      by_cases hx : xs[k] = 0
      · have h1 : (xs[k] != 0) = false := by simp [hx]
        have HX := Lib.hid hx
        clear hx
        go_wp2
        go_round
        case rel => exact ⟨k + 1, by omega, by go_num, Lib.hid (by rw [HI.out, drop_cons xs k hlt, orI, if_pos HX.out])⟩
        case measure => simp [intOf]; omega
      · have h1 : (xs[k] != 0) = true := by simp [hx]
        have HX := Lib.hid hx
        clear hx
        go_wp2
        go_ret
        exact ⟨ret_int (by rw [HI.out, drop_cons xs k hlt, orI, if_neg HX.out]), rfl⟩
    · go_wp2
      go_ret
      exact ⟨ret_int (by rw [HI.out, drop_end xs k (by omega)]; rfl), rfl⟩
theorem bn_range (b : Bool) : 0 ≤ bn b ∧ bn b ≤ 1 := by cases b <;> decide
theorem wrap_bn (p q : Bool) : IntKind.i64.wrap (bn p - bn q) = bn p - bn q := by cases p <;> cases q <;> decide
theorem eq_place (a b c : Int) (p q : Bool) (d : Int) (w : World) : (binOp .eql 110 (.agg #[.int .i64 a, .bool p, .int .i64 b]) (.agg #[.int .i64 c, .bool q, .int .i64 d])).run Tryz.prog w = .ok (.bool (decide (a = c ∧ p = q ∧ b = d))) w := by
  by_cases h1 : a = c
  · by_cases h2 : p = q
    · by_cases h3 : b = d
      · subst h1 h2 h3; go_simp
      · subst h1 h2; go_simp
    · subst h1; go_simp
  · go_simp
def mless (s t : M) : Bool := if s.rule = t.rule ∧ s.back = t.back ∧ s.at_ = t.at_ then decide (cmpL s.wires t.wires < 0) else decide (orI [cmpI s.rule t.rule, bn s.back - bn t.back, cmpI s.at_ t.at_] < 0)
set_option maxRecDepth 100000 in
set_option maxHeartbeats 4000000 in
theorem Less_any (s t : M) (A B : Option Addr) (c d : Nat) (w : World) (h : RdI w A s.wires) (h' : RdI w B t.wires) : Calls Tryz.prog 41 #[.agg #[.int .i64 s.rule, .int .i64 s.at_, .bool s.back, .slice A s.wires.length c], .agg #[.int .i64 t.rule, .int .i64 t.at_, .bool t.back, .slice B t.wires.length d]] w fun e w' => e = .returned (.bool (mless s t)) ∧ Below w.heap.size w w' := by
  have HR := Lib.hid (And.intro h h')
  clear h h'
  go_enter Tryz.func41, Tryz.ntmps41
  go_wp2_with fail
  obtain ⟨W0, hW0⟩ : ∃ W0, (w.alloc (.cells #[.int .i64 s.rule, .int .i64 s.at_, .bool s.back, .slice A s.wires.length c] 27)).alloc (.cells #[.int .i64 t.rule, .int .i64 t.at_, .bool t.back, .slice B t.wires.length d] 27) = W0 := ⟨_, rfl⟩
  have HB0 := Lib.hid (show Below w.heap.size w W0 by rw [← hW0]; (repeat (first|exact bR _ _|assumption|apply bN|apply bA|apply bD)))
  have HC : Hid (∀ W', Below W0.heap.size W0 W' → (W'.cell? ⟨w.heap.size, 0, none⟩ = some (.int .i64 s.rule) ∧ W'.cell? ⟨w.heap.size, 1, none⟩ = some (.int .i64 s.at_) ∧ W'.cell? ⟨w.heap.size, 2, none⟩ = some (.bool s.back) ∧ W'.cell? ⟨w.heap.size, 3, none⟩ = some (.slice A s.wires.length c) ∧ W'.cell? ⟨w.heap.size + 1, 0, none⟩ = some (.int .i64 t.rule) ∧ W'.cell? ⟨w.heap.size + 1, 1, none⟩ = some (.int .i64 t.at_) ∧ W'.cell? ⟨w.heap.size + 1, 2, none⟩ = some (.bool t.back) ∧ W'.cell? ⟨w.heap.size + 1, 3, none⟩ = some (.slice B t.wires.length d))) := by
    refine Lib.hid fun W' hb => ?_
    subst hW0
    exact ⟨kc hb (by go_simp), kc hb (by go_simp), kc hb (by go_simp), kc hb (by go_simp), kc hb (by go_simp), kc hb (by go_simp), kc hb (by go_simp), kc hb (by go_simp)⟩
  rw [hW0]
  have HW := Lib.hid hW0
  clear hW0
  go_upto_region 1 with fail
  go_cut [5, 6] (fun u v wx => ∃ x y : Nat, u = .pointer (some ⟨x, 0, none⟩) ∧ v = .pointer (some ⟨y, 0, none⟩) ∧ (wx.cell? ⟨x, 0, none⟩ = some (.int .i64 s.rule) ∧ wx.cell? ⟨x, 1, none⟩ = some (.bool s.back) ∧ wx.cell? ⟨x, 2, none⟩ = some (.int .i64 s.at_)) ∧ (wx.cell? ⟨y, 0, none⟩ = some (.int .i64 t.rule) ∧ wx.cell? ⟨y, 1, none⟩ = some (.bool t.back) ∧ wx.cell? ⟨y, 2, none⟩ = some (.int .i64 t.at_)) ∧ Below W0.heap.size W0 wx)
  case first =>
    obtain ⟨_, _, _, _, _, _, _, _⟩ := HC.out W0 (Below.refl _ _)
    have hold := olds W0
    have hl : w.heap.size + 1 < W0.heap.size := cell_lt (by assumption)
    have hl0 : w.heap.size < W0.heap.size := by omega
    go_region_held3 (fun W' => W'.cell? ⟨w.heap.size, 0, none⟩ = some (.int .i64 s.rule) ∧ W'.cell? ⟨w.heap.size, 1, none⟩ = some (.int .i64 s.at_) ∧ W'.cell? ⟨w.heap.size, 2, none⟩ = some (.bool s.back) ∧ W'.cell? ⟨w.heap.size, 3, none⟩ = some (.slice A s.wires.length c) ∧ W'.cell? ⟨w.heap.size + 1, 0, none⟩ = some (.int .i64 t.rule) ∧ W'.cell? ⟨w.heap.size + 1, 1, none⟩ = some (.int .i64 t.at_) ∧ W'.cell? ⟨w.heap.size + 1, 2, none⟩ = some (.bool t.back) ∧ W'.cell? ⟨w.heap.size + 1, 3, none⟩ = some (.slice B t.wires.length d)) (exact HC.out _ (by (repeat (first | exact Below.refl _ _ | assumption | apply below_drewN | apply below_alloc | apply Below.drew | (refine Below.setCell ?_ (by simp; omega) _))))) (first | (go_at_call 83; refine (placed_any _ _ _ _).mono ?_; rintro e w5 ⟨rfl, rfl⟩))
    all_goals
      go_wp2_with fail
      go_meet
      exact ⟨_, _, rfl, rfl, ⟨by go_simp, by go_simp, by go_simp⟩, ⟨by go_simp, by go_simp, by go_simp⟩, by repeat (first | exact Below.refl _ _ | assumption | apply below_drewN | apply below_alloc | apply Below.drew | (refine Below.setCell ?_ (by simp; omega) _))⟩
  case rest =>
    obtain ⟨x, y, rfl, rfl, ⟨hx0, hx1, hx2⟩, ⟨hy0, hy1, hy2⟩, hB⟩ := hcut
    obtain ⟨_, _, _, _, _, _, _, _⟩ := HC.out wc hB
    have hmk : ∀ w, (Instr.makeMap 113 none).run Tryz.prog w = .ok (.map (some w.heap.size)) (w.alloc (.map #[] 0)) := fun _ => rfl
    have hup := update_back
    by_cases hp : s.rule = t.rule ∧ s.back = t.back ∧ s.at_ = t.at_
    · have HF := Lib.hid (show mless s t = decide (cmpL s.wires t.wires < 0) by unfold mless; rw [if_pos hp])
      have heq : ∀ w, (binOp .eql 110 (.agg #[.int .i64 s.rule, .bool s.back, .int .i64 s.at_]) (.agg #[.int .i64 t.rule, .bool t.back, .int .i64 t.at_])).run Tryz.prog w = .ok (.bool true) w := fun w => by rw [eq_place, decide_eq_true hp]
      clear hp
      go_wp2_with fail
      refine (Compare_any A B c d _ _ _ (HR.out.1.bI (HB0.out.trans (hB.mono HB0.out.size))) (HR.out.2.bI (HB0.out.trans (hB.mono HB0.out.size)))).mono ?_
      rintro e w5 ⟨rfl, rfl⟩
      go_wp2
      go_ret
      exact ⟨ret_bool (by rw [HF.out]), HB0.out.trans (hB.mono HB0.out.size)⟩
    · have heq : ∀ w, (binOp .eql 110 (.agg #[.int .i64 s.rule, .bool s.back, .int .i64 s.at_]) (.agg #[.int .i64 t.rule, .bool t.back, .int .i64 t.at_])).run Tryz.prog w = .ok (.bool false) w := fun w => by rw [eq_place, decide_eq_false hp]
      have HF := Lib.hid (show mless s t = decide (orI [cmpI s.rule t.rule, bn s.back - bn t.back, cmpI s.at_ t.at_] < 0) by unfold mless; rw [if_neg hp])
      obtain ⟨b1, b2⟩ := bn_range s.back
      obtain ⟨b3, b4⟩ := bn_range t.back
      have HK : Hid (∀ W', Below (wc.alloc backMap).heap.size (wc.alloc backMap) W' → (fun W' => W'.cell? ⟨x, 0, none⟩ = some (.int .i64 s.rule) ∧ W'.cell? ⟨x, 1, none⟩ = some (.bool s.back) ∧ W'.cell? ⟨x, 2, none⟩ = some (.int .i64 s.at_) ∧ W'.cell? ⟨y, 0, none⟩ = some (.int .i64 t.rule) ∧ W'.cell? ⟨y, 1, none⟩ = some (.bool t.back) ∧ W'.cell? ⟨y, 2, none⟩ = some (.int .i64 t.at_) ∧ (Instr.lookup 113 (.map (some wc.heap.size)) (.bool s.back) false).run Tryz.prog W' = .ok (.int .i64 (bn s.back)) W' ∧ (Instr.lookup 113 (.map (some wc.heap.size)) (.bool t.back) false).run Tryz.prog W' = .ok (.int .i64 (bn t.back)) W') W') := by
        refine Lib.hid fun W' hb => ?_
        have hm := (hb.block wc.heap.size (by simp)).trans (heap_alloc_new wc backMap)
        exact ⟨kc hb (kc (below_alloc (Below.refl _ _) _) hx0), kc hb (kc (below_alloc (Below.refl _ _) _) hx1), kc hb (kc (below_alloc (Below.refl _ _) _) hx2), kc hb (kc (below_alloc (Below.refl _ _) _) hy0), kc hb (kc (below_alloc (Below.refl _ _) _) hy1), kc hb (kc (below_alloc (Below.refl _ _) _) hy2), lookup_back W' _ _ hm, lookup_back W' _ _ hm⟩
      clear hp
      go_wp2_with fail
      go_region_held3 (fun W' => W'.cell? ⟨x, 0, none⟩ = some (.int .i64 s.rule) ∧ W'.cell? ⟨x, 1, none⟩ = some (.bool s.back) ∧ W'.cell? ⟨x, 2, none⟩ = some (.int .i64 s.at_) ∧ W'.cell? ⟨y, 0, none⟩ = some (.int .i64 t.rule) ∧ W'.cell? ⟨y, 1, none⟩ = some (.bool t.back) ∧ W'.cell? ⟨y, 2, none⟩ = some (.int .i64 t.at_) ∧ (Instr.lookup 113 (.map (some wc.heap.size)) (.bool s.back) false).run Tryz.prog W' = .ok (.int .i64 (bn s.back)) W' ∧ (Instr.lookup 113 (.map (some wc.heap.size)) (.bool t.back) false).run Tryz.prog W' = .ok (.int .i64 (bn t.back)) W') (exact HK.out _ (by (repeat (first | exact Below.refl _ _ | assumption | apply below_drewN | apply below_alloc | apply Below.drew)))) (first | (go_at_call 86; refine (Compare1_any _ _ _).mono ?_; rintro e w' ⟨rfl, rfl⟩) | (go_at_call 85; rw [wrap_bn]; refine (Or_any (some ⟨wc.heap.size + 1, 0, none⟩) 3 [cmpI s.rule t.rule, bn s.back - bn t.back, cmpI s.at_ t.at_] _ (Rd.bI (RdI.lit (wc.alloc backMap) 3 [cmpI s.rule t.rule, bn s.back - bn t.back, cmpI s.at_ t.at_] (by simp) _ (by simp)) (Below.drew (Below.refl _ _)))).mono ?_; rintro e w' ⟨rfl, rfl⟩))
      all_goals
        go_wp2
        go_ret
        exact ⟨ret_bool HF.out.symm, HB0.out.trans (Below.mono (B := W0.heap.size) (by (repeat (first|exact bR _ _|assumption|apply bN|apply bA|apply bD))) HB0.out.size)⟩
end Go.Proofs.YtfommmijojfdbaaGreatDoor
