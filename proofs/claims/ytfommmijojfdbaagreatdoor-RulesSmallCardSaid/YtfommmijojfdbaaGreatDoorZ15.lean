/- Part 16 of the proof that 'spoondriftlaw19.RulesApplies' holds for every input; it has no condition beyond the statement's own. -/
import Derived.Test.YtfommmijojfdbaaGreatDoorZ14
import Derived.Deep.DeepCutAuto
import Derived.BigQuiet
set_option linter.all false
namespace Go.Proofs.YtfommmijojfdbaaGreatDoor
open Go.RowKit
def goodG (wires : Int) (g : G) : Prop := 1 ≤ g.kind ∧ g.kind ≤ 12 ∧ (g.wires.length : Int) = arity g.kind ∧ (∀ n ∈ g.wires, 0 ≤ n ∧ n < wires) ∧ g.wires.Nodup ∧ g.bit = 0 ∧ g.cif = 0
theorem goodG_iff {wires bits : Int} {g : G} (hb : 0 ≤ bits) : (gateErr wires bits g = 0 ∧ plainG g = true) ↔ goodG wires g := by
  constructor
  · rintro ⟨h, hp⟩
    obtain ⟨h1, h2, h3, h4, h5, h6⟩ := gate_ok h
    simp only [plainG, decide_eq_true_eq] at hp
    refine ⟨?_, hp.1, h2, h3, h4, h6 (by omega), hp.2⟩
    unfold arity at h1
    (repeat' split at h1) <;> omega
  · rintro ⟨h1, h2, h3, h4, h5, h6, h7⟩
    refine ⟨?_, by simp [plainG, h2, h7]⟩
    unfold gateErr
    rw [if_neg (by unfold arity; (repeat' split) <;> omega), if_neg (by omega), if_neg (by simpa using h4), if_neg (by simpa using h5), if_neg (by omega), if_neg (by omega)]
theorem checkG_iff {wires bits : Int} : ∀ {l : List G}, checkG wires bits l = 0 ↔ ∀ g ∈ l, gateErr wires bits g = 0
  | [] => by simp [checkG]
  | g :: l => by
    unfold checkG
    by_cases h : gateErr wires bits g = 0
    · rw [if_pos h, checkG_iff]; simp [h]
    · rw [if_neg h]; simp [h]
theorem good_iff {c : C} : Good c ↔ (1 ≤ c.wires ∧ c.wires ≤ 12 ∧ 0 ≤ c.bits ∧ c.bits ≤ 8) ∧ c.gates.length ≤ 120 ∧ ∀ g ∈ c.gates, goodG c.wires g := by
  unfold Good check
  constructor
  · rintro ⟨h, hp⟩
    split at h
    · cases h
    split at h
    · cases h
    rename_i h1 h2
    exact ⟨by omega, by omega, fun g hg => (goodG_iff (by omega)).1 ⟨checkG_iff.1 h g hg, List.all_eq_true.1 hp g hg⟩⟩
  · rintro ⟨h1, h2, h3⟩
    rw [if_neg (by omega), if_neg (by omega)]
    exact ⟨checkG_iff.2 fun g hg => ((goodG_iff h1.2.2.1).2 (h3 g hg)).1, List.all_eq_true.2 fun g hg => ((goodG_iff h1.2.2.1).2 (h3 g hg)).2⟩
def okG (n : Int) (g : G) : Bool := decide (1 ≤ g.kind) && decide (g.kind ≤ 12) && decide ((g.wires.length : Int) = arity g.kind) && (g.wires.all fun k => decide (0 ≤ k) && decide (k < n)) && decide g.wires.Nodup && decide (g.bit = 0) && decide (g.cif = 0)
theorem rule_good (i : Nat) (hi : i < 44) (back : Bool) : ∀ g ∈ toG i back, goodG (ruleW i) g := by
  have all : ∀ i, i < 44 → ((ruleL i).all (okG (ruleW i)) && (ruleR i).all (okG (ruleW i))) = true := by decide
  have h := all i hi
  rw [Bool.and_eq_true] at h
  have key : (toG i back).all (okG (ruleW i)) = true := by unfold toG; cases back <;> simp [h.1, h.2]
  intro g hg
  have := List.all_eq_true.1 key g hg
  unfold okG at this
  simp only [Bool.and_eq_true, decide_eq_true_eq, List.all_eq_true] at this
  obtain ⟨⟨⟨⟨⟨⟨h1, h2⟩, h3⟩, h4⟩, h5⟩, h6⟩, h7⟩ := this
  exact ⟨h1, h2, h3, h4, h5, h6, h7⟩
theorem getD_inj {ws : List Int} (hn : ws.Nodup) {a b : Nat} (ha : a < ws.length) (hb : b < ws.length) (h : ws.getD a 0 = ws.getD b 0) : a = b := by
  rw [List.getD_eq_getElem?_getD, List.getD_eq_getElem?_getD, List.getElem?_eq_getElem ha, List.getElem?_eq_getElem hb] at h
  simp only [Option.getD_some] at h
  rcases Nat.lt_trichotomy a b with hab | hab | hab
  · exact absurd h (List.pairwise_iff_getElem.1 hn a b ha hb hab)
  · exact hab
  · exact absurd h.symm (List.pairwise_iff_getElem.1 hn b a hb ha hab)
theorem onG_good {n : Int} {ws : List Int} {wires : Int} {g : G} (h : goodG n g) (hl : (ws.length : Int) = n) (hw : ∀ x ∈ ws, 0 ≤ x ∧ x < wires) (hn : ws.Nodup) : goodG wires (onG ws g) := by
  obtain ⟨h1, h2, h3, h4, h5, h6, h7⟩ := h
  refine ⟨h1, h2, by simpa [onG, onW] using h3, ?_, ?_, h6, h7⟩
  · intro x hx
    simp only [onG, onW, List.mem_map] at hx
    obtain ⟨k, hk, rfl⟩ := hx
    have hk2 := h4 k hk
    have hlt : k.toNat < ws.length := by omega
    rw [List.getD_eq_getElem?_getD, List.getElem?_eq_getElem hlt]
    exact hw _ (List.getElem_mem hlt)
  · simp only [onG, onW]
    rw [List.Nodup, List.pairwise_map]
    refine List.Pairwise.imp_of_mem (fun {a b} ha hb hab e => hab ?_) h5
    have h8 := h4 a ha
    have h9 := h4 b hb
    have := getD_inj hn (by omega) (by omega) e
    omega
theorem mem_swapG {l : List G} {k : Nat} {g : G} (h : g ∈ swapG l k) : g ∈ l := by
  unfold swapG at h
  split at h
  · rename_i a b ha hb
    rcases List.mem_or_eq_of_mem_set h with h | rfl
    · rcases List.mem_or_eq_of_mem_set h with h | rfl
      · exact h
      · exact List.mem_of_getElem? hb
    · exact List.mem_of_getElem? ha
  · exact h
theorem swapG_length (l : List G) (k : Nat) : (swapG l k).length = l.length := by unfold swapG; split <;> simp
theorem step_good {c c' : C} {s : M} {p : Int} (hG : Good c) (h : applyR c s = (0, c', p)) : Good c' ∧ c'.wires = c.wires ∧ c'.bits = c.bits := by
  obtain ⟨g1, g2, g3⟩ := good_iff.1 hG
  unfold applyR at h
  split at h
  case isFalse hm => simp only [Prod.mk.injEq] at h; exact absurd h.1 hm
  rename_i hm
  unfold moveE at hm
  split at hm
  · cases hm
  split at hm
  · cases hm
  split at hm
  · cases hm
  split at hm
  · cases hm
  split at hm
  · cases hm
  rename_i h1 h2 h3 h4 h5
  unfold stepR at h
  split at h
  · unfold stepX at h
    split at h
    · simp only [Prod.mk.injEq] at h
      obtain ⟨_, rfl, _⟩ := h
      exact ⟨good_iff.2 ⟨g1, by rw [swapG_length]; exact g2, fun g hg => g3 g (mem_swapG hg)⟩, rfl, rfl⟩
    · simp only [Prod.mk.injEq] at h; cases h.1
  · unfold stepN at h
    split at h
    · simp only [Prod.mk.injEq] at h; cases h.1
    split at h
    · simp only [Prod.mk.injEq] at h; cases h.1
    rename_i hn hl
    simp only [Prod.mk.injEq] at h
    obtain ⟨_, rfl, _⟩ := h
    unfold notThere at hn
    simp only [Bool.or_eq_true, decide_eq_true_eq, not_or, Nat.not_lt] at hn
    refine ⟨good_iff.2 ⟨g1, ?_, fun g hg => ?_⟩, rfl, rfl⟩
    · simp only [List.length_append, List.length_take, List.length_drop]
      omega
    · rcases List.mem_append.1 hg with hg | hg
      · rcases List.mem_append.1 hg with hg | hg
        · exact g3 g (List.mem_of_mem_take hg)
        · unfold toOn at hg
          obtain ⟨x, hx, rfl⟩ := List.mem_map.1 hg
          exact onG_good (rule_good _ (by omega) _ x hx) (by simpa using h3) (by simpa using h4) (by simpa using h5)
      · exact g3 g (List.mem_of_mem_drop hg)
def followS : C → Int → List M → Int × C × Int
  | c, p, [] => (0, c, p)
  | c, p, s :: l => if (applyR c s).1 = 0 then followS (applyR c s).2.1 ((p + (applyR c s).2.2) % 8) l else ((applyR c s).1, zeroC, 0)
def followR (c : C) (l : List M) : Int × C × Int := if 400 < l.length then (2, zeroC, 0) else followS c 0 l
def FollowR (c : C) (l : List M) : Int × C × Int := if plainE c = 0 then followR c l else (plainE c, zeroC, 0)
set_option maxRecDepth 1000000 in
set_option maxHeartbeats 8000000 in
theorem stepN_any (A B : Option Addr) (k d : Nat) (c : C) (i at_ : Nat) (back : Bool) (ws : List Int) (w : World) (HT : Hid (Laid w)) (h : RdG w A c.gates) (hk : c.gates.length ≤ k) (h' : RdI w B ws) (hG : Good c) (hi : i < 43) (hat : at_ ≤ c.gates.length) (hw : (ws.length : Int) = ruleW i) :
    Calls Tryz.prog 106 #[.agg #[.int .i64 c.wires, .int .i64 c.bits, .slice A c.gates.length k], .agg #[.int .i64 i, .int .i64 at_, .bool back, .slice B ws.length d]] w (RetC (stepN c i at_ back ws) w) := by
  have hlen := hG.len
  obtain ⟨fl, fw⟩ := from_wires i (by omega) back
  obtain ⟨tl, tw⟩ := to_wires i (by omega) back
  have HH := Lib.hid (And.intro h (And.intro h' (And.intro hG (And.intro hw (And.intro fw tw)))))
  obtain ⟨fn, hfn⟩ : ∃ n, (fromG i back).length = n := ⟨_, rfl⟩
  obtain ⟨tn, htn⟩ : ∃ n, (toG i back).length = n := ⟨_, rfl⟩
  rw [hfn] at fl
  rw [htn] at tl
  have HN := Lib.hid (And.intro hfn htn)
  clear h h' hG hw fw tw hfn htn
  have h43 : ((i : Int) == 43) = false := by simp; omega
  go_enter Tryz.func106, Tryz.ntmps106
  go_wp2_with fail
  obtain ⟨W1, hW1⟩ : ∃ W1, (((w.alloc (.cells #[.int .i64 c.wires, .int .i64 c.bits, .slice A c.gates.length k] 93)).alloc (.cells #[.int .i64 i, .int .i64 at_, .bool back, .slice B ws.length d] 27)).alloc (.cells #[.int .i64 0, .int .i64 0, .slice none 0 0] 24)).alloc (.cells #[.int .i64 c.wires, .int .i64 c.bits, .slice none 0 0] 24) = W1 := ⟨_, rfl⟩
  have hb01 : Below w.heap.size w W1 := by rw [← hW1]; (repeat (first|exact bR _ _|assumption|apply bN|apply bA|apply bD))
  have hz1 : W1.heap.size = w.heap.size + 4 := by rw [← hW1]; simp
  have p0 : W1.heap[w.heap.size]? = some (.cells #[.int .i64 c.wires, .int .i64 c.bits, .slice A c.gates.length k] 93) := by rw [← hW1]; exact alloc_old (alloc_old (alloc_old (blk_alloc _ _ _ rfl)))
  have p1 : W1.heap[w.heap.size + 1]? = some (.cells #[.int .i64 i, .int .i64 at_, .bool back, .slice B ws.length d] 27) := by rw [← hW1]; exact alloc_old (alloc_old (blk_alloc _ _ _ (by simp)))
  have p2 : W1.heap[w.heap.size + 1 + 1]? = some (.cells #[.int .i64 0, .int .i64 0, .slice none 0 0] 24) := by rw [← hW1]; exact alloc_old (blk_alloc _ _ _ (by simp))
  have p3 : W1.heap[w.heap.size + 1 + 1 + 1]? = some (.cells #[.int .i64 c.wires, .int .i64 c.bits, .slice none 0 0] 24) := by rw [← hW1]; exact blk_alloc _ _ _ (by simp)
  rw [hW1]
  clear hW1
  refine (sides_any i (by omega) back W1 (Lib.hid (HT.out.below hb01))).mono ?_
  rintro e w2 ⟨v1, v2, rfl, ho1, ho2, hb⟩
  have ok1 : (fromG i back).length ≤ 35184372088832 := by rw [HN.out.1]; omega
  have ok2 : (toG i back).length ≤ 35184372088832 := by rw [HN.out.2]; omega
  obtain ⟨A1, c1, rfl, hc1, r1⟩ := Own.rd ho1 ok1 (fun g hg => by have := (HH.out.2.2.2.2.1 g hg).1; omega)
  obtain ⟨A2, c2, rfl, hc2, r2⟩ := Own.rd ho2 ok2 (fun g hg => by have := (HH.out.2.2.2.2.2 g hg).1; omega)
  rw [HN.out.1] at hc1 ⊢
  rw [HN.out.2] at hc2 ⊢
  have HR := Lib.hid (And.intro r1 r2)
  have hb02 := hb01.trans (hb.mono hb01.size)
  have hw2 : w.heap.size + 4 ≤ w2.heap.size := by have := hb.size; omega
  replace p0 := blk2 hb p0
  replace p1 := blk2 hb p1
  replace p2 := blk2 hb p2
  replace p3 := blk2 hb p3
  have HP := Lib.hid (And.intro p0 (And.intro p1 (And.intro p2 p3)))
  obtain ⟨a0, a1, a2, af⟩ := cells3 p0
  obtain ⟨b0, b1, b2, b3, bf⟩ := cells4 p1
  clear ho1 ho2 r1 r2 hb p0 p1 p2 p3 hb01 hz1 ok1 ok2
  go_upto_region 11 with fail
  go_cut [87] (fun u wx => u = .bool (notThere c i at_ back ws) ∧ Below w2.heap.size w2 wx)
  case first =>
    have hS : ∀ W', Below w2.heap.size w2 W' → W'.cell? ⟨w.heap.size, 2, none⟩ = some (.slice A c.gates.length k) ∧ W'.cell? ⟨w.heap.size + 1, 1, none⟩ = some (.int .i64 at_) ∧ W'.cell? ⟨w.heap.size + 1, 3, none⟩ = some (.slice B ws.length d) := fun W' hb => ⟨kc hb a2, kc hb b1, kc hb b3⟩
    have HS := Lib.hid hS
    clear hS
    by_cases hend : c.gates.length < at_ + fn
    · have hg : decide (((c.gates.length : Nat) : Int) < (at_ : Int) + (fn : Int)) = true := by simp; omega
      have HE := Lib.hid (show notThere c i at_ back ws = true by unfold notThere fromOn; rw [List.length_map, HN.out.1]; simp [hend])
      go_quiet (fail)
      go_wp2_with fail
      go_meet
      exact ⟨by rw [HE.out], by (repeat (first|exact bR _ _|assumption|apply bN|apply bA|apply bD))⟩
    · have hg : decide (((c.gates.length : Nat) : Int) < (at_ : Int) + (fn : Int)) = false := by simp; omega
      have hwo : (ws.length : Int) = ruleW i := HH.out.2.2.2.1
      have HE := Lib.hid (show notThere c i at_ back ws = !decide ((fromG i back).map (onG ws) = (c.gates.drop at_).take fn) by unfold notThere fromOn; rw [List.length_map, HN.out.1, decide_eq_false hend]; rfl)
      have HL := Lib.hid (show ((c.gates.drop at_).take fn).length = fn by rw [List.length_take, List.length_drop]; omega)
      have HX := Lib.hid (show (fromG i back).length ≤ 1000000 ∧ (fromG i back).length = fn by rw [HN.out.1]; exact ⟨by omega, rfl⟩)
      have hz : (0 : Int) ≤ (at_ : Int) ∧ (at_ : Int) ≤ (at_ : Int) + (fn : Int) ∧ (at_ : Int) + (fn : Int) ≤ (k : Int) := ⟨by omega, by omega, by omega⟩
      obtain ⟨hz0, hz1, hz2⟩ := hz
      have hfw : ∀ g ∈ fromG i back, g.wires.length ≤ 1000000 ∧ ∀ k ∈ g.wires, 0 ≤ k ∧ k < ws.length := fun g hg => by
        obtain ⟨h1, h2⟩ := HH.out.2.2.2.2.1 g hg
        exact ⟨by omega, fun k hk => by have := h2 k hk; omega⟩
      have HFW := Lib.hid hfw
      clear hfw hwo hg
      have hg : decide (((c.gates.length : Nat) : Int) < (at_ : Int) + (fn : Int)) = false := by simp; omega
      have hg2 : decide (c.gates.length < at_ + fn) = false := by simp; omega
      have hg3 : ¬ ((c.gates.length : Nat) : Int) < (at_ : Int) + (fn : Int) := by omega
      have hc1 : ∀ W', Below w2.heap.size w2 W' → Calls Tryz.prog 143 #[.slice A1 fn c1, .slice B ws.length d] W' fun e w' => ∃ A51 c51, e = .returned (.slice A51 fn c51) ∧ fn ≤ c51 ∧ Hid (RdG w' A51 ((fromG i back).map (onG ws))) ∧ Below w2.heap.size w2 w' := fun W' hb => by
        have h0 := on_any A1 B c1 d (fromG i back) ws W' (HR.out.1.bG hb) (by rw [HX.out.2]; exact hc1) ((HH.out.2.1.bI hb02).bI hb) HX.out.1 HFW.out
        rw [HX.out.2] at h0
        refine h0.mono ?_
        rintro e w51 ⟨v51, rfl, ho51, hb51⟩
        obtain ⟨A51, c51, rfl, hc51, r51⟩ := Own.rd ho51 (by rw [List.length_map]; have := HX.out.1; omega) (fun g hg => by obtain ⟨g', hg', rfl⟩ := List.mem_map.1 hg; simp only [onG, onW, List.length_map]; have := (HFW.out g' hg').1; omega)
        rw [List.length_map, HX.out.2] at hc51 ⊢
        exact ⟨A51, c51, rfl, hc51, r51, hb.trans (hb51.mono hb.size)⟩
      replace hc1 := Lib.hid hc1
      obtain ⟨A9, hA9⟩ : ∃ A9, (if k = at_ then A else Option.map (fun x => x.add (at_ * 4)) A) = A9 := ⟨_, rfl⟩
      have HA9 := Lib.hid hA9
      clear hA9
      have hc2 : ∀ W' A51 c51, Below w2.heap.size w2 W' → Hid (RdG W' A51 ((fromG i back).map (onG ws))) → Calls Tryz.prog 64 #[.slice A51 fn c51, .slice A9 fn (k - at_), .func (.func 121) #[] #[]] W' fun e w' => e = .returned (.bool (decide ((fromG i back).map (onG ws) = (c.gates.drop at_).take fn))) ∧ Below w2.heap.size w2 w' := fun W' A51 c51 hb hr => by
        have hlr : ((fromG i back).map (onG ws)).length = fn := by rw [List.length_map, HX.out.2]
        have h0 := EqualFunc_any A51 (if k = at_ then A else Option.map (fun x => x.add (at_ * 4)) A) c51 (k - at_) ((fromG i back).map (onG ws)) ((c.gates.drop at_).take fn) 121 #[] W' hr.out (Rd.take (Rd.sub ((HH.out.1.bG hb02).bG hb) hk) fn) (rsame_any _ _ _) (enters_of Tryz.func121 (by kernel_rfl) rfl)
        rw [hlr, HL.out, HA9.out] at h0
        refine h0.mono ?_
        rintro e w52 ⟨rfl, hb52⟩
        exact ⟨rfl, hb.trans (hb52.mono hb.size)⟩
      replace hc2 := Lib.hid hc2
      have hA9 := HA9.out
      have hnat : ((at_ : Int) + (fn : Int)).toNat = at_ + fn := by omega
      go_region_held3 (fun W' => W'.cell? ⟨w.heap.size, 2, none⟩ = some (.slice A c.gates.length k) ∧ W'.cell? ⟨w.heap.size + 1, 1, none⟩ = some (.int .i64 at_) ∧ W'.cell? ⟨w.heap.size + 1, 3, none⟩ = some (.slice B ws.length d)) (exact HS.out _ (by first | assumption | (repeat (first|exact bR _ _|assumption|apply bN|apply bA|apply bD)))) (first
        | (go_at_call 143; refine (hc1.out _ (by (repeat (first|exact bR _ _|assumption|apply bN|apply bA|apply bD)))).mono ?_; rintro e w51 ⟨A51, c51, rfl, hc51, HR51, hb51⟩; dsimp only)
        | (go_at_call 64; refine (hc2.out _ _ _ hb51 HR51).mono ?_; rintro e w52 ⟨rfl, hb52⟩; dsimp only))
      go_wp2_with fail
      go_meet
      exact ⟨by rw [HE.out], by first | assumption | (repeat (first|exact bR _ _|assumption|apply bN|apply bA|apply bD))⟩
  case rest =>
    obtain ⟨rfl, hbx⟩ := hcut
    have hnl : ((toG i back).map (onG ws)).length = tn := by rw [List.length_map, HN.out.2]
    have hfl : ((fromG i back).map (onG ws)).length = fn := by rw [List.length_map, HN.out.1]
    have HNL := Lib.hid (And.intro hnl hfl)
    clear hnl hfl
    have hb0x := hb02.trans (hbx.mono (by omega))
    have p2 := blk2 hbx HP.out.2.2.1
    have p3 := blk2 hbx HP.out.2.2.2
    replace a0 := kc hbx a0
    replace a1 := kc hbx a1
    replace a2 := kc hbx a2
    replace b1 := kc hbx b1
    replace b3 := kc hbx b3
    obtain ⟨_, _, _, hf2⟩ := cells3 p2
    obtain ⟨q0, q1, q2, hf3⟩ := cells3 p3
    have hwx := hbx.size
    have HPX := Lib.hid (And.intro p2 p3)
    clear p2 p3
    obtain ⟨nt, hnt⟩ : ∃ nt, notThere c i at_ back ws = nt := ⟨_, rfl⟩
    have HNT := Lib.hid hnt
    rw [hnt]
    clear hnt
    cases nt
    · by_cases hl : 120 < (c.gates.length : Int) + tn - fn
      · have hl1 : decide ((120 : Int) < (c.gates.length : Int) + (tn : Int) - (fn : Int)) = true := by simpa using hl
        have HF := Lib.hid (show stepN c i at_ back ws = (11, zeroC, 0) by unfold stepN; rw [HNT.out]; unfold toOn fromOn; rw [HNL.out.1, HNL.out.2, if_neg (by simp), if_pos hl])
        clear hl
        go_wp2
        rw [HF.out]
        exact bodyPost_ret (results_list (rs := [.cell 4 24, .tmp 5, .tmp 6]) rfl (by simp) (.cell (w.heap.size + 1 + 1) 24 _ _ _ rfl (set3 HPX.out.1) Tryz.underlying24 rfl (by kernel_rfl) (.tmp (.tmp .nil)))) rfl
          ⟨_, rfl, own_nil _ _ _ _, ((hb0x.setCell (by simp; omega) _).setCell (by simp; omega) _).setCell (by simp; omega) _⟩
      · have hl1 : decide ((120 : Int) < (c.gates.length : Int) + (tn : Int) - (fn : Int)) = false := by simpa using hl
        have HF := Lib.hid (show stepN c i at_ back ws = (0, ⟨c.wires, c.bits, c.gates.take at_ ++ (toG i back).map (onG ws) ++ c.gates.drop (at_ + fn)⟩, phaseN i back) by unfold stepN; rw [HNT.out]; unfold toOn fromOn; rw [HNL.out.1, HNL.out.2, if_neg (by simp), if_neg hl])
        clear hl
        have HR2 := Lib.hid (HR.out.2.bG hbx)
        have hwo : (ws.length : Int) = ruleW i := HH.out.2.2.2.1
        have hfw : ∀ g ∈ toG i back, g.wires.length ≤ 1000000 ∧ ∀ k ∈ g.wires, 0 ≤ k ∧ k < ws.length := fun g hg => by
          obtain ⟨h1, h2⟩ := HH.out.2.2.2.2.2 g hg
          exact ⟨by omega, fun k hk => by have := h2 k hk; omega⟩
        have HFW := Lib.hid hfw
        clear hfw hwo
        have HX := Lib.hid (show (toG i back).length ≤ 1000000 ∧ (toG i back).length = tn by rw [HN.out.2]; exact ⟨by omega, rfl⟩)
        have hfit : at_ + fn ≤ c.gates.length := by
          have := HNT.out
          unfold notThere fromOn at this
          rw [HNL.out.2] at this
          simp at this
          omega
        obtain ⟨A9, hA9⟩ : ∃ A9, (if k = at_ + fn then A else Option.map (fun x => x.add ((at_ + fn) * 4)) A) = A9 := ⟨_, rfl⟩
        have HA9 := Lib.hid hA9
        have hc1 : ∀ W', Below wc.heap.size wc W' → Calls Tryz.prog 143 #[.slice A2 tn c2, .slice B ws.length d] W' fun e w' => ∃ A51 c51, e = .returned (.slice A51 tn c51) ∧ tn ≤ c51 ∧ Hid (RdG w' A51 ((toG i back).map (onG ws))) ∧ Below wc.heap.size wc w' := fun W' hb => by
          have h0 := on_any A2 B c2 d (toG i back) ws W' (HR2.out.bG hb) (by rw [HX.out.2]; exact hc2) ((HH.out.2.1.bI hb0x).bI (hb.mono (by omega))) HX.out.1 HFW.out
          rw [HX.out.2] at h0
          refine h0.mono ?_
          rintro e w51 ⟨v51, rfl, ho51, hb51⟩
          obtain ⟨A51, c51, rfl, hc51, r51⟩ := Own.rd ho51 (by rw [List.length_map]; have := HX.out.1; omega) (fun g hg => by obtain ⟨g', hg', rfl⟩ := List.mem_map.1 hg; simp only [onG, onW, List.length_map]; have := (HFW.out g' hg').1; omega)
          rw [List.length_map, HX.out.2] at hc51 ⊢
          exact ⟨A51, c51, rfl, hc51, r51, hb.trans (hb51.mono hb.size)⟩
        replace hc1 := Lib.hid hc1
        have hgl : ∀ l, l = c.gates.take at_ ∨ l = (toG i back).map (onG ws) ∨ l = c.gates.drop (at_ + fn) → l.length ≤ 120 ∧ ∀ g ∈ l, g.wires.length ≤ 1000000 := by
          rintro l (rfl | rfl | rfl)
          · exact ⟨by rw [List.length_take]; omega, fun g hg => HH.out.2.2.1.wires g (List.mem_of_mem_take hg)⟩
          · refine ⟨by rw [HNL.out.1]; omega, fun g hg => ?_⟩
            obtain ⟨g', hg', rfl⟩ := List.mem_map.1 hg
            simp only [onG, onW, List.length_map]
            exact (HFW.out g' hg').1
          · exact ⟨by rw [List.length_drop]; omega, fun g hg => HH.out.2.2.1.wires g (List.mem_of_mem_drop hg)⟩
        have hll : (c.gates.take at_).length = at_ ∧ (c.gates.drop (at_ + fn)).length = c.gates.length - (at_ + fn) := ⟨by rw [List.length_take]; omega, by rw [List.length_drop]⟩
        have HGL := Lib.hid (And.intro hgl hll)
        clear hgl hll
        have hc2 : ∀ W' A51 c51, Below wc.heap.size wc W' → Hid (RdG W' A51 ((toG i back).map (onG ws))) → tn ≤ c51 → Calls Tryz.prog 81 #[.slice (some ⟨W'.heap.size, 0, none⟩) 3 3] (W'.alloc (.cells #[.slice A at_ k, .slice A51 tn c51, .slice A9 (c.gates.length - (at_ + fn)) (k - (at_ + fn))] 22)) fun e w' => ∃ A61 n61 c61, e = .returned (.slice A61 n61 c61) ∧ Hid (Own 3 55 wc.heap.size w' (.slice A61 n61 c61) (c.gates.take at_ ++ (toG i back).map (onG ws) ++ c.gates.drop (at_ + fn))) ∧ Below wc.heap.size wc w' := fun W' A51 c51 hb hr hc51 => by
          have hrd : RdGs (W'.alloc (.cells #[.slice A at_ k, .slice A51 tn c51, .slice A9 (c.gates.length - (at_ + fn)) (k - (at_ + fn))] 22)) (some ⟨W'.heap.size, 0, none⟩) [c.gates.take at_, (toG i back).map (onG ws), c.gates.drop (at_ + fn)] := by
            refine RdGs.lit (cs := [.slice A at_ k, .slice A51 tn c51, .slice A9 (c.gates.length - (at_ + fn)) (k - (at_ + fn))]) (by simp) fun j l hj => ?_
            have hrw := (HH.out.1.bG hb0x).bG (hb.mono (Nat.le_refl _))
            rcases j with _ | _ | _ | j
            · simp only [List.getElem?_cons_zero, Option.some.injEq] at hj
              subst hj
              exact ⟨A, k, by simp only [List.getElem?_cons_zero, HGL.out.2.1], by rw [HGL.out.2.1]; omega, hrw.take at_⟩
            · simp only [List.getElem?_cons_succ, List.getElem?_cons_zero, Option.some.injEq] at hj
              subst hj
              exact ⟨A51, c51, by simp only [List.getElem?_cons_succ, List.getElem?_cons_zero, HNL.out.1], by rw [HNL.out.1]; omega, hr.out⟩
            · simp only [List.getElem?_cons_succ, List.getElem?_cons_zero, Option.some.injEq] at hj
              subst hj
              exact ⟨A9, k - (at_ + fn), by simp only [List.getElem?_cons_succ, List.getElem?_cons_zero, HGL.out.2.2], by rw [HGL.out.2.2]; omega, by have := Rd.sub hrw hk (i := at_ + fn); rw [HA9.out] at this; exact this⟩
            · simp at hj
          have hfl : [c.gates.take at_, (toG i back).map (onG ws), c.gates.drop (at_ + fn)].flatten = c.gates.take at_ ++ (toG i back).map (onG ws) ++ c.gates.drop (at_ + fn) := by simp
          have h0 := copied_any (some ⟨W'.heap.size, 0, none⟩) 3 [c.gates.take at_, (toG i back).map (onG ws), c.gates.drop (at_ + fn)] _ hrd (fun l hl g hg => (HGL.out.1 l (by simpa using hl)).2 g hg) (by
            rw [hfl, List.length_append, List.length_append]
            have h1 := (HGL.out.1 _ (.inl rfl)).1
            have h2 := (HGL.out.1 _ (.inr (.inl rfl))).1
            have h3 := (HGL.out.1 _ (.inr (.inr rfl))).1
            omega)
          rw [hfl] at h0
          refine h0.mono ?_
          rintro e w61 ⟨v61, rfl, ho61, hb61⟩
          obtain ⟨A61, c61, rfl, _⟩ := ho61.form'
          exact ⟨A61, _, c61, rfl, ho61.weak (by simp; have := hb.size; omega), hb.trans (below_alloc (Below.refl _ _) _ |>.mono hb.size) |>.trans (hb61.mono (by simp; have := hb.size; omega))⟩
        replace hc2 := Lib.hid hc2
        have hS : ∀ W', Below wc.heap.size wc W' → W'.cell? ⟨w.heap.size, 2, none⟩ = some (.slice A c.gates.length k) ∧ W'.cell? ⟨w.heap.size + 1, 1, none⟩ = some (.int .i64 at_) ∧ W'.cell? ⟨w.heap.size + 1, 3, none⟩ = some (.slice B ws.length d) := fun W' hb => ⟨kc hb a2, kc hb b1, kc hb b3⟩
        have HS := Lib.hid hS
        have hS2 : ∀ W' v, Below wc.heap.size wc W' → (W'.setCell ⟨w.heap.size + 1 + 1 + 1, 2, none⟩ v).cell? ⟨w.heap.size, 2, none⟩ = some (.slice A c.gates.length k) ∧ (W'.setCell ⟨w.heap.size + 1 + 1 + 1, 2, none⟩ v).cell? ⟨w.heap.size + 1, 1, none⟩ = some (.int .i64 at_) ∧ (W'.setCell ⟨w.heap.size + 1 + 1 + 1, 2, none⟩ v).cell? ⟨w.heap.size + 1, 3, none⟩ = some (.slice B ws.length d) := fun W' v hb => by
          obtain ⟨h1, h2, h3⟩ := HS.out W' hb
          exact ⟨by rw [World.cell?_setCell_other _ _ _ _ (by simp)]; exact h1, by rw [World.cell?_setCell_other _ _ _ _ (by simp)]; exact h2, by rw [World.cell?_setCell_other _ _ _ _ (by simp)]; exact h3⟩
        have HS2 := Lib.hid hS2
        have HQ2 := Lib.hid (And.intro q2 (hf3 2))
        have hA9 := HA9.out
        have hz : (0 : Int) ≤ (at_ : Int) ∧ (at_ : Int) ≤ (k : Int) ∧ (0 : Int) ≤ (at_ : Int) + (fn : Int) ∧ (at_ : Int) + (fn : Int) ≤ (c.gates.length : Int) := ⟨by omega, by omega, by omega, by omega⟩
        obtain ⟨hz0, hz1, hz2, hz3⟩ := hz
        have hnat : ((at_ : Int) + (fn : Int)).toNat = at_ + fn := by omega
        clear hS hS2
        go_upto_region 15 with fail
        go_region_held3 (fun W' => W'.cell? ⟨w.heap.size, 2, none⟩ = some (.slice A c.gates.length k) ∧ W'.cell? ⟨w.heap.size + 1, 1, none⟩ = some (.int .i64 at_) ∧ W'.cell? ⟨w.heap.size + 1, 3, none⟩ = some (.slice B ws.length d)) (first | exact HS2.out _ _ (by assumption) | exact HS.out _ (by first | assumption | (repeat (first|exact bR _ _|assumption|apply bN|apply bA|apply bD)))) (first
          | (go_at_call 143; refine (hc1.out _ (by (repeat (first|exact bR _ _|assumption|apply bN|apply bA|apply bD)))).mono ?_; rintro e w51 ⟨A51, c51, rfl, hc51, HR51, hb51⟩; dsimp only)
          | (go_at_call 81; refine (hc2.out _ _ _ hb51 HR51 hc51).mono ?_; rintro e w52 ⟨A61, n61, c61, rfl, HO61, hb52⟩; dsimp only; have hq2 := kc hb52 HQ2.out.1; have hq3 : w52.frozen? ⟨w.heap.size + 1 + 1 + 1, 2, none⟩ = false := by (rw [hb52.frozen (by simp; omega)]; exact HQ2.out.2)))
        have p2 := blk2 hb52 HPX.out.1
        have p3 := blk2 hb52 HPX.out.2
        obtain ⟨_, _, _, _⟩ := cells3 p2
        obtain ⟨_, _, _, _⟩ := cells3 p3
        have hb0y := hb0x.trans (hb52.mono (by omega))
        have HPY := Lib.hid (And.intro p2 hb0y)
        clear p2 p3 hb0y
        go_wp2
        rw [HF.out]
        refine bodyPost_ret (results_list (rs := [.cell 4 24, .tmp 5, .tmp 6]) rfl (by simp) (.cell (w.heap.size + 1 + 1) 24 _ _ _ rfl (set3 ((heap_setCell_other _ _ _ _ (by simp)).trans HPY.out.1)) Tryz.underlying24 rfl (by kernel_rfl) (.tmp (.tmp .nil)))) rfl ⟨_, rfl, ?_, ?_⟩
        · exact (((((HO61.out.setCell (by simp; omega) _).setCell (by simp; omega) _).setCell (by simp; omega) _).setCell (by simp; omega) _).weak (by omega))
        · exact ((((HPY.out.2.setCell (by simp; omega) _).setCell (by simp; omega) _).setCell (by simp; omega) _).setCell (by simp; omega) _)
    · have HF := Lib.hid (show stepN c i at_ back ws = (6, zeroC, 0) by unfold stepN; rw [HNT.out, if_pos rfl])
      go_wp2
      rw [HF.out]
      exact bodyPost_ret (results_list (rs := [.cell 4 24, .tmp 5, .tmp 6]) rfl (by simp) (.cell (w.heap.size + 1 + 1) 24 _ _ _ rfl (set3 HPX.out.1) Tryz.underlying24 rfl (by kernel_rfl) (.tmp (.tmp .nil)))) rfl
        ⟨_, rfl, own_nil _ _ _ _, ((hb0x.setCell (by simp; omega) _).setCell (by simp; omega) _).setCell (by simp; omega) _⟩
set_option maxRecDepth 1000000 in
set_option maxHeartbeats 8000000 in
theorem stepX_no (A B : Option Addr) (k d : Nat) (c : C) (at_ : Nat) (back : Bool) (ws : List Int) (w : World) (h : RdG w A c.gates) (hG : Good c) (hat : at_ ≤ c.gates.length) (hx : exchOk c at_ = false) :
    Calls Tryz.prog 106 #[.agg #[.int .i64 c.wires, .int .i64 c.bits, .slice A c.gates.length k], .agg #[.int .i64 43, .int .i64 at_, .bool back, .slice B ws.length d]] w (RetC (stepX c at_) w) := by
  have hlen := hG.len
  have HH := Lib.hid (And.intro h hG)
  have HF := Lib.hid (show stepX c at_ = (6, zeroC, 0) by unfold stepX; rw [if_neg (by rw [hx]; simp)])
  have HX := Lib.hid hx
  clear h hG hx
  go_enter Tryz.func106, Tryz.ntmps106
  go_wp2_with fail
  obtain ⟨W1, hW1⟩ : ∃ W1, (((w.alloc (.cells #[.int .i64 c.wires, .int .i64 c.bits, .slice A c.gates.length k] 93)).alloc (.cells #[.int .i64 43, .int .i64 at_, .bool back, .slice B ws.length d] 27)).alloc (.cells #[.int .i64 0, .int .i64 0, .slice none 0 0] 24)).alloc (.cells #[.int .i64 c.wires, .int .i64 c.bits, .slice none 0 0] 24) = W1 := ⟨_, rfl⟩
  have hb01 : Below w.heap.size w W1 := by rw [← hW1]; (repeat (first|exact bR _ _|assumption|apply bN|apply bA|apply bD))
  have p2 : W1.heap[w.heap.size + 1 + 1]? = some (.cells #[.int .i64 0, .int .i64 0, .slice none 0 0] 24) := by rw [← hW1]; exact alloc_old (blk_alloc _ _ _ (by simp))
  rw [hW1]
  clear hW1
  have hc1 := Commute_is A k c at_ W1 (HH.out.1.bG hb01) HH.out.2.1 HH.out.2.2
  refine Calls.mono hc1 ?_
  clear hc1
  rintro e w2 ⟨b, er, rfl, _, hno, hb⟩
  replace hno := hno HX.out
  have hb02 := hb01.trans (hb.mono hb01.size)
  replace p2 := blk2 hb p2
  obtain ⟨_, _, _, hf2⟩ := cells3 p2
  have HP := Lib.hid (And.intro p2 hb02)
  clear p2 hb hb01 hb02
  have hE : (er != 0) = true ∨ ((er != 0) = false ∧ b = false) := by
    by_cases he : er = 0
    · exact .inr ⟨by simp [he], hno.resolve_right (fun h => h he)⟩
    · exact .inl (by simp [he])
  clear hno
  rcases hE with he | ⟨he, rfl⟩
  all_goals
    go_wp2
    rw [HF.out]
    exact bodyPost_ret (results_list (rs := [.cell 4 24, .tmp 5, .tmp 6]) rfl (by simp) (.cell (w.heap.size + 1 + 1) 24 _ _ _ rfl (set3 HP.out.1) Tryz.underlying24 rfl (by kernel_rfl) (.tmp (.tmp .nil)))) rfl
      ⟨_, rfl, own_nil _ _ _ _, ((HP.out.2.setCell (by simp; omega) _).setCell (by simp; omega) _).setCell (by simp; omega) _⟩
end Go.Proofs.YtfommmijojfdbaaGreatDoor
