/- Part 6 of the proof that 'spoondriftlaw19.RulesApplies' holds for every input; it has no condition beyond the statement's own. -/
import Derived.Test.YtfommmijojfdbaaGreatDoorZ04
import Derived.Shelf.Abstract
set_option linter.all false
namespace Go.Proofs.YtfommmijojfdbaaGreatDoor
open Go.RowKit
theorem q_same {P : Program} {f : FuncId} {args : Array Value} {w : World} {n : Nat} {v : Value}
    (h : Calls P f args (w.drewN n) fun e w' => e = .returned v ∧ w.drewN n = w') : Calls P f args (w.drewN n) fun e w'' => e = .returned v ∧ ∃ m, w'' = w.drewN m :=
  h.mono fun _ _ ⟨he, hm⟩ => ⟨he, n, hm.symm⟩
def arity (k : Int) : Int := if k = 12 then 3 else if 9 ≤ k ∧ k ≤ 11 then 2 else if 1 ≤ k ∧ k ≤ 14 then 1 else 0
theorem Arity_any (k : Int) (w : World) : Calls Tryz.prog 130 #[.int .i64 k] w fun e w' => e = .returned (.int .i64 (arity k)) ∧ w = w' := by
  go_enter Tryz.func130, Tryz.ntmps130
  go_wp2
  all_goals
    go_ret
    exact ⟨ret_int (by unfold arity; simp only [beq_iff_eq, beq_eq_false_iff_ne] at *; (repeat' split) <;> omega), rfl⟩
theorem circEvery1I_any (b : Nat) (gf : Nat) (lb : Array Value) (p : Int → Bool) (w0 : World) (gs : List Int) (hp : PredI w0 gf lb gs p) (eg : ∀ args w, (callFunc gf args).run Tryz.prog w = .ok (.enter gf args) w)
    (hcell : ∀ w1, Below w0.heap.size w0 w1 → w1.cell? ⟨b, 0, none⟩ = some (.func (.func gf) #[] lb)) :
    PredI w0 152 #[.pointer (some ⟨b, 0, none⟩)] gs (fun x => !p x) := by
  intro g w1 hg hB
  have hc := hcell w1 hB
  have hold := olds w1
  have hlt := cell_lt hc
  have HC := Lib.hid (hp g w1 hg hB)
  clear hp hcell
  go_enter Tryz.func152, Tryz.ntmps152
  go_wp2_with fail
  refine (HC.out).mono ?_
  rintro e w2 ⟨rfl, hb⟩
  go_wp2
  go_ret
  exact ⟨rfl, hb⟩
theorem circEveryI_any (A : Option Addr) (c : Nat) (gs : List Int) (gf : Nat) (lb : Array Value) (p : Int → Bool) (w : World) (h : RdI w A gs) (hp : PredI w gf lb gs p)
    (eg : ∀ args w, (callFunc gf args).run Tryz.prog w = .ok (.enter gf args) w) :
    Calls Tryz.prog 131 #[.slice A gs.length c, .func (.func gf) #[] lb] w fun e w' => e = .returned (.bool (gs.all p)) ∧ Below w.heap.size w w' := by
  have hmf : ∀ (fn : Fn) (first cap : Array Value) (w : World), (Instr.makeFunc fn first cap).run Tryz.prog w = .ok (.func fn first cap) w := fun _ _ _ _ => rfl
  have hB1 : ∀ o, Below w.heap.size w (w.alloc o) := fun o => below_alloc (Below.refl _ _) o
  have HP : ∀ o, PredI (w.alloc o) gf lb gs p := by
    intro o g w1 hg hB; exact hp g w1 hg ((hB1 o).trans (hB.mono (by simp)))
  have hq : ∀ w1, Below (w.alloc (.cells #[.func (.func gf) #[] lb] 72)).heap.size (w.alloc (.cells #[.func (.func gf) #[] lb] 72)) w1 → w1.cell? ⟨w.heap.size, 0, none⟩ = some (.func (.func gf) #[] lb) := by
    intro w1 hb
    rw [(bcell hb).1 _ _ (by simp)]
    simp
  have HC := ContainsFuncI_any A c gs 152 #[.pointer (some ⟨w.heap.size, 0, none⟩)] (fun x => !p x) _ (h.bI (hB1 _)) (circEvery1I_any w.heap.size gf lb p _ gs (HP _) eg hq) (enters_of Tryz.func152 (by kernel_rfl) rfl)
  replace HC := Lib.hid HC
  replace hB1 := Lib.hid hB1
  clear HP hq hp
  go_enter Tryz.func131, Tryz.ntmps131
  go_wp2_with fail
  refine HC.out.mono ?_
  rintro e w2 ⟨rfl, hb⟩
  go_wp2
  go_ret
  refine ⟨ret_bool ?_, (hB1.out _).trans (hb.mono (by simp))⟩
  rw [List.not_any_eq_all_not]
  simp
theorem circEvery1G_any (b : Nat) (gf : Nat) (lb : Array Value) (p : G → Bool) (w0 : World) (gs : List G) (hp : PredG w0 gf lb gs p) (eg : ∀ args w, (callFunc gf args).run Tryz.prog w = .ok (.enter gf args) w)
    (hcell : ∀ w1, Below w0.heap.size w0 w1 → w1.cell? ⟨b, 0, none⟩ = some (.func (.func gf) #[] lb)) :
    PredG w0 158 #[.pointer (some ⟨b, 0, none⟩)] gs (fun x => !p x) := by
  intro g A c w1 hg hr hl hB
  have hc := hcell w1 hB
  have hold := olds w1
  have hlt := cell_lt hc
  have HC := Lib.hid (fun o => hp g A c (w1.alloc o) hg (hr.bI (below_alloc (Below.refl _ _) o)) hl (hB.trans ((below_alloc (Below.refl _ _) o).mono hB.size)))
  clear hp hcell
  go_enter Tryz.func158, Tryz.ntmps158
  go_wp2_with fail
  refine (HC.out _).mono ?_
  rintro e w2 ⟨rfl, hb⟩
  go_wp2
  go_ret
  exact ⟨rfl, (below_alloc (Below.refl _ _) _).trans (hb.mono (by simp))⟩
theorem circEveryG_any (A : Option Addr) (c : Nat) (gs : List G) (gf : Nat) (lb : Array Value) (p : G → Bool) (w : World) (h : RdG w A gs) (hp : PredG w gf lb gs p)
    (eg : ∀ args w, (callFunc gf args).run Tryz.prog w = .ok (.enter gf args) w) :
    Calls Tryz.prog 135 #[.slice A gs.length c, .func (.func gf) #[] lb] w fun e w' => e = .returned (.bool (gs.all p)) ∧ Below w.heap.size w w' := by
  have hmf : ∀ (fn : Fn) (first cap : Array Value) (w : World), (Instr.makeFunc fn first cap).run Tryz.prog w = .ok (.func fn first cap) w := fun _ _ _ _ => rfl
  have hB1 : ∀ o, Below w.heap.size w (w.alloc o) := fun o => below_alloc (Below.refl _ _) o
  have HP : ∀ o, PredG (w.alloc o) gf lb gs p := by
    intro o g A c w1 hg hr hl hB; exact hp g A c w1 hg hr hl ((hB1 o).trans (hB.mono (by simp)))
  have hq : ∀ w1, Below (w.alloc (.cells #[.func (.func gf) #[] lb] 78)).heap.size (w.alloc (.cells #[.func (.func gf) #[] lb] 78)) w1 → w1.cell? ⟨w.heap.size, 0, none⟩ = some (.func (.func gf) #[] lb) := by
    intro w1 hb
    rw [(bcell hb).1 _ _ (by simp)]
    simp
  have HC := ContainsFuncG_any A c gs 158 #[.pointer (some ⟨w.heap.size, 0, none⟩)] (fun x => !p x) _ (h.bG (hB1 _)) (circEvery1G_any w.heap.size gf lb p _ gs (HP _) eg hq) (enters_of Tryz.func158 (by kernel_rfl) rfl)
  replace HC := Lib.hid HC
  replace hB1 := Lib.hid hB1
  clear HP hq hp
  go_enter Tryz.func135, Tryz.ntmps135
  go_wp2_with fail
  refine HC.out.mono ?_
  rintro e w2 ⟨rfl, hb⟩
  go_wp2
  go_ret
  refine ⟨ret_bool ?_, (hB1.out _).trans (hb.mono (by simp))⟩
  rw [List.not_any_eq_all_not]
  simp
theorem gateWire_any (b : Nat) (wires : Int) (w0 : World) (gs : List Int) (hcell : ∀ w1, Below w0.heap.size w0 w1 → w1.cell? ⟨b, 0, none⟩ = some (.int .i64 wires)) :
    PredI w0 129 #[.pointer (some ⟨b, 0, none⟩)] gs (fun n => decide (0 ≤ n ∧ n < wires)) := by
  intro n w1 _ hB
  have hc := hcell w1 hB
  clear hcell hB
  go_enter Tryz.func129, Tryz.ntmps129
  go_wp2
  all_goals
    go_ret
    exact ⟨ret_bool (by rw [Bool.eq_iff_iff]; simp; omega), Below.refl _ _⟩
def gateErr (wires bits : Int) (g : G) : Int :=
  if arity g.kind = 0 then 3 else
  if (g.wires.length : Int) ≠ arity g.kind then 2 else
  if g.wires.all (fun n => decide (0 ≤ n ∧ n < wires)) = false then 1 else
  if ¬ g.wires.Nodup then 5 else
  if (g.cif < 0 ∨ bits < g.cif) ∨ g.kind = 13 ∧ (g.bit < 0 ∨ bits ≤ g.bit) then 1 else
  if (g.kind = 13 ∨ g.kind = 14) ∧ g.cif ≠ 0 ∨ g.kind ≠ 13 ∧ g.bit ≠ 0 then 7 else 0
theorem not_nodup_take {l : List Int} (k : Nat) (hk : k < l.length) (h : l[k] ∈ l.take k) : ¬ l.Nodup := by
  intro hn
  obtain ⟨i, hi, e⟩ := List.getElem_of_mem h
  rw [List.length_take] at hi
  rw [List.getElem_take] at e
  exact (List.pairwise_iff_getElem.1 hn) i k (by omega) hk (by omega) e
theorem nodup_take_succ {l : List Int} (k : Nat) (hk : k < l.length) (h : (l.take k).Nodup) (hm : ¬ l[k] ∈ l.take k) : (l.take (k + 1)).Nodup := by
  rw [List.take_succ_eq_append_getElem hk, List.nodup_append]
  exact ⟨h, by simp, fun a ha b hb => by simp at hb; subst hb; rintro rfl; exact hm ha⟩
theorem gateErr_tail {wires bits : Int} {g : G} (h1 : (arity g.kind == 0) = false) (h2 : ((g.wires.length : Int) != arity g.kind) = false) (h3 : g.wires.all (fun n => decide (0 ≤ n ∧ n < wires)) = true) (h4 : g.wires.Nodup) :
    gateErr wires bits g = if (g.cif < 0 ∨ bits < g.cif) ∨ g.kind = 13 ∧ (g.bit < 0 ∨ bits ≤ g.bit) then 1 else if (g.kind = 13 ∨ g.kind = 14) ∧ g.cif ≠ 0 ∨ g.kind ≠ 13 ∧ g.bit ≠ 0 then 7 else 0 := by
  simp only [beq_eq_false_iff_ne, bne_eq_false_iff_eq, ne_eq] at h1 h2
  unfold gateErr
  rw [if_neg h1, if_neg (by simp [h2]), if_neg (by rw [h3]; simp), if_neg (by simp [h4])]
set_option maxRecDepth 100000 in
set_option maxHeartbeats 2000000 in
theorem gate_any (A Ac : Option Addr) (c nc cap : Nat) (wires bits : Int) (g : G) (w : World) (h : RdI w A g.wires) (hc : g.wires.length ≤ c) :
    Calls Tryz.prog 92 #[.agg #[.int .i64 wires, .int .i64 bits, .slice Ac nc cap, .nilFunc], .agg #[.int .i64 g.kind, .slice A g.wires.length c, .int .i64 g.bit, .int .i64 g.cif]] w fun e w' => e = .returned (.int .i64 (gateErr wires bits g)) ∧ Below w.heap.size w w' := by
  have hmf : ∀ (fn : Fn) (first cap : Array Value) (w : World), (Instr.makeFunc fn first cap).run Tryz.prog w = .ok (.func fn first cap) w := fun _ _ _ _ => rfl
  have hl := h.1
  go_enter Tryz.func92, Tryz.ntmps92
  go_wp2_with (go_at_call 130; refine (Arity_any _ _).mono ?_; rintro e w' ⟨rfl, rfl⟩)
  · go_ret
    exact ⟨ret_int (by unfold gateErr; simp only [beq_iff_eq] at *; rw [if_pos ‹_›]), by (repeat (first|exact bR _ _|assumption|apply bN|apply bA|apply bD))⟩
  · have ha : (arity g.kind == 0) = false := by assumption
    go_quiet ((go_at_call 130; exact q_same (Arity_any _ _)))
    go_wp2_with fail
    · go_ret
      exact ⟨ret_int (by unfold gateErr; simp only [beq_eq_false_iff_ne, bne_iff_ne, ne_eq] at *; rw [if_neg ha, if_pos ‹_›]), by (repeat (first|exact bR _ _|assumption|apply bN|apply bA|apply bD))⟩
    · have hn : ((g.wires.length : Int) != arity g.kind) = false := by assumption
      refine (circEveryI_any A c g.wires 129 _ _ _ (h.bI (by (repeat (first|exact bR _ _|assumption|apply bN|apply bA|apply bD)))) (gateWire_any w.heap.size wires _ _ (fun w1 hb => kc hb (by go_simp))) (enters_of Tryz.func129 (by kernel_rfl) rfl)).mono ?_
      rintro e W1 ⟨rfl, hb⟩
      obtain ⟨q, hq⟩ : ∃ q, g.wires.all (fun n => decide (0 ≤ n ∧ n < wires)) = q := ⟨_, rfl⟩
      rw [hq]
      have HQ := Lib.hid hq
      clear hq
      have hB : Below w.heap.size w W1 := Below.trans (by (repeat (first|exact bR _ _|assumption|apply bN|apply bA|apply bD))) (hb.mono (by simp; omega))
      have c0 := fun k => (bcell hb).1 (w.heap.size + 1) k (by simp)
      have hrd := h.bI hB
      cases q with
      | false =>
        go_wp2
        go_ret
        exact ⟨ret_int (by unfold gateErr; simp only [beq_eq_false_iff_ne, bne_eq_false_iff_eq, ne_eq] at *; rw [if_neg ha, if_neg (by simp [hn]), if_pos HQ.out]), hB⟩
      | true =>
        have d0 : W1.cell? ⟨w.heap.size + 1, 0, none⟩ = some (.int .i64 g.kind) := kc hb (by go_simp)
        have d1 : W1.cell? ⟨w.heap.size + 1, 1, none⟩ = some (.slice A g.wires.length c) := kc hb (by go_simp)
        have d2 : W1.cell? ⟨w.heap.size + 1, 2, none⟩ = some (.int .i64 g.bit) := kc hb (by go_simp)
        have d3 : W1.cell? ⟨w.heap.size + 1, 3, none⟩ = some (.int .i64 g.cif) := kc hb (by go_simp)
        have e1 : W1.cell? ⟨w.heap.size, 1, none⟩ = some (.int .i64 bits) := kc hb (by go_simp)
        clear hb c0
        go_wp2
        go_loop [6, 7, 32] (fun _ _ i => ∃ k : Nat, k ≤ g.wires.length ∧ i = .int .i64 k ∧ Hid ((g.wires.take k).Nodup)) (fun _ _ i => g.wires.length - (intOf i).toNat)
        case atStart => exact ⟨0, Nat.zero_le _, rfl, Lib.hid (by simp)⟩
        case round =>
          obtain ⟨k, hk, rfl, HN⟩ := hrel
          by_cases hlt : k < g.wires.length
          · obtain ⟨b, o, rfl, hx⟩ := hrd.int k hlt
            by_cases hm : g.wires[k] ∈ g.wires.take k
            · have HM := Lib.hid hm
              have hkc : k ≤ c := by omega
              clear hm h
              go_wp2_with fail
              refine (Contains_n _ k c (g.wires.take k) _ _ (hrd.take k) (by simp; omega)).mono ?_
              rintro e w2 ⟨rfl, rfl⟩
              rw [decide_eq_true HM.out]
              go_wp2
              go_ret
              exact ⟨ret_int (by unfold gateErr; simp only [beq_eq_false_iff_ne, bne_eq_false_iff_eq, ne_eq] at *; rw [if_neg ha, if_neg (by simp [hn]), if_neg (by rw [HQ.out]; simp), if_pos (not_nodup_take k hlt HM.out)]), hB⟩
            · have HM := Lib.hid hm
              have hkc : k ≤ c := by omega
              clear hm h
              go_wp2_with fail
              refine (Contains_n _ k c (g.wires.take k) _ _ (hrd.take k) (by simp; omega)).mono ?_
              rintro e w2 ⟨rfl, rfl⟩
              rw [decide_eq_false HM.out]
              go_wp2
              go_round
              case rel => exact ⟨k + 1, by omega, by go_num, Lib.hid (nodup_take_succ k hlt HN.out HM.out)⟩
              case measure => simp [intOf]; omega
          · have HD : Hid g.wires.Nodup := Lib.hid (by have := HN.out; rwa [List.take_of_length_le (by omega)] at this)
            clear HN
            have HT := Lib.hid (gateErr_tail (bits := bits) ha hn HQ.out HD.out)
            go_wp2
            all_goals
              go_ret
              refine ⟨ret_int ?_, hB⟩
              rw [HT.out]
              simp only [Bool.not_eq_false', Bool.not_eq_true', beq_iff_eq, bne_iff_ne, beq_eq_false_iff_ne, bne_eq_false_iff_eq, ne_eq] at *
              first | omega | ((repeat' split) <;> omega)
def checkG (wires bits : Int) : List G → Int
  | [] => 0
  | g :: l => if gateErr wires bits g = 0 then checkG wires bits l else gateErr wires bits g
def check (c : C) : Int :=
  if c.wires < 1 ∨ 12 < c.wires ∨ c.bits < 0 ∨ 8 < c.bits then 3 else
  if 120 < c.gates.length then 2 else checkG c.wires c.bits c.gates
set_option maxRecDepth 100000 in
set_option maxHeartbeats 2000000 in
theorem Check_any (A : Option Addr) (k : Nat) (c : C) (w : World) (h : RdG w A c.gates) :
    Calls Tryz.prog 50 #[.agg #[.int .i64 c.wires, .int .i64 c.bits, .slice A c.gates.length k]] w fun e w' => e = .returned (.int .i64 (check c)) ∧ Below w.heap.size w w' := by
  have hmf : ∀ (fn : Fn) (first cap : Array Value) (w : World), (Instr.makeFunc fn first cap).run Tryz.prog w = .ok (.func fn first cap) w := fun _ _ _ _ => rfl
  have hl := h.1
  by_cases hr : c.wires < 1 ∨ 12 < c.wires ∨ c.bits < 0 ∨ 8 < c.bits
  · go_enter Tryz.func50, Tryz.ntmps50
    go_wp2_with fail
    all_goals first
      | (exfalso; omega)
      | (go_ret; exact ⟨ret_int (by unfold check; rw [if_pos hr]), by (repeat (first|exact bR _ _|assumption|apply bN|apply bA|apply bD))⟩)
  · by_cases hn : 120 < c.gates.length
    · obtain ⟨r1, r2, r3, r4⟩ : 1 ≤ c.wires ∧ c.wires ≤ 12 ∧ 0 ≤ c.bits ∧ c.bits ≤ 8 := by omega
      have hd : (120 : Int) < (c.gates.length : Int) := by omega
      have HR := Lib.hid hr
      have HN := Lib.hid hn
      clear hr hn
      go_enter Tryz.func50, Tryz.ntmps50
      go_wp2_with fail
      go_ret
      exact ⟨ret_int (by unfold check; rw [if_neg HR.out, if_pos HN.out]), by (repeat (first|exact bR _ _|assumption|apply bN|apply bA|apply bD))⟩
    · obtain ⟨r1, r2, r3, r4⟩ : 1 ≤ c.wires ∧ c.wires ≤ 12 ∧ 0 ≤ c.bits ∧ c.bits ≤ 8 := by omega
      have hd : (c.gates.length : Int) ≤ 120 := by omega
      have HC := Lib.hid (show check c = checkG c.wires c.bits c.gates by unfold check; rw [if_neg hr, if_neg hn])
      clear hr hn
      go_enter Tryz.func50, Tryz.ntmps50
      go_wp2_with fail
      go_loopw [5, 6, 37] (fun _ _ i wr => ∃ k : Nat, k ≤ c.gates.length ∧ i = .int .i64 k ∧ Hid (check c = checkG c.wires c.bits (c.gates.drop k)) ∧ Below w.heap.size w wr) (fun _ _ i _ => c.gates.length - (intOf i).toNat)
      case atStart => exact ⟨0, Nat.zero_le _, rfl, Lib.hid (by rw [HC.out]; simp), by (repeat (first|exact bR _ _|assumption|apply bN|apply bA|apply bD))⟩
      case round =>
        obtain ⟨k, hk, rfl, HI, hB⟩ := hrel
        by_cases hlt : k < c.gates.length
        · obtain ⟨b, o, B, cB, rfl, h0, h1, h2, h3, hc, hw⟩ := (h.bG hB).gate k hlt
          have hx : ∀ x, Below w.heap.size w (wr.alloc x) := fun x => hB.alloc hB.size _
          replace hx := Lib.hid hx
          have hold := olds wr
          clear h
          obtain ⟨q, hq⟩ : ∃ q, gateErr c.wires c.bits c.gates[k] = q := ⟨_, rfl⟩
          by_cases hq0 : q = 0
          · have e0 : (q != 0) = false := by simp [hq0]
            have HQ := Lib.hid hq
            have HQ0 := Lib.hid hq0
            clear hq hq0
            go_wp2_with fail
            refine (gate_any B _ cB _ _ _ _ c.gates[k] _ (hw.bI (below_alloc (Below.refl _ _) _)) hc).mono ?_
            rintro e w2 ⟨rfl, hb⟩
            rw [HQ.out]
            go_wp2
            go_roundw
            case rel => exact ⟨k + 1, by omega, by go_num, Lib.hid (by rw [HI.out, drop_cons c.gates k hlt, checkG, if_pos (by rw [HQ.out, HQ0.out])]), (hx.out _).trans (hb.mono (hx.out _).size)⟩
            case measure => simp [intOf]; omega
          · have e0 : (q != 0) = true := by simp [hq0]
            have HQ := Lib.hid hq
            have HQ0 := Lib.hid hq0
            clear hq hq0
            go_wp2_with fail
            refine (gate_any B _ cB _ _ _ _ c.gates[k] _ (hw.bI (below_alloc (Below.refl _ _) _)) hc).mono ?_
            rintro e w2 ⟨rfl, hb⟩
            rw [HQ.out]
            go_wp2
            go_ret
            exact ⟨ret_int (by rw [HI.out, drop_cons c.gates k hlt, checkG, if_neg (by rw [HQ.out]; exact HQ0.out), HQ.out]), (hx.out _).trans (hb.mono (hx.out _).size)⟩
        · go_wp2_with fail
          go_ret
          exact ⟨ret_int (by rw [HI.out, drop_end c.gates k (by omega)]; rfl), hB⟩
theorem q_same2 {P : Program} {f : FuncId} {args : Array Value} {w : World} {n k : Nat} {v : Value}
    (h : Calls P f args (w.drewN (k + n)) fun e w' => e = .returned v ∧ w.drewN (k + n) = w') : Calls P f args (w.drewN (k + n)) fun e w'' => e = .returned v ∧ ∃ m, w'' = w.drewN (k + m) :=
  h.mono fun _ _ ⟨he, hm⟩ => ⟨he, n, hm.symm⟩
theorem rOff_any (n lo hi : Int) (w : World) : Calls Tryz.prog 119 #[.int .i64 n, .int .i64 lo, .int .i64 hi] w fun e w' => e = .returned (.bool (decide (n < lo ∨ hi < n))) ∧ w = w' := by
  go_enter Tryz.func119, Tryz.ntmps119
  go_wp2
  all_goals
    go_ret
    exact ⟨ret_bool (by (try simp only [decide_eq_true_eq, decide_eq_false_iff_not] at *); first | done | (simp; omega) | (simp [*]; done)), rfl⟩
theorem rArity_any (k : Int) (w : World) : Calls Tryz.prog 148 #[.int .i64 k] w fun e w' => e = .returned (.int .i64 (arity k)) ∧ w = w' := by
  go_enter Tryz.func148, Tryz.ntmps148
  go_wp2
  all_goals
    go_ret
    exact ⟨ret_int (by (try simp only [decide_eq_true_eq, decide_eq_false_iff_not, beq_iff_eq, beq_eq_false_iff_ne, ne_eq] at *); unfold arity; (repeat' split) <;> omega), rfl⟩
theorem rHas_any (A : Option Addr) (n c : Nat) (xs : List Int) (x : Int) (w : World) (h : RdI w A xs) (hn : xs.length = n) :
    Calls Tryz.prog 144 #[.slice A n c, .int .i64 x] w fun e w' => e = .returned (.bool (decide (x ∈ xs))) ∧ w = w' := by
  subst hn
  have hl := h.1
  go_enter Tryz.func144, Tryz.ntmps144
  go_wp2
  go_loop [5] (fun i => ∃ k : Nat, k ≤ xs.length ∧ i = .int .i64 k ∧ Hid (¬ x ∈ xs.take k)) (fun i => xs.length - (intOf i).toNat)
  case atStart => exact ⟨0, Nat.zero_le _, rfl, Lib.hid (by simp)⟩
  case round =>
    obtain ⟨k, hk, rfl, HI⟩ := hrel
    by_cases hlt : k < xs.length
    · obtain ⟨b, o, rfl, hc⟩ := h.int k hlt
      clear h
      by_cases hx : xs[k] = x
      · have h1 : (xs[k] == x) = true := by simp [hx]
        have HX := Lib.hid hx
        clear hx
        go_wp2
        go_ret
        exact ⟨ret_bool (by rw [eq_comm, decide_eq_true_eq]; rw [← HX.out]; exact List.getElem_mem _), rfl⟩
      · have h1 : (xs[k] == x) = false := by simp [hx]
        have HX := Lib.hid hx
        clear hx
        go_wp2
        go_round
        case rel => exact ⟨k + 1, by omega, by go_num, Lib.hid (by rw [List.take_succ_eq_append_getElem hlt]; simp only [List.mem_append, List.mem_singleton]; exact fun h => h.elim HI.out fun h => HX.out h.symm)⟩
        case measure => simp [intOf]; omega
    · go_wp2
      go_ret
      exact ⟨ret_bool (by rw [eq_comm, decide_eq_false_iff_not]; have := HI.out; rwa [List.take_of_length_le (by omega)] at this), rfl⟩
theorem rHas_is (A : Option Addr) (n c : Nat) (xs : List Int) (x : Int) (w : World) (h : RdI w A xs) (hn : xs.length = n) (q : Bool) (hq : decide (x ∈ xs) = q) :
    Calls Tryz.prog 144 #[.slice A n c, .int .i64 x] w fun e w' => e = .returned (.bool q) ∧ w = w' := by
  subst hq
  exact rHas_any A n c xs x w h hn
theorem fst2 (w : World) (o o' : Obj) : ((w.alloc o).alloc o').heap[w.heap.size]? = some o := (Below.heap_alloc _ _ _ (by simp)).trans (heap_alloc_new _ _)
theorem snd2 (w : World) (o o' : Obj) : ((w.alloc o).alloc o').heap[w.heap.size + 1]? = some o' := by
  have := heap_alloc_new (w.alloc o) o'
  simpa using this
theorem G.eq_of {g h : G} (h1 : g.kind = h.kind) (h2 : g.bit = h.bit) (h3 : g.cif = h.cif) (h4 : g.wires = h.wires) : g = h := by
  cases g; cases h; simp_all
set_option maxRecDepth 100000 in
set_option maxHeartbeats 2000000 in
theorem rSameGate_any (A B : Option Addr) (c d : Nat) (g h : G) (w : World) (hr : RdI w A g.wires) (hr' : RdI w B h.wires) :
    Calls Tryz.prog 99 #[.agg #[.int .i64 g.kind, .slice A g.wires.length c, .int .i64 g.bit, .int .i64 g.cif], .agg #[.int .i64 h.kind, .slice B h.wires.length d, .int .i64 h.bit, .int .i64 h.cif]] w fun e w' => e = .returned (.bool (decide (g = h))) ∧ Below w.heap.size w w' := by
  have hl := hr.1
  have hl' := hr'.1
  have HR := Lib.hid (And.intro hr hr')
  clear hr hr'
  go_enter Tryz.func99, Tryz.ntmps99
  by_cases h1 : g.kind = h.kind
  case neg =>
    have t1 : (g.kind != h.kind) = true := by simpa using h1
    have H1 := Lib.hid h1
    clear h1
    go_wp2
    go_ret
    exact ⟨ret_bool (by rw [eq_comm, decide_eq_false_iff_not]; exact fun e => H1.out (by rw [e])), by (repeat (first|exact bR _ _|assumption|apply bN|apply bA|apply bD))⟩
  have t1 : (g.kind != h.kind) = false := by simpa using h1
  by_cases h2 : g.bit = h.bit
  case neg =>
    have t2 : (g.bit != h.bit) = true := by simpa using h2
    have H2 := Lib.hid h2
    clear h1 h2
    go_wp2
    go_ret
    exact ⟨ret_bool (by rw [eq_comm, decide_eq_false_iff_not]; exact fun e => H2.out (by rw [e])), by (repeat (first|exact bR _ _|assumption|apply bN|apply bA|apply bD))⟩
  have t2 : (g.bit != h.bit) = false := by simpa using h2
  by_cases h3 : g.cif = h.cif
  case neg =>
    have t3 : (g.cif != h.cif) = true := by simpa using h3
    have H3 := Lib.hid h3
    clear h1 h2 h3
    go_wp2
    go_ret
    exact ⟨ret_bool (by rw [eq_comm, decide_eq_false_iff_not]; exact fun e => H3.out (by rw [e])), by (repeat (first|exact bR _ _|assumption|apply bN|apply bA|apply bD))⟩
  have t3 : (g.cif != h.cif) = false := by simpa using h3
  by_cases h4 : g.wires.length = h.wires.length
  case neg =>
    have t4 : ((g.wires.length : Int) != (h.wires.length : Int)) = true := by simp; omega
    have H4 := Lib.hid h4
    clear h1 h2 h3 h4
    go_wp2
    go_ret
    exact ⟨ret_bool (by rw [eq_comm, decide_eq_false_iff_not]; exact fun e => H4.out (by rw [e])), by (repeat (first|exact bR _ _|assumption|apply bN|apply bA|apply bD))⟩
  have t4 : ((g.wires.length : Int) != (h.wires.length : Int)) = false := by simp; omega
  have HS := Lib.hid (And.intro h1 (And.intro h2 h3))
  have hle : g.wires.length ≤ h.wires.length := by omega
  have H4 := Lib.hid h4
  clear h1 h2 h3 h4
  go_wp2
  obtain ⟨W1, hW1⟩ : ∃ W1, (w.alloc (.cells #[.int .i64 g.kind, .slice A g.wires.length c, .int .i64 g.bit, .int .i64 g.cif] 55)).alloc (.cells #[.int .i64 h.kind, .slice B h.wires.length d, .int .i64 h.bit, .int .i64 h.cif] 55) = W1 := ⟨_, rfl⟩
  have hb : Below w.heap.size w W1 := by rw [← hW1]; (repeat (first|exact bR _ _|assumption|apply bN|apply bA|apply bD))
  have c1 : W1.cell? ⟨w.heap.size, 1, none⟩ = some (.slice A g.wires.length c) := by rw [← hW1]; exact (cells4 (fst2 _ _ _)).2.1
  have c2 : W1.cell? ⟨w.heap.size + 1, 1, none⟩ = some (.slice B h.wires.length d) := by rw [← hW1]; exact (cells4 (snd2 _ _ _)).2.1
  rw [hW1]
  clear hW1
  have hr := HR.out.1.bI hb
  have hr' := HR.out.2.bI hb
  go_loopw [5] (fun i wr => ∃ k : Nat, k ≤ g.wires.length ∧ i = .int .i64 k ∧ Hid (decide (g.wires = h.wires) = decide (g.wires.drop k = h.wires.drop k)) ∧ ∃ n, wr = W1.drewN n) (fun i _ => g.wires.length - (intOf i).toNat)
  case atStart => exact ⟨0, Nat.zero_le _, rfl, Lib.hid (by simp), 0, rfl⟩
  case round =>
    obtain ⟨k, hk, rfl, HI, n, rfl⟩ := hrel
    by_cases hlt : k < g.wires.length
    · have hlt' : k < h.wires.length := by omega
      obtain ⟨b, o, rfl, hc⟩ := hr.int k hlt
      obtain ⟨b', o', rfl, hc'⟩ := hr'.int k hlt'
      clear hr hr'
      by_cases hx : g.wires[k] = h.wires[k]
      · have h1 : (g.wires[k] != h.wires[k]) = false := by simp [hx]
        have HX := Lib.hid hx
        clear hx
        go_wp2
        go_quiet (fail)
        go_wp2
        go_roundw
        case rel => exact ⟨k + 1, by omega, by go_num, Lib.hid (by rw [HI.out, decide_eq_decide, drop_eq_iff g.wires h.wires k hlt hlt']; exact ⟨fun h => h.2, fun h => ⟨HX.out, h⟩⟩), ⟨_, rfl⟩⟩
        case measure => simp [intOf]; omega
      · have h1 : (g.wires[k] != h.wires[k]) = true := by simp [hx]
        have HX := Lib.hid hx
        clear hx
        go_wp2
        go_quiet (fail)
        go_wp2
        go_ret
        exact ⟨ret_bool (by rw [eq_comm, decide_eq_false_iff_not]; intro e; have := HI.out; rw [decide_eq_true (show g.wires = h.wires by rw [e]), eq_comm, decide_eq_true_eq, drop_eq_iff g.wires h.wires k hlt hlt'] at this; exact HX.out this.1), by (repeat (first|exact bR _ _|assumption|apply bN|apply bA|apply bD))⟩
    · go_wp2
      go_ret
      exact ⟨ret_bool (by
        have h5 := HI.out
        have h4 := H4.out
        rw [drop_end g.wires k (by omega), drop_end h.wires k (by omega)] at h5
        rw [eq_comm, decide_eq_true_eq]
        exact G.eq_of HS.out.1 HS.out.2.1 HS.out.2.2 (by simpa using h5)), by (repeat (first|exact bR _ _|assumption|apply bN|apply bA|apply bD))⟩
end Go.Proofs.YtfommmijojfdbaaGreatDoor
