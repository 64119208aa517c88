/- Part 7 of the proof that 'spoondriftlaw19.RulesApplies' holds for every input; it has no condition beyond the statement's own. -/
import Derived.Test.YtfommmijojfdbaaGreatDoorZ05
import Derived.Laws.Rows
import Derived.Laws.CopyOwn
import Derived.RegionTactic
set_option linter.all false
namespace Go.Proofs.YtfommmijojfdbaaGreatDoor
open Go.RowKit
def plainG (g : G) : Bool := decide (g.kind ≤ 12 ∧ g.cif = 0)
theorem Plain1_any (w : World) (gs : List G) : PredG w 136 #[] gs plainG := by
  intro g A c w1 _ hr hl hB
  go_enter Tryz.func136, Tryz.ntmps136
  go_wp2
  all_goals
    go_ret
    exact ⟨ret_bool (by unfold plainG; rw [Bool.eq_iff_iff]; simp; try omega), by (repeat (first|exact bR _ _|assumption|apply bN|apply bA|apply bD))⟩
set_option maxHeartbeats 1000000 in
theorem Plain_any (A : Option Addr) (k : Nat) (c : C) (w : World) (h : RdG w A c.gates) :
    Calls Tryz.prog 100 #[.agg #[.int .i64 c.wires, .int .i64 c.bits, .slice A c.gates.length k]] w fun e w' => e = .returned (.tuple #[.bool (decide (check c = 0) && c.gates.all plainG), .int .i64 (check c)]) ∧ Below w.heap.size w w' := by
  obtain ⟨q, hq⟩ : ∃ q, check c = q := ⟨_, rfl⟩
  obtain ⟨p, hp⟩ : ∃ p, c.gates.all plainG = p := ⟨_, rfl⟩
  rw [hq, hp]
  have HQ := Lib.hid hq
  have HP := Lib.hid hp
  clear hp
  have hx : ∀ x, Below w.heap.size w (w.alloc x) := fun x => by (repeat (first|exact bR _ _|assumption|apply bN|apply bA|apply bD))
  by_cases hq0 : q = 0
  · subst hq0
    clear hq
    go_enter Tryz.func100, Tryz.ntmps100
    go_wp2_with fail
    refine (Check_any A k c _ (h.bG (by (repeat (first|exact bR _ _|assumption|apply bN|apply bA|apply bD))))).mono ?_
    rintro e w1 ⟨rfl, hb⟩
    rw [HQ.out]
    have hB := (hx _).trans (hb.mono (by simp))
    have c2 : w1.cell? ⟨w.heap.size, 2, none⟩ = some (.slice A c.gates.length k) := kc hb (by go_simp)
    have HB := Lib.hid hB
    clear hb hx
    go_wp2_with fail
    refine (circEveryG_any A k c.gates 136 #[] plainG _ (h.bG hB) (Plain1_any _ _) (enters_of Tryz.func136 (by kernel_rfl) rfl)).mono ?_
    rintro e w2 ⟨rfl, hb2⟩
    rw [HP.out]
    go_wp2
    go_ret2
    exact ⟨by simp, hB.trans (hb2.mono hB.size)⟩
  · have e0 : (q != 0) = true := by simp [hq0]
    have HQ0 := Lib.hid hq0
    clear hq hq0
    go_enter Tryz.func100, Tryz.ntmps100
    go_wp2_with fail
    refine (Check_any A k c _ (h.bG (by (repeat (first|exact bR _ _|assumption|apply bN|apply bA|apply bD))))).mono ?_
    rintro e w1 ⟨rfl, hb⟩
    rw [HQ.out]
    go_wp2
    go_ret2
    exact ⟨by rw [decide_eq_false HQ0.out]; rfl, (hx _).trans (hb.mono (by simp))⟩
def plainE (c : C) : Int := if check c = 0 then (if c.gates.all plainG = true then 0 else 7) else check c
set_option maxHeartbeats 1000000 in
theorem plain_any (A : Option Addr) (k : Nat) (c : C) (w : World) (h : RdG w A c.gates) :
    Calls Tryz.prog 61 #[.agg #[.int .i64 c.wires, .int .i64 c.bits, .slice A c.gates.length k]] w fun e w' => e = .returned (.int .i64 (plainE c)) ∧ Below w.heap.size w w' := by
  have hx : ∀ x, Below w.heap.size w (w.alloc x) := fun x => by (repeat (first|exact bR _ _|assumption|apply bN|apply bA|apply bD))
  go_enter Tryz.func61, Tryz.ntmps61
  go_wp2_with fail
  refine (Plain_any A k c _ (h.bG (by (repeat (first|exact bR _ _|assumption|apply bN|apply bA|apply bD))))).mono ?_
  rintro e w1 ⟨rfl, hb⟩
  have hB := (hx _).trans (hb.mono (by simp))
  clear hb hx
  obtain ⟨q, hq⟩ : ∃ q, check c = q := ⟨_, rfl⟩
  obtain ⟨p, hp⟩ : ∃ p, c.gates.all plainG = p := ⟨_, rfl⟩
  have HF := Lib.hid (show plainE c = if q = 0 then (if p = true then 0 else 7) else q by unfold plainE; rw [hq, hp])
  rw [hq, hp]
  clear hq hp
  by_cases hq0 : q = 0
  · subst hq0
    cases p <;> (go_wp2; go_ret; exact ⟨ret_int (by rw [HF.out]; simp), hB⟩)
  · have e0 : (q == 0) = false := by simp [hq0]
    have e1 : decide (q = 0) = false := by simp [hq0]
    have HQ0 := Lib.hid hq0
    clear hq0
    go_wp2
    go_ret
    exact ⟨ret_int (by rw [HF.out, if_neg HQ0.out]), hB⟩
set_option maxHeartbeats 2000000 in
theorem rsame_any (w : World) (xs ys : List G) : EqG w 121 #[] xs ys := by
  intro g h A B c d w1 _ _ hr hr0 hr' hr0' hB0
  clear hr0 hr0' hB0
  obtain ⟨q, hq⟩ : ∃ q, decide (g.wires = h.wires) = q := ⟨_, rfl⟩
  obtain ⟨q1, e1⟩ : ∃ q, (g.kind == h.kind) = q := ⟨_, rfl⟩
  obtain ⟨q2, e2⟩ : ∃ q, (g.cif == h.cif) = q := ⟨_, rfl⟩
  obtain ⟨q3, e3⟩ : ∃ q, (g.bit == h.bit) = q := ⟨_, rfl⟩
  have HF := Lib.hid (show decide (g = h) = (q1 && q2 && q3 && q) by
    rw [← hq, ← e1, ← e2, ← e3]
    cases g; cases h; rw [Bool.eq_iff_iff]; simp; exact ⟨fun ⟨a, b, c, d⟩ => ⟨⟨⟨a, d⟩, c⟩, b⟩, fun ⟨⟨⟨a, d⟩, c⟩, b⟩ => ⟨a, b, c, d⟩⟩)
  have HE := Lib.hid hq
  have HR := Lib.hid (And.intro hr hr')
  clear hr hr' hq
  cases q1
  · go_enter Tryz.func121, Tryz.ntmps121
    go_wp2_with fail
    first
      | (go_ret; exact ⟨ret_bool (by rw [HF.out]; simp), by (repeat (first|exact bR _ _|assumption|apply bN|apply bA|apply bD))⟩)
      | (refine (Equal_any A B c d _ _ _ (HR.out.1.bI (by (repeat (first|exact bR _ _|assumption|apply bN|apply bA|apply bD)))) (HR.out.2.bI (by (repeat (first|exact bR _ _|assumption|apply bN|apply bA|apply bD))))).mono ?_
         rintro e w2 ⟨rfl, n, rfl⟩
         rw [HE.out]
         go_wp2
         go_ret
         exact ⟨ret_bool (by rw [HF.out]; simp), by (repeat (first|exact bR _ _|assumption|apply bN|apply bA|apply bD))⟩)
  cases q2
  · go_enter Tryz.func121, Tryz.ntmps121
    go_wp2_with fail
    first
      | (go_ret; exact ⟨ret_bool (by rw [HF.out]; simp), by (repeat (first|exact bR _ _|assumption|apply bN|apply bA|apply bD))⟩)
      | (refine (Equal_any A B c d _ _ _ (HR.out.1.bI (by (repeat (first|exact bR _ _|assumption|apply bN|apply bA|apply bD)))) (HR.out.2.bI (by (repeat (first|exact bR _ _|assumption|apply bN|apply bA|apply bD))))).mono ?_
         rintro e w2 ⟨rfl, n, rfl⟩
         rw [HE.out]
         go_wp2
         go_ret
         exact ⟨ret_bool (by rw [HF.out]; simp), by (repeat (first|exact bR _ _|assumption|apply bN|apply bA|apply bD))⟩)
  cases q3
  · go_enter Tryz.func121, Tryz.ntmps121
    go_wp2_with fail
    first
      | (go_ret; exact ⟨ret_bool (by rw [HF.out]; simp), by (repeat (first|exact bR _ _|assumption|apply bN|apply bA|apply bD))⟩)
      | (refine (Equal_any A B c d _ _ _ (HR.out.1.bI (by (repeat (first|exact bR _ _|assumption|apply bN|apply bA|apply bD)))) (HR.out.2.bI (by (repeat (first|exact bR _ _|assumption|apply bN|apply bA|apply bD))))).mono ?_
         rintro e w2 ⟨rfl, n, rfl⟩
         rw [HE.out]
         go_wp2
         go_ret
         exact ⟨ret_bool (by rw [HF.out]; simp), by (repeat (first|exact bR _ _|assumption|apply bN|apply bA|apply bD))⟩)
  cases q
  · go_enter Tryz.func121, Tryz.ntmps121
    go_wp2_with fail
    first
      | (go_ret; exact ⟨ret_bool (by rw [HF.out]; simp), by (repeat (first|exact bR _ _|assumption|apply bN|apply bA|apply bD))⟩)
      | (refine (Equal_any A B c d _ _ _ (HR.out.1.bI (by (repeat (first|exact bR _ _|assumption|apply bN|apply bA|apply bD)))) (HR.out.2.bI (by (repeat (first|exact bR _ _|assumption|apply bN|apply bA|apply bD))))).mono ?_
         rintro e w2 ⟨rfl, n, rfl⟩
         rw [HE.out]
         go_wp2
         go_ret
         exact ⟨ret_bool (by rw [HF.out]; simp), by (repeat (first|exact bR _ _|assumption|apply bN|apply bA|apply bD))⟩)
  · go_enter Tryz.func121, Tryz.ntmps121
    go_wp2_with fail
    first
      | (go_ret; exact ⟨ret_bool (by rw [HF.out]; simp), by (repeat (first|exact bR _ _|assumption|apply bN|apply bA|apply bD))⟩)
      | (refine (Equal_any A B c d _ _ _ (HR.out.1.bI (by (repeat (first|exact bR _ _|assumption|apply bN|apply bA|apply bD)))) (HR.out.2.bI (by (repeat (first|exact bR _ _|assumption|apply bN|apply bA|apply bD))))).mono ?_
         rintro e w2 ⟨rfl, n, rfl⟩
         rw [HE.out]
         go_wp2
         go_ret
         exact ⟨ret_bool (by rw [HF.out]; simp), by (repeat (first|exact bR _ _|assumption|apply bN|apply bA|apply bD))⟩)
set_option maxHeartbeats 2000000 in
theorem kSameGate_any (w : World) (xs ys : List G) : EqG w 65 #[] xs ys := by
  intro g h A B c d w1 _ _ hr hr0 hr' hr0' hB0
  clear hr0 hr0' hB0
  obtain ⟨q, hq⟩ : ∃ q, decide (g.wires = h.wires) = q := ⟨_, rfl⟩
  obtain ⟨q1, e1⟩ : ∃ q, (g.kind == h.kind) = q := ⟨_, rfl⟩
  obtain ⟨q2, e2⟩ : ∃ q, (g.cif == h.cif) = q := ⟨_, rfl⟩
  obtain ⟨q3, e3⟩ : ∃ q, (g.bit == h.bit) = q := ⟨_, rfl⟩
  have HF := Lib.hid (show decide (g = h) = (q1 && q2 && q3 && q) by
    rw [← hq, ← e1, ← e2, ← e3]
    cases g; cases h; rw [Bool.eq_iff_iff]; simp; exact ⟨fun ⟨a, b, c, d⟩ => ⟨⟨⟨a, d⟩, c⟩, b⟩, fun ⟨⟨⟨a, d⟩, c⟩, b⟩ => ⟨a, b, c, d⟩⟩)
  have HE := Lib.hid hq
  have HR := Lib.hid (And.intro hr hr')
  clear hr hr' hq
  cases q1
  · go_enter Tryz.func65, Tryz.ntmps65
    go_wp2_with fail
    first
      | (go_ret; exact ⟨ret_bool (by rw [HF.out]; simp), by (repeat (first|exact bR _ _|assumption|apply bN|apply bA|apply bD))⟩)
      | (refine (Equal_any A B c d _ _ _ (HR.out.1.bI (by (repeat (first|exact bR _ _|assumption|apply bN|apply bA|apply bD)))) (HR.out.2.bI (by (repeat (first|exact bR _ _|assumption|apply bN|apply bA|apply bD))))).mono ?_
         rintro e w2 ⟨rfl, n, rfl⟩
         rw [HE.out]
         go_wp2
         go_ret
         exact ⟨ret_bool (by rw [HF.out]; simp), by (repeat (first|exact bR _ _|assumption|apply bN|apply bA|apply bD))⟩)
  cases q3
  · go_enter Tryz.func65, Tryz.ntmps65
    go_wp2_with fail
    first
      | (go_ret; exact ⟨ret_bool (by rw [HF.out]; simp), by (repeat (first|exact bR _ _|assumption|apply bN|apply bA|apply bD))⟩)
      | (refine (Equal_any A B c d _ _ _ (HR.out.1.bI (by (repeat (first|exact bR _ _|assumption|apply bN|apply bA|apply bD)))) (HR.out.2.bI (by (repeat (first|exact bR _ _|assumption|apply bN|apply bA|apply bD))))).mono ?_
         rintro e w2 ⟨rfl, n, rfl⟩
         rw [HE.out]
         go_wp2
         go_ret
         exact ⟨ret_bool (by rw [HF.out]; simp), by (repeat (first|exact bR _ _|assumption|apply bN|apply bA|apply bD))⟩)
  cases q2
  · go_enter Tryz.func65, Tryz.ntmps65
    go_wp2_with fail
    first
      | (go_ret; exact ⟨ret_bool (by rw [HF.out]; simp), by (repeat (first|exact bR _ _|assumption|apply bN|apply bA|apply bD))⟩)
      | (refine (Equal_any A B c d _ _ _ (HR.out.1.bI (by (repeat (first|exact bR _ _|assumption|apply bN|apply bA|apply bD)))) (HR.out.2.bI (by (repeat (first|exact bR _ _|assumption|apply bN|apply bA|apply bD))))).mono ?_
         rintro e w2 ⟨rfl, n, rfl⟩
         rw [HE.out]
         go_wp2
         go_ret
         exact ⟨ret_bool (by rw [HF.out]; simp), by (repeat (first|exact bR _ _|assumption|apply bN|apply bA|apply bD))⟩)
  cases q
  · go_enter Tryz.func65, Tryz.ntmps65
    go_wp2_with fail
    first
      | (go_ret; exact ⟨ret_bool (by rw [HF.out]; simp), by (repeat (first|exact bR _ _|assumption|apply bN|apply bA|apply bD))⟩)
      | (refine (Equal_any A B c d _ _ _ (HR.out.1.bI (by (repeat (first|exact bR _ _|assumption|apply bN|apply bA|apply bD)))) (HR.out.2.bI (by (repeat (first|exact bR _ _|assumption|apply bN|apply bA|apply bD))))).mono ?_
         rintro e w2 ⟨rfl, n, rfl⟩
         rw [HE.out]
         go_wp2
         go_ret
         exact ⟨ret_bool (by rw [HF.out]; simp), by (repeat (first|exact bR _ _|assumption|apply bN|apply bA|apply bD))⟩)
  · go_enter Tryz.func65, Tryz.ntmps65
    go_wp2_with fail
    first
      | (go_ret; exact ⟨ret_bool (by rw [HF.out]; simp), by (repeat (first|exact bR _ _|assumption|apply bN|apply bA|apply bD))⟩)
      | (refine (Equal_any A B c d _ _ _ (HR.out.1.bI (by (repeat (first|exact bR _ _|assumption|apply bN|apply bA|apply bD)))) (HR.out.2.bI (by (repeat (first|exact bR _ _|assumption|apply bN|apply bA|apply bD))))).mono ?_
         rintro e w2 ⟨rfl, n, rfl⟩
         rw [HE.out]
         go_wp2
         go_ret
         exact ⟨ret_bool (by rw [HF.out]; simp), by (repeat (first|exact bR _ _|assumption|apply bN|apply bA|apply bD))⟩)
def EGv (ti B : Nat) (w : World) (p : G × Value) (cs : List Value) : Prop := cs = [.int .i64 p.1.kind, p.2, .int .i64 p.1.bit, .int .i64 p.1.cif] ∧ App EI ti 1 B w p.2 p.1.wires
theorem EGv.stays (ti B : Nat) : Stays (EGv ti B) := fun _ _ _ _ hb ⟨e, h⟩ => ⟨e, h.below EI.stays hb⟩
theorem EGv.other {ti T n sz B B' : Nat} {w w1 : World} {v' : Value} {g : G × Value} {cs cs' : List Value} (h : EGv ti B w g cs) (h' : w.ownsRow B' T sz v' n cs') (hg : w.grownBy w1 v'.ownBlock) (hne : ti ≠ T) : EGv ti B w1 g cs :=
  ⟨h.1, h.2.other h' hg hne⟩
theorem EGv.weak {ti B B' : Nat} (hB : B' ≤ B) {w : World} {p : G × Value} {cs : List Value} (h : EGv ti B w p cs) : EGv ti B' w p cs := ⟨h.1, h.2.imp hB (fun _ _ h => h)⟩
theorem EGv.o {ti B : Nat} {w : World} {p : G × Value} {cs : List Value} (h : EGv ti B w p cs) : EGo ti B w p.1 cs := ⟨p.2, h.1, h.2⟩
theorem Reps.mapf {α β : Type} {f : α → β} {R : α → List Value → Prop} {R' : β → List Value → Prop} {sz : Nat} {ps : List α} {cs : List Value} (h : Reps R sz ps cs) (hR : ∀ p c, R p c → R' (f p) c) : Reps R' sz (ps.map f) cs :=
  ⟨by rw [List.length_map, h.1], fun j q hj => by
    rw [List.getElem?_map] at hj
    obtain ⟨p, hp, rfl⟩ := Option.map_eq_some_iff.1 hj
    exact hR _ _ (h.2 j p hp)⟩
theorem App.mapf {α β : Type} {f : α → β} {E : World → α → List Value → Prop} {E' : World → β → List Value → Prop} {T sz B : Nat} {w : World} {v : Value} {xs : List α} (h : App E T sz B w v xs) (hE : ∀ x cs, E w x cs → E' w (f x) cs) : App E' T sz B w v (xs.map f) := by
  obtain ⟨cs, ho, hr⟩ := h
  exact ⟨cs, by rw [List.length_map]; exact ho, hr.mapf hE⟩
def Dist (ps : List (G × Value)) : Prop := ps.Pairwise fun p q => p.2.ownBlock = none ∨ p.2.ownBlock ≠ q.2.ownBlock
theorem Dist.snoc {ps : List (G × Value)} {p : G × Value} (h : Dist ps) (hp : ∀ q ∈ ps, q.2.ownBlock = none ∨ q.2.ownBlock ≠ p.2.ownBlock) : Dist (ps ++ [p]) :=
  List.pairwise_append.2 ⟨h, List.pairwise_singleton _ _, fun q hq r hr => by rw [List.mem_singleton.1 hr]; exact hp q hq⟩
def Own (ti tg B : Nat) (w : World) (v : Value) (gs : List G) : Prop := ∃ ps, ps.map Prod.fst = gs ∧ Dist ps ∧ App (EGv ti B) tg 4 B w v ps
theorem App.mem {α : Type} {E : World → α → List Value → Prop} {T sz B : Nat} {w : World} {v : Value} {xs : List α} (h : App E T sz B w v xs) {x : α} (hx : x ∈ xs) : ∃ cs, E w x cs := by
  obtain ⟨cs, ho, hr⟩ := h
  obtain ⟨i, hi⟩ := List.getElem?_of_mem hx
  exact ⟨_, hr.2 i x hi⟩
theorem App.block {α : Type} {E : World → α → List Value → Prop} {T sz B : Nat} {w : World} {v : Value} {xs : List α} (h : App E T sz B w v xs) : v.ownBlock = none ∨ ∃ k, v.ownBlock = some k ∧ B ≤ k ∧ k < w.heap.size := by
  obtain ⟨cs, ho, hr⟩ := h
  rcases hk : v.ownBlock with _ | k
  · exact .inl rfl
  · exact .inr ⟨k, rfl, (ho.lt k hk).1, (ho.lt k hk).2⟩
theorem App.grows {α : Type} {E : World → α → List Value → Prop} {T sz B B0 : Nat} {w0 w w1 : World} {v : Value} {xs : List α} (h : App E T sz B w v xs) (hg : w.grownBy w1 v.ownBlock) (hb : Below B0 w0 w) (h0 : B0 ≤ B) (h1 : B0 ≤ w.heap.size) : Below B0 w0 w1 := by
  refine hb.grown hg h1 fun k hk => ?_
  rcases h.block with h | ⟨k', h, h', _⟩
  · rw [h] at hk; cases hk
  · rw [h] at hk; cases hk; exact Nat.le_trans h0 h'
theorem Dist.new {ti tg B B' : Nat} {W W' : World} {v v1 : Value} {ps : List (G × Value)} {g : G} {xs : List Int} (hd : Dist ps) (h : App (EGv ti B) tg 4 B W v ps) (h1 : App EI ti 1 B' W' v1 xs) (hB : W.heap.size ≤ B') : Dist (ps ++ [(g, v1)]) := by
  refine hd.snoc fun q hq => ?_
  obtain ⟨cs, he⟩ := h.mem hq
  rcases he.2.block with h0 | ⟨k, hk, _, hk2⟩
  · exact .inl h0
  · right
    rcases h1.block with h2 | ⟨k', hk', hb', _⟩
    · rw [hk, h2]; simp
    · rw [hk, hk']; simp; omega
theorem App.setCell {w : World} {ti B : Nat} {v : Value} {xs : List Int} (h : App EI ti 1 B w v xs) {a : Addr} (ha : a.block < B) (u : Value) : App EI ti 1 B (w.setCell a u) v xs := by
  obtain ⟨cs, ho, hr⟩ := h
  exact ⟨cs, ownsRow_setCell_below ho ha u, hr⟩
set_option maxRecDepth 100000 in
set_option maxHeartbeats 2000000 in
theorem copied_any (A : Option Addr) (c : Nat) (xs : List (List G)) (w : World) (h : RdGs w A xs) (hw : ∀ l ∈ xs, ∀ g ∈ l, g.wires.length ≤ 1000000) (hf : xs.flatten.length ≤ 1000000) :
    Calls Tryz.prog 81 #[.slice A xs.length c] w fun e w' => ∃ v, e = .returned v ∧ Own 3 55 w.heap.size w' v xs.flatten ∧ Below w.heap.size w w' := by
  have hl := h.1
  have HF := Lib.hid hf
  have HW := Lib.hid hw
  have HR := Lib.hid h
  clear hf hw h
  go_enter Tryz.func81, Tryz.ntmps81
  go_wp2
  go_loopw [3, 10] (fun v i wr => ∃ k : Nat, k ≤ xs.length ∧ i = .int .i64 k ∧ Hid (Own 3 55 w.heap.size wr v (xs.take k).flatten) ∧ Below w.heap.size w wr) (fun _ i _ => xs.length - (intOf i).toNat)
  case atStart => exact ⟨0, Nat.zero_le _, rfl, Lib.hid ⟨[], by simp, List.Pairwise.nil, App.nil _ _ _ _ _⟩, Below.refl _ _⟩
  case round =>
    obtain ⟨k, hk, rfl, HO, hB⟩ := hrel
    by_cases hlt : k < xs.length
    · obtain ⟨b, o, B1, c1, rfl, h0, hc1, hr1⟩ := HR.out.gates k hlt
      replace h0 := kc hB h0
      have HR1 := Lib.hid hr1
      have hl1 := hr1.1
      clear hr1
      go_wp2
      go_loopw [3, 16] (fun v i wr => ∃ j : Nat, j ≤ xs[k].length ∧ i = .int .i64 j ∧ Hid (Own 3 55 w.heap.size wr v ((xs.take k).flatten ++ xs[k].take j)) ∧ Below w.heap.size w wr) (fun _ i _ => xs[k].length - (intOf i).toNat)
      case atStart => exact ⟨0, Nat.zero_le _, rfl, Lib.hid (by simpa using HO.out), hB⟩
      case round =>
        obtain ⟨j, hj, rfl, HO2, hB2⟩ := hrel
        by_cases hlt2 : j < xs[k].length
        · obtain ⟨b2, o2, B2, c2, rfl, g0, g1, g2, g3, hc2, hr2⟩ := (HR1.out.bG hB2).gate j hlt2
          obtain ⟨g, hg⟩ : ∃ g, xs[k][j] = g := ⟨_, rfl⟩
          rw [hg] at g0 g1 g2 g3 hc2 hr2
          obtain ⟨ps, hps, hd, ho⟩ := HO2.out
          have hwg : g.wires.length ≤ 1000000 := HW.out _ (List.getElem_mem hlt) _ (hg ▸ List.getElem_mem hlt2)
          have hpl : ps.length + 1 ≤ 1000000 := by
            have e := congrArg List.length hps
            have e1 : xs.flatten = (xs.take k).flatten ++ (xs[k] ++ (xs.drop (k + 1)).flatten) := by
              rw [← List.flatten_cons, ← drop_cons xs k hlt, ← List.flatten_append, List.take_append_drop]
            have e2 := HF.out
            rw [e1] at e2
            simp only [List.length_map, List.length_append, List.length_take] at e e2
            omega
          have HG := Lib.hid (And.intro hg (And.intro hps hd))
          have HA := Lib.hid ho
          clear hg hps hd ho
          have hold := olds wr
          have lb := cell_lt g0
          have HRI := Lib.hid hr2
          clear hr2
          go_wp2_with fail
          refine (Clone_any B2 c2 g.wires _ (HRI.out.bI (by (repeat (first|exact bR _ _|assumption|apply bN|apply bA|apply bD)))) hwg).mono ?_
          rintro e w2 ⟨v1, rfl, hv1, hb2⟩
          obtain ⟨A3, c3, rfl, hc3⟩ := hv1.form
          have k0 := kc hb2 (a := ⟨wr.heap.size, 0, none⟩) (v := (.int .i64 g.kind)) (by go_simp)
          have k2 := kc hb2 (a := ⟨wr.heap.size, 2, none⟩) (v := (.int .i64 g.bit)) (by go_simp)
          have k3 := kc hb2 (a := ⟨wr.heap.size, 3, none⟩) (v := (.int .i64 g.cif)) (by go_simp)
          have k1 := kc hb2 (a := ⟨wr.heap.size, 1, none⟩) (v := (.slice B2 g.wires.length c2)) (by go_simp)
          have kz : w2.frozen? ⟨wr.heap.size, 1, none⟩ = false := by rw [(bcell hb2).2 _ _ (by simp)]; go_simp
          have hbs := hb2.size
          simp only [World.size_alloc] at hbs
          have HB3 := Lib.hid (show Below wr.heap.size wr (w2.setCell ⟨wr.heap.size, 1, none⟩ (.slice A3 g.wires.length c3)) from ((below_alloc (Below.refl _ _) _).trans (hb2.mono (by simp))).setCell (Nat.le_refl _) _)
          have HV := Lib.hid (hv1.setCell (a := ⟨wr.heap.size, 1, none⟩) (by simp) (.slice A3 g.wires.length c3))
          have HD := Lib.hid (HG.out.2.2.new (g := g) HA.out hv1 (by simp))
          clear hb2 hv1
          go_wp2_with (at_builtin; refine wp_app (E := EGv 3 w.heap.size) 55 4 w.heap.size rfl _ _ 22 (.agg #[.int .i64 0, .slice none 0 0, .int .i64 0, .int .i64 0]) 48 rfl Tryz.underlying22 (by kernel_rfl) rfl (by decide) (by decide) _ ps (g, .slice A3 g.wires.length c3) [.int .i64 g.kind, .slice A3 g.wires.length c3, .int .i64 g.bit, .int .i64 g.cif] rfl (by rw [World.size_setCell]; rfl) rfl (by simp [Value.oneCell']) ⟨rfl, HV.out.imp (by have := hB2.size; simp; omega) (fun _ _ h => h)⟩ (HA.out.below (EGv.stays _ _) HB3.out) (by have := hB2.size; have := HB3.out.size; omega) (by omega) (fun _ _ _ h1 h2 _ _ h => h.other h1 h2 (by decide)) ?_; intro v2 w3 ho2 hg2)
          have HO3 := Lib.hid (show Own 3 55 w.heap.size w3 v2 ((xs.take k).flatten ++ xs[k].take (j + 1)) from
            ⟨_, by rw [List.map_append, HG.out.2.1, List.take_succ_eq_append_getElem hlt2, ← List.append_assoc, HG.out.1]; rfl, HD.out, ho2⟩)
          have HB4 := Lib.hid ((HA.out.below (EGv.stays _ _) HB3.out).grows hg2 (hB2.trans (HB3.out.mono hB2.size)) (Nat.le_refl _) (Nat.le_trans hB2.size HB3.out.size))
          clear ho2 hg2
          go_wp2
          go_roundw
          case rel => exact ⟨j + 1, by omega, by go_num, HO3, HB4.out⟩
          case measure => simp [intOf]; omega
        · have HO3 := Lib.hid (show Own 3 55 w.heap.size wr u3 (xs.take (k + 1)).flatten from by
            have := HO2.out
            rw [List.take_of_length_le (l := xs[k]) (by omega)] at this
            rw [List.take_succ_eq_append_getElem hlt, List.flatten_append, List.flatten_singleton]
            exact this)
          go_wp2
          go_roundw
          case rel => exact ⟨k + 1, by omega, by go_num, HO3, hB2⟩
          case measure => simp [intOf]; omega
    · have HO3 := Lib.hid (show Own 3 55 w.heap.size wr u3 xs.flatten from by
        have := HO.out
        rwa [List.take_of_length_le (by omega)] at this)
      go_wp2
      go_ret
      exact ⟨_, rfl, HO3.out, hB⟩
theorem touches_no (A B : Option Addr) (c d : Nat) (g h : G) (w : World) (hk : g.kind ≠ 13) :
    Calls Tryz.prog 180 #[.agg #[.int .i64 g.kind, .slice A g.wires.length c, .int .i64 g.bit, .int .i64 g.cif], .agg #[.int .i64 h.kind, .slice B h.wires.length d, .int .i64 h.bit, .int .i64 h.cif]] w fun e w' => e = .returned (.bool false) ∧ Below w.heap.size w w' := by
  have hk' : (g.kind == 13) = false := by simp [hk]
  clear hk
  go_enter Tryz.func180, Tryz.ntmps180
  go_wp2
  go_ret
  exact ⟨rfl, by (repeat (first|exact bR _ _|assumption|apply bN|apply bA|apply bD))⟩
def bv (f : Nat → Bool) : Array Value := ((List.range 12).map fun i => Value.bool (f i)).toArray
def inW (ws : List Int) (i : Nat) : Bool := decide ((i : Int) ∈ ws)
theorem bv_size (f : Nat → Bool) : (bv f).size = 12 := by simp [bv]
theorem bv_get (f : Nat → Bool) (i : Nat) : (bv f)[i]? = if i < 12 then some (.bool (f i)) else none := by
  unfold bv
  rw [List.getElem?_toArray, List.getElem?_map]
  by_cases h : i < 12
  · rw [if_pos h, List.getElem?_range h]; rfl
  · rw [if_neg h, List.getElem?_eq_none (by simp; omega)]; rfl
theorem bv_congr {f g : Nat → Bool} (h : ∀ i, i < 12 → f i = g i) : bv f = bv g := by
  apply Array.ext_getElem?
  intro i
  rw [bv_get, bv_get]
  by_cases hi : i < 12
  · rw [if_pos hi, if_pos hi, h i hi]
  · rw [if_neg hi, if_neg hi]
theorem bv_set (f : Nat → Bool) (k : Nat) (b : Bool) (hk : k < 12) : (bv f).setIfInBounds k (.bool b) = bv (fun i => if i = k then b else f i) := by
  apply Array.ext_getElem?
  intro i
  rw [Array.getElem?_setIfInBounds, bv_size, bv_get, bv_get]
  by_cases e : k = i
  · subst e; simp [hk]
  · rw [if_neg e]
    by_cases hi : i < 12
    · rw [if_pos hi, if_pos hi, if_neg (Ne.symm e)]
    · rw [if_neg hi, if_neg hi]
theorem bv_nil : bv (inW []) = #[.bool false, .bool false, .bool false, .bool false, .bool false, .bool false, .bool false, .bool false, .bool false, .bool false, .bool false, .bool false] := by rfl
theorem bv_one (f : Nat → Bool) : (bv f).all (·.oneCell') = true := by
  rw [Array.all_eq_true_iff_forall_mem]
  intro v hv
  simp only [bv, List.mem_toArray, List.mem_map] at hv
  obtain ⟨_, _, rfl⟩ := hv
  rfl
theorem inW_snoc (ws : List Int) (x : Int) (h0 : 0 ≤ x) (h1 : x < 12) : (bv (inW ws)).setIfInBounds x.toNat (.bool true) = bv (inW (ws ++ [x])) := by
  rw [bv_set _ _ _ (by omega)]
  refine bv_congr fun i hi => ?_
  unfold inW
  by_cases e : i = x.toNat
  · rw [if_pos e, eq_comm, decide_eq_true_eq]
    simp only [List.mem_append, List.mem_singleton]
    omega
  · rw [if_neg e, decide_eq_decide]
    simp only [List.mem_append, List.mem_singleton]
    constructor
    · exact .inl
    · rintro (h | h)
      · exact h
      · omega
theorem hnew3 (w : World) (a b c : Obj) : (((w.alloc a).alloc b).alloc c).heap[w.heap.size + 1 + 1]? = some c := by
  have := heap_alloc_new ((w.alloc a).alloc b) c
  simpa using this
theorem hnew3'' (w : World) (a b c : Obj) : (((w.alloc a).alloc b).alloc c).heap[w.heap.size]? = some a := by
  rw [Below.heap_alloc _ _ _ (by simp; omega)]
  exact heap_alloc2_old w a b
theorem hnew3' (w : World) (a b c : Obj) : (((w.alloc a).alloc b).alloc c).heap[w.heap.size + 1]? = some b := by
  have := heap_alloc2_old (w.alloc a) b c
  simpa using this
set_option maxRecDepth 100000 in
set_option maxHeartbeats 1000000 in
theorem of_any (A : Option Addr) (c : Nat) (g : G) (w : World) (h : RdI w A g.wires) (hr : ∀ x ∈ g.wires, 0 ≤ x ∧ x < 12) :
    Calls Tryz.prog 182 #[.agg #[.int .i64 g.kind, .slice A g.wires.length c, .int .i64 g.bit, .int .i64 g.cif]] w fun e w' => e = .returned (.agg (bv (inW g.wires))) ∧ Below w.heap.size w w' := by
  have hl := h.1
  have HR := Lib.hid hr
  clear hr
  go_enter Tryz.func182, Tryz.ntmps182
  go_wp2_with fail
  go_loopw [5, 9] (fun _ i wr => ∃ k : Nat, k ≤ g.wires.length ∧ i = .int .i64 k ∧ Hid (wr.heap[w.heap.size + 1 + 1]? = some (.cells (bv (inW (g.wires.take k))) 200 (0, 0))) ∧ Hid (wr.heap[w.heap.size + 1]? = some (.cells (bv (inW [])) 200 (0, 0))) ∧ Below w.heap.size w wr) (fun _ i _ => g.wires.length - (intOf i).toNat)
  case atStart =>
    exact ⟨0, Nat.zero_le _, rfl, Lib.hid (by rw [List.take_zero, bv_nil]; exact hnew3 _ _ _ _), Lib.hid (by rw [bv_nil]; exact hnew3' _ _ _ _), by (repeat (first|exact bR _ _|assumption|apply bN|apply bA|apply bD))⟩
  case round =>
    obtain ⟨k, hk, rfl, HA, HZ, hB⟩ := hrel
    by_cases hlt : k < g.wires.length
    · obtain ⟨b, o, rfl, hc⟩ := (h.bI hB).int k hlt
      obtain ⟨x0, x1⟩ := HR.out _ (List.getElem_mem hlt)
      have hcell : wr.cell? ⟨w.heap.size + 1 + 1, g.wires[k].toNat, none⟩ = some (.bool (inW (g.wires.take k) g.wires[k].toNat)) := by
        rw [cell_of_row _ _ _ _ _ _ HA.out, bv_get, if_pos (by omega)]
      have hfr : wr.frozen? ⟨w.heap.size + 1 + 1, g.wires[k].toNat, none⟩ = false := by simp [World.frozen?, HA.out]
      have HX := Lib.hid (inW_snoc (g.wires.take k) g.wires[k] x0 x1)
      clear h
      go_wp2
      go_roundw
      case rel =>
        refine ⟨k + 1, by omega, by go_num, Lib.hid ?_, Lib.hid ?_, hB.setCell (by show w.heap.size ≤ w.heap.size + 1 + 1; omega) _⟩
        · rw [List.take_succ_eq_append_getElem hlt, ← HX.out]
          simp [World.setCell, Array.getElem?_modify, HA.out]
        · rw [Below.heap_setCell _ _ _ _ (by show w.heap.size + 1 ≠ w.heap.size + 1 + 1; omega)]
          exact HZ.out
      case measure => simp [intOf]; omega
    · have HA' := Lib.hid (show wr.heap[w.heap.size + 1 + 1]? = some (.cells (bv (inW g.wires)) 200 (0, 0)) by have := HA.out; rwa [List.take_of_length_le (by omega)] at this)
      clear HA
      have hsz : ∀ f, (Tryz.prog.info? 200).map (·.size) = some (bv f).size := fun ws => by rw [bv_size]; kernel_rfl
      have HS := Lib.hid hsz
      clear hsz
      go_wp2_with (first | (refine wpList_load_row rfl 200 _ rfl (w.heap.size + 1 + 1) rfl _ _ _ _ HA'.out Tryz.underlying200 rfl (HS.out _) ?_) | (refine wpList_store_row rfl 200 _ _ rfl (w.heap.size + 1) _ rfl rfl _ _ HZ.out (HS.out _) (by rw [bv_size, bv_size]) (bv_one _) ?_))
      exact bodyPost_ret (v := .agg (bv (inW g.wires))) (results_cell_row rfl _ _ (w.heap.size + 1) 200 _ _ _ rfl (setRow_heap _ _ _ _ _ _ HZ.out) Tryz.underlying200 rfl (HS.out _)) rfl ⟨rfl, below_setRow hB (by omega) _⟩
def mixB (f g : Nat → Bool) (k i : Nat) : Bool := if i < k then f i && g i else f i
theorem mixB_set (f g : Nat → Bool) (k : Nat) (hk : k < 12) (b : Bool) (hb : b = (f k && g k)) : (bv (mixB f g k)).setIfInBounds k (.bool b) = bv (mixB f g (k + 1)) := by
  rw [bv_set _ _ _ hk]
  refine bv_congr fun i _ => ?_
  unfold mixB
  by_cases e : i = k
  · subst e; simp [hb]
  · rw [if_neg e]
    by_cases h : i < k
    · rw [if_pos h, if_pos (by omega)]
    · rw [if_neg h, if_neg (by omega)]
set_option maxRecDepth 100000 in
set_option maxHeartbeats 1000000 in
theorem both_any (f g : Nat → Bool) (w : World) :
    Calls Tryz.prog 190 #[.agg (bv f), .agg (bv g)] w fun e w' => e = .returned (.agg (bv (fun i => f i && g i))) ∧ Below w.heap.size w w' := by
  go_enter Tryz.func190, Tryz.ntmps190
  go_wp2_with fail
  go_loopw [5, 6] (fun _ i wr => ∃ k : Nat, k ≤ 12 ∧ i = .int .i64 k ∧ Hid (wr.heap[w.heap.size]? = some (.cells (bv (mixB f g k)) 200 (0, 0))) ∧ Hid (wr.heap[w.heap.size + 1]? = some (.cells (bv g) 200 (0, 0))) ∧ Hid (wr.heap[w.heap.size + 1 + 1]? = some (.cells (bv (fun _ => false)) 200 (0, 0))) ∧ Below w.heap.size w wr) (fun _ i _ => 12 - (intOf i).toNat)
  case atStart => exact ⟨0, Nat.zero_le _, rfl, Lib.hid (hnew3'' _ _ _ _), Lib.hid (hnew3' _ _ _ _), Lib.hid (hnew3 _ _ _ _), by (repeat (first|exact bR _ _|assumption|apply bN|apply bA|apply bD))⟩
  case round =>
    obtain ⟨k, hk, rfl, HA, HG, HZ, hB⟩ := hrel
    by_cases hlt : k < 12
    · have c1 : wr.cell? ⟨w.heap.size, k, none⟩ = some (.bool (mixB f g k k)) := by rw [cell_of_row _ _ _ _ _ _ HA.out, bv_get, if_pos hlt]
      have c2 : wr.cell? ⟨w.heap.size + 1, k, none⟩ = some (.bool (g k)) := by rw [cell_of_row _ _ _ _ _ _ HG.out, bv_get, if_pos hlt]
      have hfr : wr.frozen? ⟨w.heap.size, k, none⟩ = false := by simp [World.frozen?, HA.out]
      rw [show mixB f g k k = f k by simp [mixB]] at c1
      have hki : (k : Int) < 12 := by omega
      cases hf : f k
      · rw [hf] at c1
        have HX := Lib.hid (mixB_set f g k hlt false (by rw [hf]; rfl))
        clear hf
        go_wp2
        go_roundw
        case rel =>
          refine ⟨k + 1, by omega, by go_num, Lib.hid ?_, Lib.hid ?_, Lib.hid ?_, hB.setCell (Nat.le_refl _) _⟩
          · rw [← HX.out]; simp [World.setCell, Array.getElem?_modify, HA.out]
          · rw [Below.heap_setCell _ _ _ _ (by show w.heap.size + 1 ≠ w.heap.size; omega)]; exact HG.out
          · rw [Below.heap_setCell _ _ _ _ (by show w.heap.size + 1 + 1 ≠ w.heap.size; omega)]; exact HZ.out
        case measure => simp [intOf]; omega
      · rw [hf] at c1
        have HX := Lib.hid (mixB_set f g k hlt (g k) (by rw [hf]; rfl))
        clear hf
        go_wp2
        go_roundw
        case rel =>
          refine ⟨k + 1, by omega, by go_num, Lib.hid ?_, Lib.hid ?_, Lib.hid ?_, hB.setCell (Nat.le_refl _) _⟩
          · rw [← HX.out]; simp [World.setCell, Array.getElem?_modify, HA.out]
          · rw [Below.heap_setCell _ _ _ _ (by show w.heap.size + 1 ≠ w.heap.size; omega)]; exact HG.out
          · rw [Below.heap_setCell _ _ _ _ (by show w.heap.size + 1 + 1 ≠ w.heap.size; omega)]; exact HZ.out
        case measure => simp [intOf]; omega
    · obtain rfl : k = 12 := by omega
      have HA' := Lib.hid (show wr.heap[w.heap.size]? = some (.cells (bv (fun i => f i && g i)) 200 (0, 0)) by rw [HA.out, bv_congr (f := mixB f g 12) (g := fun i => f i && g i) (fun i hi => by simp [mixB, hi])])
      have hsz : ∀ f, (Tryz.prog.info? 200).map (·.size) = some (bv f).size := fun ws => by rw [bv_size]; kernel_rfl
      have HS := Lib.hid hsz
      clear hsz HA
      go_wp2_with (first | (refine wpList_load_row rfl 200 _ rfl w.heap.size rfl _ _ _ _ HA'.out Tryz.underlying200 rfl (HS.out _) ?_) | (refine wpList_store_row rfl 200 _ _ rfl (w.heap.size + 1 + 1) _ rfl rfl _ _ HZ.out (HS.out _) (by rw [bv_size, bv_size]) (bv_one _) ?_))
      exact bodyPost_ret (v := .agg (bv (fun i => f i && g i))) (results_cell_row rfl _ _ (w.heap.size + 1 + 1) 200 _ _ _ rfl (setRow_heap _ _ _ _ _ _ HZ.out) Tryz.underlying200 rfl (HS.out _)) rfl ⟨rfl, below_setRow hB (by omega) _⟩
end Go.Proofs.YtfommmijojfdbaaGreatDoor
