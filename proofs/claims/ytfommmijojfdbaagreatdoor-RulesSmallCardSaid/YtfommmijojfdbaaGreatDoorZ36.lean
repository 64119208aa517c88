/- Part 37 of the proof that 'spoondriftlaw19.RulesApplies' holds for every input; it has no condition beyond the statement's own. -/
import Derived.Test.YtfommmijojfdbaaGreatDoorZ35
import Derived.Test.YtfommmijojfdbaaGreatDoorZ23
import Derived.Test.YtfommmijojfdbaaGreatDoorZ13
import Derived.Test.YtfommmijojfdbaaGreatDoorZ29
set_option linter.all false
namespace Go.Proofs.YtfommmijojfdbaaGreatDoor
open Go.RowKit
theorem flat_get {α : Type} {sz : Nat} : ∀ (css : List (List α)) (k i : Nat), (∀ cs ∈ css, cs.length = sz) → i < sz → css.flatten[k * sz + i]? = css[k]?.bind (·[i]?)
  | [], k, i, _, _ => by simp
  | c :: css, 0, i, h, hi => by
    have hc := h c List.mem_cons_self
    rw [List.flatten_cons, Nat.zero_mul, Nat.zero_add, List.getElem?_append_left (by omega)]
    rfl
  | c :: css, k + 1, i, h, hi => by
    have hc := h c List.mem_cons_self
    rw [List.flatten_cons, List.getElem?_append_right (by rw [hc, Nat.succ_mul]; omega), hc, show (k + 1) * sz + i - sz = k * sz + i by rw [Nat.succ_mul]; omega,
      flat_get css k i (fun cs hcs => h cs (List.mem_cons_of_mem _ hcs)) hi]
    rfl
theorem Rd.blk {α : Type} {E : World → α → List Value → Prop} {sz b : Nat} {W : World} {T : TypeId} {row : Array Value} {fz : Nat × Nat} {xs : List α} (css : List (List Value)) (hb : W.heap[b]? = some (.cells row T fz)) (hrow : row = css.flatten.toArray) (hl : xs.length ≤ 1000000) (hlen : css.length = xs.length) (hcs : ∀ cs ∈ css, cs.length = sz)
    (h : ∀ (k : Nat) (x : α) (cs : List Value), xs[k]? = some x → css[k]? = some cs → E W x cs) : Rd E sz W (some ⟨b, 0, none⟩) xs := by
  subst hrow
  refine ⟨by omega, fun k x hx => ?_⟩
  have hk := (List.getElem?_eq_some_iff.1 hx).1
  obtain ⟨cs, hc⟩ : ∃ cs, css[k]? = some cs := ⟨_, List.getElem?_eq_getElem (by omega)⟩
  refine ⟨_, _, cs, rfl, h k x cs hx hc, hcs _ (List.mem_of_getElem? hc), fun i u hu => ?_⟩
  have hi : i < sz := by have := (List.getElem?_eq_some_iff.1 hu).1; rw [hcs _ (List.mem_of_getElem? hc)] at this; exact this
  rw [cell_of_row _ _ (0 + k * sz + i) _ _ fz hb]
  have := flat_get css k i hcs hi
  rw [hc] at this
  rw [Nat.zero_add]
  simpa [hu] using this
theorem RdI.blk {b : Nat} {W : World} {T : TypeId} {row : Array Value} {fz : Nat × Nat} (xs : List Int) (hb : W.heap[b]? = some (.cells row T fz)) (hrow : row = (xs.map (Value.int .i64)).toArray) (hl : xs.length ≤ 1000000) : RdI W (some ⟨b, 0, none⟩) xs := by
  subst hrow
  refine ⟨by omega, fun k x hx => ⟨_, _, _, rfl, rfl, rfl, fun i u hu => ?_⟩⟩
  have hi : i = 0 := by have := (List.getElem?_eq_some_iff.1 hu).1; simpa using this
  subst hi
  have hu' : Value.int .i64 x = u := by simpa using hu
  subst hu'
  rw [cell_of_row _ _ (0 + k * 1 + 0) _ _ fz hb]
  simp [hx]
set_option maxRecDepth 100000 in
set_option maxHeartbeats 4000000 in
theorem chain_any (w : World) : Calls Tryz.prog 57 #[] w fun e w' =>
    ∃ A B, e = .returned (.tuple #[.agg #[.int .i64 2, .int .i64 0, .slice A 4 4], .slice B 2 2]) ∧ RdG w' A exC.gates ∧ RdM w' B exL ∧ Below w.heap.size w w' := by
  go_enter Tryz.func57, Tryz.ntmps57
  obtain ⟨W0, hW0⟩ : ∃ W0, w.alloc (.cells #[.int .i64 0, .int .i64 0, .slice none 0 0] 24) = W0 := ⟨_, rfl⟩
  have b0 : Below w.heap.size w W0 := by rw [← hW0]; (repeat (first|exact bR _ _|assumption|apply bN|apply bA|apply bD))
  have p0 : W0.heap[w.heap.size]? = some (.cells #[.int .i64 0, .int .i64 0, .slice none 0 0] 24 (0, 0)) := by rw [← hW0]; exact blk_alloc _ _ _ rfl
  go_upto_region 1 with fail
  try rw [hW0]
  clear hW0
  have HP := Lib.hid (And.intro b0 p0)
  clear b0 p0
  go_wp2_with fail
  refine (gate_lay _ _ _ _ _).mono ?_
  rintro e w1 ⟨rfl, hb⟩
  have R1 := Lib.hid (And.intro (blk2 hb (blk_alloc W0 (.cells #[.int .i64 1] 3) _ rfl)) (Below.trans (b := _) (show Below W0.heap.size W0 _ by (repeat (first|exact bR _ _|assumption|apply bN|apply bA|apply bD))) (hb.mono (by simp))))
  clear hb
  go_wp2_with fail
  refine (gate_lay _ _ _ _ _).mono ?_
  rintro e w2 ⟨rfl, hb⟩
  have R2 := Lib.hid (And.intro (blk2 hb (blk_alloc w1 (.cells #[.int .i64 0, .int .i64 1] 3) _ rfl)) (Below.trans (b := _) (show Below w1.heap.size w1 _ by (repeat (first|exact bR _ _|assumption|apply bN|apply bA|apply bD))) (hb.mono (by simp))))
  clear hb
  go_wp2_with fail
  refine (gate_lay _ _ _ _ _).mono ?_
  rintro e w3 ⟨rfl, hb⟩
  have R3 := Lib.hid (And.intro (blk2 hb (blk_alloc w2 (.cells #[.int .i64 1] 3) _ rfl)) (Below.trans (b := _) (show Below w2.heap.size w2 _ by (repeat (first|exact bR _ _|assumption|apply bN|apply bA|apply bD))) (hb.mono (by simp))))
  clear hb
  go_wp2_with fail
  refine (gate_lay _ _ _ _ _).mono ?_
  rintro e w4 ⟨rfl, hb⟩
  have R4 := Lib.hid (And.intro (blk2 hb (blk_alloc w3 (.cells #[.int .i64 0, .int .i64 1] 3) _ rfl)) (Below.trans (b := _) (show Below w3.heap.size w3 _ by (repeat (first|exact bR _ _|assumption|apply bN|apply bA|apply bD))) (hb.mono (by simp))))
  clear hb
  go_wp2_with fail
  refine (on_lay _ _ _ _ _).mono ?_
  rintro e w5 ⟨rfl, hb⟩
  have R5 := Lib.hid (And.intro (blk2 hb (blk_alloc w4 (.cells #[.int .i64 4, .slice (some ⟨W0.heap.size, 0, none⟩) 1 1, .int .i64 0, .int .i64 0, .int .i64 9, .slice (some ⟨w1.heap.size, 0, none⟩) 2 2, .int .i64 0, .int .i64 0, .int .i64 4, .slice (some ⟨w2.heap.size, 0, none⟩) 1 1, .int .i64 0, .int .i64 0, .int .i64 10, .slice (some ⟨w3.heap.size, 0, none⟩) 2 2, .int .i64 0, .int .i64 0] 55) _ rfl)) (Below.trans (b := _) (show Below w4.heap.size w4 _ by (repeat (first|exact bR _ _|assumption|apply bN|apply bA|apply bD))) (hb.mono (by simp))))
  clear hb
  have s1 := R1.out.2
  have s2 := R2.out.2
  have s3 := R3.out.2
  have s4 := R4.out.2
  have s5 := R5.out.2
  have t45 := s5
  have t35 := s4.trans (s5.mono s4.size)
  have t25 := s3.trans (t35.mono s3.size)
  have t15 := s2.trans (t25.mono s2.size)
  have t05 := s1.trans (t15.mono s1.size)
  have z0 := blk_lt HP.out.2
  have z1 := s1.size
  have z2 := s2.size
  have z3 := s3.size
  have z4 := s4.size
  have z5 := s5.size
  have y1 := blk_lt R1.out.1
  have y2 := blk_lt R2.out.1
  have y3 := blk_lt R3.out.1
  have y4 := blk_lt R4.out.1
  have y5 := blk_lt R5.out.1
  have q0 := blk2 t05 HP.out.2
  obtain ⟨k0, k1, k2, kf⟩ := cells3 q0
  have lq := blk_lt q0
  have HQ := Lib.hid (And.intro (blk2 t15 R1.out.1) (And.intro (blk2 t25 R2.out.1) (And.intro (blk2 t35 R3.out.1) (And.intro (blk2 t45 R4.out.1) (And.intro R5.out.1 (And.intro q0 (HP.out.1.trans (t05.mono HP.out.1.size))))))))
  clear s1 s2 s3 s4 s5 t45 t35 t25 t15 t05 q0 R1 R2 R3 R4 R5
  have hA : ∀ x y z : Obj, Below w5.heap.size w5 (((w5.alloc x).alloc y).alloc z) := fun x y z => by (repeat (first|exact bR _ _|assumption|apply bN|apply bA|apply bD))
  have c0 := fun x y z => kc (hA x y z) k0
  have c1 := fun x y z => kc (hA x y z) k1
  have c2 := fun x y z => kc (hA x y z) k2
  have cf := fun x y z (k : Nat) => ((bcell (hA x y z)).2 w.heap.size k lq).trans (kf k)
  clear hA
  go_wp2
  obtain ⟨X, hX⟩ : ∃ X, (((w5.alloc (.cells #[.int .i64 0, .int .i64 1] 3)).alloc (.cells #[.int .i64 0, .int .i64 1] 3)).alloc (.cells #[.int .i64 33, .int .i64 0, .bool false, .slice (some ⟨w5.heap.size, 0, none⟩) 2 2, .int .i64 9, .int .i64 0, .bool false, .slice (some ⟨w5.heap.size + 1, 0, none⟩) 2 2] 27)) = X := ⟨_, rfl⟩
  try rw [hX]
  have hbX : Below w5.heap.size w5 X := by rw [← hX]; (repeat (first|exact bR _ _|assumption|apply bN|apply bA|apply bD))
  have x1 : X.heap[w5.heap.size]? = some (.cells #[.int .i64 0, .int .i64 1] 3 (0, 0)) := by rw [← hX]; exact alloc_old (alloc_old (blk_alloc _ _ _ rfl))
  have x2 : X.heap[w5.heap.size + 1]? = some (.cells #[.int .i64 0, .int .i64 1] 3 (0, 0)) := by rw [← hX]; exact alloc_old (blk_alloc _ _ _ (by simp))
  have x3 : X.heap[w5.heap.size + 2]? = some (.cells #[.int .i64 33, .int .i64 0, .bool false, .slice (some ⟨w5.heap.size, 0, none⟩) 2 2, .int .i64 9, .int .i64 0, .bool false, .slice (some ⟨w5.heap.size + 1, 0, none⟩) 2 2] 27 (0, 0)) := by rw [← hX]; exact blk_alloc _ _ _ (by simp)
  clear hX
  obtain ⟨h1, h2, h3, h4, h5, h6, h7⟩ := HQ.out
  have far : ∀ {b : Nat} {o : Obj}, w.heap.size < b → X.heap[b]? = some o → (((X.setCell ⟨w.heap.size, 0, none⟩ (.int .i64 2)).setCell ⟨w.heap.size, 1, none⟩ (.int .i64 0)).setCell ⟨w.heap.size, 2, none⟩ (.slice (some ⟨w4.heap.size, 0, none⟩) 4 4)).heap[b]? = some o := fun {b o} hb h => by
    rw [heap_setCell_other _ _ _ _ (by simp; omega), heap_setCell_other _ _ _ _ (by simp; omega), heap_setCell_other _ _ _ _ (by simp; omega)]
    exact h
  refine bodyPost_ret (results_list (rs := [.cell 0 24, .tmp 1]) rfl (by simp) (.cell w.heap.size 24 _ _ _ rfl (set3 (blk2 hbX h6)) Tryz.underlying24 rfl (by kernel_rfl) (.tmp .nil))) rfl ⟨some ⟨w4.heap.size, 0, none⟩, some ⟨w5.heap.size + 2, 0, none⟩, by simp, ?_, ?_, (((h7.trans (hbX.mono h7.size)).setCell (Nat.le_refl _) _).setCell (Nat.le_refl _) _).setCell (Nat.le_refl _) _⟩
  · refine Rd.blk [[.int .i64 4, .slice (some ⟨W0.heap.size, 0, none⟩) 1 1, .int .i64 0, .int .i64 0], [.int .i64 9, .slice (some ⟨w1.heap.size, 0, none⟩) 2 2, .int .i64 0, .int .i64 0], [.int .i64 4, .slice (some ⟨w2.heap.size, 0, none⟩) 1 1, .int .i64 0, .int .i64 0], [.int .i64 10, .slice (some ⟨w3.heap.size, 0, none⟩) 2 2, .int .i64 0, .int .i64 0]] (far (by omega) (blk2 hbX h5)) rfl (by decide) rfl (by simp) fun k x cs hx hc => ?_
    rcases k with _ | _ | _ | _ | k
    · cases hx; cases hc; exact ⟨_, _, rfl, Nat.le_refl _, RdI.blk [1] (far (by omega) (blk2 hbX h1)) rfl (by decide)⟩
    · cases hx; cases hc; exact ⟨_, _, rfl, Nat.le_refl _, RdI.blk [0, 1] (far (by omega) (blk2 hbX h2)) rfl (by decide)⟩
    · cases hx; cases hc; exact ⟨_, _, rfl, Nat.le_refl _, RdI.blk [1] (far (by omega) (blk2 hbX h3)) rfl (by decide)⟩
    · cases hx; cases hc; exact ⟨_, _, rfl, Nat.le_refl _, RdI.blk [0, 1] (far (by omega) (blk2 hbX h4)) rfl (by decide)⟩
    · simp at hc
  · refine Rd.blk [[.int .i64 33, .int .i64 0, .bool false, .slice (some ⟨w5.heap.size, 0, none⟩) 2 2], [.int .i64 9, .int .i64 0, .bool false, .slice (some ⟨w5.heap.size + 1, 0, none⟩) 2 2]] (far (by omega) x3) rfl (by decide) rfl (by simp) fun k x cs hx hc => ?_
    rcases k with _ | _ | k
    · cases hx; cases hc; exact ⟨_, _, rfl, Nat.le_refl _, RdI.blk [0, 1] (far (by omega) x1) rfl (by decide)⟩
    · cases hx; cases hc; exact ⟨_, _, rfl, Nat.le_refl _, RdI.blk [0, 1] (far (by omega) x2) rfl (by decide)⟩
    · simp at hc
end Go.Proofs.YtfommmijojfdbaaGreatDoor
