/- Part 19 of the proof that 'spoondriftlaw19.RulesApplies' holds for every input; it has no condition beyond the statement's own. -/
import Derived.Test.YtfommmijojfdbaaGreatDoorZ16
import Derived.Test.YtfommmijojfdbaaGreatDoorZ13
set_option linter.all false
namespace Go.Proofs.YtfommmijojfdbaaGreatDoor
open Go.RowKit
def RetRule (n : Int) (l r : List G) (ph : Int) (w : World) (e : Ending) (w' : World) : Prop := ∃ A1 c1 A2 c2, e = .returned (.agg #[.int .i64 n, .slice A1 l.length c1, .slice A2 r.length c2, .int .i64 ph]) ∧
  RdF (w.heap.size + 1) w' A1 l ∧ RdF (w.heap.size + 1) w' A2 r ∧ l.length ≤ c1 ∧ r.length ≤ c2 ∧ Below w.heap.size w w'
theorem nar {p : Prop} (h : p := by
  clear hlit
  rintro e w2 ⟨A1, c1, A2, c2, rfl, r1, r2, h1, h2, hb⟩
  have hbx := blk2 hb hbx0
  clear hbx0
  obtain ⟨s0, s1, s2, s3, sf⟩ := cells4 hbx
  have HF := Lib.hid (And.intro hbx (And.intro r1 (And.intro r2 (And.intro h1 (And.intro h2 (hb0.trans (hb.mono hb0.size)))))))
  have hbl := blk_lt hbx
  clear hbx r1 r2 hb hb0
  go_wp2
  refine bodyPost_ret (results_cell_row rfl _ _ w.heap.size 107 _ _ _ rfl (set4 HF.out.1) Tryz.underlying107 rfl (by kernel_rfl)) rfl ?_
  refine ⟨A1, c1, A2, c2, by rw [hl, hr]; rfl, ?_, ?_, ?_, ?_, (((HF.out.2.2.2.2.2.setCell (Nat.le_refl _) _).setCell (Nat.le_refl _) _).setCell (Nat.le_refl _) _).setCell (Nat.le_refl _) _⟩
  · rw [hl]; exact HF.out.2.1.set4 (by simp) (by simp; omega) _ _ _ _
  · rw [hr]; exact HF.out.2.2.1.set4 (by simp) (by simp; omega) _ _ _ _
  · rw [hl]; simpa using HF.out.2.2.2.1
  · rw [hr]; simpa using HF.out.2.2.2.2.1) : p := h
set_option maxRecDepth 100000 in
set_option maxHeartbeats 8000000 in
theorem rNarrow0_any (i : Nat) (hi : i = 0 ∨ i = 1 ∨ i = 2 ∨ i = 3 ∨ i = 4 ∨ i = 5 ∨ i = 6 ∨ i = 7 ∨ i = 12 ∨ i = 13) (w : World) : Calls Tryz.prog 126 #[.int .i64 i] w (RetRule 1 (ruleL i) (ruleR i) (ruleP i) w) := by
  have hlit := @RdI.lit
  rcases hi with rfl | rfl | rfl | rfl | rfl | rfl | rfl | rfl | rfl | rfl
  all_goals go_enter Tryz.func126, Tryz.ntmps126
  · go_wp2_with fail
    have hl : ruleL 0 = [1, 1].map kG := by decide
    have hr : ruleR 0 = ([] : List Int).map kG := by decide
    have hb0 : Below w.heap.size w ((w.alloc (.cells #[.int .i64 0, .slice none 0 0, .slice none 0 0, .int .i64 0] 107)).alloc (.cells #[.int .i64 1, .int .i64 1] 3)) := by (repeat (first|exact bR _ _|assumption|apply bN|apply bA|apply bD))
    have hbx0 : ((w.alloc (.cells #[.int .i64 0, .slice none 0 0, .slice none 0 0, .int .i64 0] 107)).alloc (.cells #[.int .i64 1, .int .i64 1] 3)).heap[w.heap.size]? = some (.cells #[.int .i64 0, .slice none 0 0, .slice none 0 0, .int .i64 0] 107) := alloc_old (blk_alloc _ _ _ rfl)
    refine (rOne_any (some ⟨w.heap.size + 1, 0, none⟩) none 2 0 [1, 1] [] 0 _ (hlit (w.alloc (.cells #[.int .i64 0, .slice none 0 0, .slice none 0 0, .int .i64 0] 107)) 3 [1, 1] (by decide) _ (by simp)) (Rd.nil _ _ _ _) (by decide) (by decide)).mono ?_
    exact nar
  · go_wp2_with fail
    have hl : ruleL 1 = [2, 2].map kG := by decide
    have hr : ruleR 1 = ([] : List Int).map kG := by decide
    have hb0 : Below w.heap.size w ((w.alloc (.cells #[.int .i64 0, .slice none 0 0, .slice none 0 0, .int .i64 0] 107)).alloc (.cells #[.int .i64 2, .int .i64 2] 3)) := by (repeat (first|exact bR _ _|assumption|apply bN|apply bA|apply bD))
    have hbx0 : ((w.alloc (.cells #[.int .i64 0, .slice none 0 0, .slice none 0 0, .int .i64 0] 107)).alloc (.cells #[.int .i64 2, .int .i64 2] 3)).heap[w.heap.size]? = some (.cells #[.int .i64 0, .slice none 0 0, .slice none 0 0, .int .i64 0] 107) := alloc_old (blk_alloc _ _ _ rfl)
    refine (rOne_any (some ⟨w.heap.size + 1, 0, none⟩) none 2 0 [2, 2] [] 0 _ (hlit (w.alloc (.cells #[.int .i64 0, .slice none 0 0, .slice none 0 0, .int .i64 0] 107)) 3 [2, 2] (by decide) _ (by simp)) (Rd.nil _ _ _ _) (by decide) (by decide)).mono ?_
    exact nar
  · go_wp2_with fail
    have hl : ruleL 2 = [3, 3].map kG := by decide
    have hr : ruleR 2 = ([] : List Int).map kG := by decide
    have hb0 : Below w.heap.size w ((w.alloc (.cells #[.int .i64 0, .slice none 0 0, .slice none 0 0, .int .i64 0] 107)).alloc (.cells #[.int .i64 3, .int .i64 3] 3)) := by (repeat (first|exact bR _ _|assumption|apply bN|apply bA|apply bD))
    have hbx0 : ((w.alloc (.cells #[.int .i64 0, .slice none 0 0, .slice none 0 0, .int .i64 0] 107)).alloc (.cells #[.int .i64 3, .int .i64 3] 3)).heap[w.heap.size]? = some (.cells #[.int .i64 0, .slice none 0 0, .slice none 0 0, .int .i64 0] 107) := alloc_old (blk_alloc _ _ _ rfl)
    refine (rOne_any (some ⟨w.heap.size + 1, 0, none⟩) none 2 0 [3, 3] [] 0 _ (hlit (w.alloc (.cells #[.int .i64 0, .slice none 0 0, .slice none 0 0, .int .i64 0] 107)) 3 [3, 3] (by decide) _ (by simp)) (Rd.nil _ _ _ _) (by decide) (by decide)).mono ?_
    exact nar
  · go_wp2_with fail
    have hl : ruleL 3 = [4, 4].map kG := by decide
    have hr : ruleR 3 = ([] : List Int).map kG := by decide
    have hb0 : Below w.heap.size w ((w.alloc (.cells #[.int .i64 0, .slice none 0 0, .slice none 0 0, .int .i64 0] 107)).alloc (.cells #[.int .i64 4, .int .i64 4] 3)) := by (repeat (first|exact bR _ _|assumption|apply bN|apply bA|apply bD))
    have hbx0 : ((w.alloc (.cells #[.int .i64 0, .slice none 0 0, .slice none 0 0, .int .i64 0] 107)).alloc (.cells #[.int .i64 4, .int .i64 4] 3)).heap[w.heap.size]? = some (.cells #[.int .i64 0, .slice none 0 0, .slice none 0 0, .int .i64 0] 107) := alloc_old (blk_alloc _ _ _ rfl)
    refine (rOne_any (some ⟨w.heap.size + 1, 0, none⟩) none 2 0 [4, 4] [] 0 _ (hlit (w.alloc (.cells #[.int .i64 0, .slice none 0 0, .slice none 0 0, .int .i64 0] 107)) 3 [4, 4] (by decide) _ (by simp)) (Rd.nil _ _ _ _) (by decide) (by decide)).mono ?_
    exact nar
  · go_wp2_with fail
    have hl : ruleL 4 = [5, 6].map kG := by decide
    have hr : ruleR 4 = ([] : List Int).map kG := by decide
    have hb0 : Below w.heap.size w ((w.alloc (.cells #[.int .i64 0, .slice none 0 0, .slice none 0 0, .int .i64 0] 107)).alloc (.cells #[.int .i64 5, .int .i64 6] 3)) := by (repeat (first|exact bR _ _|assumption|apply bN|apply bA|apply bD))
    have hbx0 : ((w.alloc (.cells #[.int .i64 0, .slice none 0 0, .slice none 0 0, .int .i64 0] 107)).alloc (.cells #[.int .i64 5, .int .i64 6] 3)).heap[w.heap.size]? = some (.cells #[.int .i64 0, .slice none 0 0, .slice none 0 0, .int .i64 0] 107) := alloc_old (blk_alloc _ _ _ rfl)
    refine (rOne_any (some ⟨w.heap.size + 1, 0, none⟩) none 2 0 [5, 6] [] 0 _ (hlit (w.alloc (.cells #[.int .i64 0, .slice none 0 0, .slice none 0 0, .int .i64 0] 107)) 3 [5, 6] (by decide) _ (by simp)) (Rd.nil _ _ _ _) (by decide) (by decide)).mono ?_
    exact nar
  · go_wp2_with fail
    have hl : ruleL 5 = [6, 5].map kG := by decide
    have hr : ruleR 5 = ([] : List Int).map kG := by decide
    have hb0 : Below w.heap.size w ((w.alloc (.cells #[.int .i64 0, .slice none 0 0, .slice none 0 0, .int .i64 0] 107)).alloc (.cells #[.int .i64 6, .int .i64 5] 3)) := by (repeat (first|exact bR _ _|assumption|apply bN|apply bA|apply bD))
    have hbx0 : ((w.alloc (.cells #[.int .i64 0, .slice none 0 0, .slice none 0 0, .int .i64 0] 107)).alloc (.cells #[.int .i64 6, .int .i64 5] 3)).heap[w.heap.size]? = some (.cells #[.int .i64 0, .slice none 0 0, .slice none 0 0, .int .i64 0] 107) := alloc_old (blk_alloc _ _ _ rfl)
    refine (rOne_any (some ⟨w.heap.size + 1, 0, none⟩) none 2 0 [6, 5] [] 0 _ (hlit (w.alloc (.cells #[.int .i64 0, .slice none 0 0, .slice none 0 0, .int .i64 0] 107)) 3 [6, 5] (by decide) _ (by simp)) (Rd.nil _ _ _ _) (by decide) (by decide)).mono ?_
    exact nar
  · go_wp2_with fail
    have hl : ruleL 6 = [7, 8].map kG := by decide
    have hr : ruleR 6 = ([] : List Int).map kG := by decide
    have hb0 : Below w.heap.size w ((w.alloc (.cells #[.int .i64 0, .slice none 0 0, .slice none 0 0, .int .i64 0] 107)).alloc (.cells #[.int .i64 7, .int .i64 8] 3)) := by (repeat (first|exact bR _ _|assumption|apply bN|apply bA|apply bD))
    have hbx0 : ((w.alloc (.cells #[.int .i64 0, .slice none 0 0, .slice none 0 0, .int .i64 0] 107)).alloc (.cells #[.int .i64 7, .int .i64 8] 3)).heap[w.heap.size]? = some (.cells #[.int .i64 0, .slice none 0 0, .slice none 0 0, .int .i64 0] 107) := alloc_old (blk_alloc _ _ _ rfl)
    refine (rOne_any (some ⟨w.heap.size + 1, 0, none⟩) none 2 0 [7, 8] [] 0 _ (hlit (w.alloc (.cells #[.int .i64 0, .slice none 0 0, .slice none 0 0, .int .i64 0] 107)) 3 [7, 8] (by decide) _ (by simp)) (Rd.nil _ _ _ _) (by decide) (by decide)).mono ?_
    exact nar
  · go_wp2_with fail
    have hl : ruleL 7 = [8, 7].map kG := by decide
    have hr : ruleR 7 = ([] : List Int).map kG := by decide
    have hb0 : Below w.heap.size w ((w.alloc (.cells #[.int .i64 0, .slice none 0 0, .slice none 0 0, .int .i64 0] 107)).alloc (.cells #[.int .i64 8, .int .i64 7] 3)) := by (repeat (first|exact bR _ _|assumption|apply bN|apply bA|apply bD))
    have hbx0 : ((w.alloc (.cells #[.int .i64 0, .slice none 0 0, .slice none 0 0, .int .i64 0] 107)).alloc (.cells #[.int .i64 8, .int .i64 7] 3)).heap[w.heap.size]? = some (.cells #[.int .i64 0, .slice none 0 0, .slice none 0 0, .int .i64 0] 107) := alloc_old (blk_alloc _ _ _ rfl)
    refine (rOne_any (some ⟨w.heap.size + 1, 0, none⟩) none 2 0 [8, 7] [] 0 _ (hlit (w.alloc (.cells #[.int .i64 0, .slice none 0 0, .slice none 0 0, .int .i64 0] 107)) 3 [8, 7] (by decide) _ (by simp)) (Rd.nil _ _ _ _) (by decide) (by decide)).mono ?_
    exact nar
  · go_wp2_with fail
    have hl : ruleL 12 = [5, 5].map kG := by decide
    have hr : ruleR 12 = ([3] : List Int).map kG := by decide
    have hb0 : Below w.heap.size w (((w.alloc (.cells #[.int .i64 0, .slice none 0 0, .slice none 0 0, .int .i64 0] 107)).alloc (.cells #[.int .i64 5, .int .i64 5] 3)).alloc (.cells #[.int .i64 3] 3)) := by (repeat (first|exact bR _ _|assumption|apply bN|apply bA|apply bD))
    have hbx0 : (((w.alloc (.cells #[.int .i64 0, .slice none 0 0, .slice none 0 0, .int .i64 0] 107)).alloc (.cells #[.int .i64 5, .int .i64 5] 3)).alloc (.cells #[.int .i64 3] 3)).heap[w.heap.size]? = some (.cells #[.int .i64 0, .slice none 0 0, .slice none 0 0, .int .i64 0] 107) := alloc_old (alloc_old (blk_alloc _ _ _ rfl))
    refine (rOne_any (some ⟨w.heap.size + 1, 0, none⟩) (some ⟨w.heap.size + 1 + 1, 0, none⟩) 2 1 [5, 5] [3] 0 _ ((hlit (w.alloc (.cells #[.int .i64 0, .slice none 0 0, .slice none 0 0, .int .i64 0] 107)) 3 [5, 5] (by decide) _ (by simp)).bI (by (repeat (first|exact bR _ _|assumption|apply bN|apply bA|apply bD)))) (hlit ((w.alloc (.cells #[.int .i64 0, .slice none 0 0, .slice none 0 0, .int .i64 0] 107)).alloc (.cells #[.int .i64 5, .int .i64 5] 3)) 3 [3] (by decide) _ (by simp)) (by decide) (by decide)).mono ?_
    exact nar
  · go_wp2_with fail
    have hl : ruleL 13 = [6, 6].map kG := by decide
    have hr : ruleR 13 = ([3] : List Int).map kG := by decide
    have hb0 : Below w.heap.size w (((w.alloc (.cells #[.int .i64 0, .slice none 0 0, .slice none 0 0, .int .i64 0] 107)).alloc (.cells #[.int .i64 6, .int .i64 6] 3)).alloc (.cells #[.int .i64 3] 3)) := by (repeat (first|exact bR _ _|assumption|apply bN|apply bA|apply bD))
    have hbx0 : (((w.alloc (.cells #[.int .i64 0, .slice none 0 0, .slice none 0 0, .int .i64 0] 107)).alloc (.cells #[.int .i64 6, .int .i64 6] 3)).alloc (.cells #[.int .i64 3] 3)).heap[w.heap.size]? = some (.cells #[.int .i64 0, .slice none 0 0, .slice none 0 0, .int .i64 0] 107) := alloc_old (alloc_old (blk_alloc _ _ _ rfl))
    refine (rOne_any (some ⟨w.heap.size + 1, 0, none⟩) (some ⟨w.heap.size + 1 + 1, 0, none⟩) 2 1 [6, 6] [3] 0 _ ((hlit (w.alloc (.cells #[.int .i64 0, .slice none 0 0, .slice none 0 0, .int .i64 0] 107)) 3 [6, 6] (by decide) _ (by simp)).bI (by (repeat (first|exact bR _ _|assumption|apply bN|apply bA|apply bD)))) (hlit ((w.alloc (.cells #[.int .i64 0, .slice none 0 0, .slice none 0 0, .int .i64 0] 107)).alloc (.cells #[.int .i64 6, .int .i64 6] 3)) 3 [3] (by decide) _ (by simp)) (by decide) (by decide)).mono ?_
    exact nar
set_option maxRecDepth 100000 in
set_option maxHeartbeats 8000000 in
theorem rNarrow1_any (i : Nat) (hi : i = 14 ∨ i = 15 ∨ i = 16 ∨ i = 17 ∨ i = 18 ∨ i = 19 ∨ i = 20 ∨ i = 21 ∨ i = 22 ∨ i = 23) (w : World) : Calls Tryz.prog 126 #[.int .i64 i] w (RetRule 1 (ruleL i) (ruleR i) (ruleP i) w) := by
  have hlit := @RdI.lit
  rcases hi with rfl | rfl | rfl | rfl | rfl | rfl | rfl | rfl | rfl | rfl
  all_goals go_enter Tryz.func126, Tryz.ntmps126
  · go_wp2_with fail
    have hl : ruleL 14 = [7, 7].map kG := by decide
    have hr : ruleR 14 = ([5] : List Int).map kG := by decide
    have hb0 : Below w.heap.size w (((w.alloc (.cells #[.int .i64 0, .slice none 0 0, .slice none 0 0, .int .i64 0] 107)).alloc (.cells #[.int .i64 7, .int .i64 7] 3)).alloc (.cells #[.int .i64 5] 3)) := by (repeat (first|exact bR _ _|assumption|apply bN|apply bA|apply bD))
    have hbx0 : (((w.alloc (.cells #[.int .i64 0, .slice none 0 0, .slice none 0 0, .int .i64 0] 107)).alloc (.cells #[.int .i64 7, .int .i64 7] 3)).alloc (.cells #[.int .i64 5] 3)).heap[w.heap.size]? = some (.cells #[.int .i64 0, .slice none 0 0, .slice none 0 0, .int .i64 0] 107) := alloc_old (alloc_old (blk_alloc _ _ _ rfl))
    refine (rOne_any (some ⟨w.heap.size + 1, 0, none⟩) (some ⟨w.heap.size + 1 + 1, 0, none⟩) 2 1 [7, 7] [5] 0 _ ((hlit (w.alloc (.cells #[.int .i64 0, .slice none 0 0, .slice none 0 0, .int .i64 0] 107)) 3 [7, 7] (by decide) _ (by simp)).bI (by (repeat (first|exact bR _ _|assumption|apply bN|apply bA|apply bD)))) (hlit ((w.alloc (.cells #[.int .i64 0, .slice none 0 0, .slice none 0 0, .int .i64 0] 107)).alloc (.cells #[.int .i64 7, .int .i64 7] 3)) 3 [5] (by decide) _ (by simp)) (by decide) (by decide)).mono ?_
    exact nar
  · go_wp2_with fail
    have hl : ruleL 15 = [8, 8].map kG := by decide
    have hr : ruleR 15 = ([6] : List Int).map kG := by decide
    have hb0 : Below w.heap.size w (((w.alloc (.cells #[.int .i64 0, .slice none 0 0, .slice none 0 0, .int .i64 0] 107)).alloc (.cells #[.int .i64 8, .int .i64 8] 3)).alloc (.cells #[.int .i64 6] 3)) := by (repeat (first|exact bR _ _|assumption|apply bN|apply bA|apply bD))
    have hbx0 : (((w.alloc (.cells #[.int .i64 0, .slice none 0 0, .slice none 0 0, .int .i64 0] 107)).alloc (.cells #[.int .i64 8, .int .i64 8] 3)).alloc (.cells #[.int .i64 6] 3)).heap[w.heap.size]? = some (.cells #[.int .i64 0, .slice none 0 0, .slice none 0 0, .int .i64 0] 107) := alloc_old (alloc_old (blk_alloc _ _ _ rfl))
    refine (rOne_any (some ⟨w.heap.size + 1, 0, none⟩) (some ⟨w.heap.size + 1 + 1, 0, none⟩) 2 1 [8, 8] [6] 0 _ ((hlit (w.alloc (.cells #[.int .i64 0, .slice none 0 0, .slice none 0 0, .int .i64 0] 107)) 3 [8, 8] (by decide) _ (by simp)).bI (by (repeat (first|exact bR _ _|assumption|apply bN|apply bA|apply bD)))) (hlit ((w.alloc (.cells #[.int .i64 0, .slice none 0 0, .slice none 0 0, .int .i64 0] 107)).alloc (.cells #[.int .i64 8, .int .i64 8] 3)) 3 [6] (by decide) _ (by simp)) (by decide) (by decide)).mono ?_
    exact nar
  · go_wp2_with fail
    have hl : ruleL 16 = [3, 5].map kG := by decide
    have hr : ruleR 16 = ([6] : List Int).map kG := by decide
    have hb0 : Below w.heap.size w (((w.alloc (.cells #[.int .i64 0, .slice none 0 0, .slice none 0 0, .int .i64 0] 107)).alloc (.cells #[.int .i64 3, .int .i64 5] 3)).alloc (.cells #[.int .i64 6] 3)) := by (repeat (first|exact bR _ _|assumption|apply bN|apply bA|apply bD))
    have hbx0 : (((w.alloc (.cells #[.int .i64 0, .slice none 0 0, .slice none 0 0, .int .i64 0] 107)).alloc (.cells #[.int .i64 3, .int .i64 5] 3)).alloc (.cells #[.int .i64 6] 3)).heap[w.heap.size]? = some (.cells #[.int .i64 0, .slice none 0 0, .slice none 0 0, .int .i64 0] 107) := alloc_old (alloc_old (blk_alloc _ _ _ rfl))
    refine (rOne_any (some ⟨w.heap.size + 1, 0, none⟩) (some ⟨w.heap.size + 1 + 1, 0, none⟩) 2 1 [3, 5] [6] 0 _ ((hlit (w.alloc (.cells #[.int .i64 0, .slice none 0 0, .slice none 0 0, .int .i64 0] 107)) 3 [3, 5] (by decide) _ (by simp)).bI (by (repeat (first|exact bR _ _|assumption|apply bN|apply bA|apply bD)))) (hlit ((w.alloc (.cells #[.int .i64 0, .slice none 0 0, .slice none 0 0, .int .i64 0] 107)).alloc (.cells #[.int .i64 3, .int .i64 5] 3)) 3 [6] (by decide) _ (by simp)) (by decide) (by decide)).mono ?_
    exact nar
  · go_wp2_with fail
    have hl : ruleL 17 = [5, 3].map kG := by decide
    have hr : ruleR 17 = ([6] : List Int).map kG := by decide
    have hb0 : Below w.heap.size w (((w.alloc (.cells #[.int .i64 0, .slice none 0 0, .slice none 0 0, .int .i64 0] 107)).alloc (.cells #[.int .i64 5, .int .i64 3] 3)).alloc (.cells #[.int .i64 6] 3)) := by (repeat (first|exact bR _ _|assumption|apply bN|apply bA|apply bD))
    have hbx0 : (((w.alloc (.cells #[.int .i64 0, .slice none 0 0, .slice none 0 0, .int .i64 0] 107)).alloc (.cells #[.int .i64 5, .int .i64 3] 3)).alloc (.cells #[.int .i64 6] 3)).heap[w.heap.size]? = some (.cells #[.int .i64 0, .slice none 0 0, .slice none 0 0, .int .i64 0] 107) := alloc_old (alloc_old (blk_alloc _ _ _ rfl))
    refine (rOne_any (some ⟨w.heap.size + 1, 0, none⟩) (some ⟨w.heap.size + 1 + 1, 0, none⟩) 2 1 [5, 3] [6] 0 _ ((hlit (w.alloc (.cells #[.int .i64 0, .slice none 0 0, .slice none 0 0, .int .i64 0] 107)) 3 [5, 3] (by decide) _ (by simp)).bI (by (repeat (first|exact bR _ _|assumption|apply bN|apply bA|apply bD)))) (hlit ((w.alloc (.cells #[.int .i64 0, .slice none 0 0, .slice none 0 0, .int .i64 0] 107)).alloc (.cells #[.int .i64 5, .int .i64 3] 3)) 3 [6] (by decide) _ (by simp)) (by decide) (by decide)).mono ?_
    exact nar
  · go_wp2_with fail
    have hl : ruleL 18 = [3, 6].map kG := by decide
    have hr : ruleR 18 = ([5] : List Int).map kG := by decide
    have hb0 : Below w.heap.size w (((w.alloc (.cells #[.int .i64 0, .slice none 0 0, .slice none 0 0, .int .i64 0] 107)).alloc (.cells #[.int .i64 3, .int .i64 6] 3)).alloc (.cells #[.int .i64 5] 3)) := by (repeat (first|exact bR _ _|assumption|apply bN|apply bA|apply bD))
    have hbx0 : (((w.alloc (.cells #[.int .i64 0, .slice none 0 0, .slice none 0 0, .int .i64 0] 107)).alloc (.cells #[.int .i64 3, .int .i64 6] 3)).alloc (.cells #[.int .i64 5] 3)).heap[w.heap.size]? = some (.cells #[.int .i64 0, .slice none 0 0, .slice none 0 0, .int .i64 0] 107) := alloc_old (alloc_old (blk_alloc _ _ _ rfl))
    refine (rOne_any (some ⟨w.heap.size + 1, 0, none⟩) (some ⟨w.heap.size + 1 + 1, 0, none⟩) 2 1 [3, 6] [5] 0 _ ((hlit (w.alloc (.cells #[.int .i64 0, .slice none 0 0, .slice none 0 0, .int .i64 0] 107)) 3 [3, 6] (by decide) _ (by simp)).bI (by (repeat (first|exact bR _ _|assumption|apply bN|apply bA|apply bD)))) (hlit ((w.alloc (.cells #[.int .i64 0, .slice none 0 0, .slice none 0 0, .int .i64 0] 107)).alloc (.cells #[.int .i64 3, .int .i64 6] 3)) 3 [5] (by decide) _ (by simp)) (by decide) (by decide)).mono ?_
    exact nar
  · go_wp2_with fail
    have hl : ruleL 19 = [6, 3].map kG := by decide
    have hr : ruleR 19 = ([5] : List Int).map kG := by decide
    have hb0 : Below w.heap.size w (((w.alloc (.cells #[.int .i64 0, .slice none 0 0, .slice none 0 0, .int .i64 0] 107)).alloc (.cells #[.int .i64 6, .int .i64 3] 3)).alloc (.cells #[.int .i64 5] 3)) := by (repeat (first|exact bR _ _|assumption|apply bN|apply bA|apply bD))
    have hbx0 : (((w.alloc (.cells #[.int .i64 0, .slice none 0 0, .slice none 0 0, .int .i64 0] 107)).alloc (.cells #[.int .i64 6, .int .i64 3] 3)).alloc (.cells #[.int .i64 5] 3)).heap[w.heap.size]? = some (.cells #[.int .i64 0, .slice none 0 0, .slice none 0 0, .int .i64 0] 107) := alloc_old (alloc_old (blk_alloc _ _ _ rfl))
    refine (rOne_any (some ⟨w.heap.size + 1, 0, none⟩) (some ⟨w.heap.size + 1 + 1, 0, none⟩) 2 1 [6, 3] [5] 0 _ ((hlit (w.alloc (.cells #[.int .i64 0, .slice none 0 0, .slice none 0 0, .int .i64 0] 107)) 3 [6, 3] (by decide) _ (by simp)).bI (by (repeat (first|exact bR _ _|assumption|apply bN|apply bA|apply bD)))) (hlit ((w.alloc (.cells #[.int .i64 0, .slice none 0 0, .slice none 0 0, .int .i64 0] 107)).alloc (.cells #[.int .i64 6, .int .i64 3] 3)) 3 [5] (by decide) _ (by simp)) (by decide) (by decide)).mono ?_
    exact nar
  · go_wp2_with fail
    have hl : ruleL 20 = [4, 1, 4].map kG := by decide
    have hr : ruleR 20 = ([3] : List Int).map kG := by decide
    have hb0 : Below w.heap.size w (((w.alloc (.cells #[.int .i64 0, .slice none 0 0, .slice none 0 0, .int .i64 0] 107)).alloc (.cells #[.int .i64 4, .int .i64 1, .int .i64 4] 3)).alloc (.cells #[.int .i64 3] 3)) := by (repeat (first|exact bR _ _|assumption|apply bN|apply bA|apply bD))
    have hbx0 : (((w.alloc (.cells #[.int .i64 0, .slice none 0 0, .slice none 0 0, .int .i64 0] 107)).alloc (.cells #[.int .i64 4, .int .i64 1, .int .i64 4] 3)).alloc (.cells #[.int .i64 3] 3)).heap[w.heap.size]? = some (.cells #[.int .i64 0, .slice none 0 0, .slice none 0 0, .int .i64 0] 107) := alloc_old (alloc_old (blk_alloc _ _ _ rfl))
    refine (rOne_any (some ⟨w.heap.size + 1, 0, none⟩) (some ⟨w.heap.size + 1 + 1, 0, none⟩) 3 1 [4, 1, 4] [3] 0 _ ((hlit (w.alloc (.cells #[.int .i64 0, .slice none 0 0, .slice none 0 0, .int .i64 0] 107)) 3 [4, 1, 4] (by decide) _ (by simp)).bI (by (repeat (first|exact bR _ _|assumption|apply bN|apply bA|apply bD)))) (hlit ((w.alloc (.cells #[.int .i64 0, .slice none 0 0, .slice none 0 0, .int .i64 0] 107)).alloc (.cells #[.int .i64 4, .int .i64 1, .int .i64 4] 3)) 3 [3] (by decide) _ (by simp)) (by decide) (by decide)).mono ?_
    exact nar
  · go_wp2_with fail
    have hl : ruleL 21 = [4, 3, 4].map kG := by decide
    have hr : ruleR 21 = ([1] : List Int).map kG := by decide
    have hb0 : Below w.heap.size w (((w.alloc (.cells #[.int .i64 0, .slice none 0 0, .slice none 0 0, .int .i64 0] 107)).alloc (.cells #[.int .i64 4, .int .i64 3, .int .i64 4] 3)).alloc (.cells #[.int .i64 1] 3)) := by (repeat (first|exact bR _ _|assumption|apply bN|apply bA|apply bD))
    have hbx0 : (((w.alloc (.cells #[.int .i64 0, .slice none 0 0, .slice none 0 0, .int .i64 0] 107)).alloc (.cells #[.int .i64 4, .int .i64 3, .int .i64 4] 3)).alloc (.cells #[.int .i64 1] 3)).heap[w.heap.size]? = some (.cells #[.int .i64 0, .slice none 0 0, .slice none 0 0, .int .i64 0] 107) := alloc_old (alloc_old (blk_alloc _ _ _ rfl))
    refine (rOne_any (some ⟨w.heap.size + 1, 0, none⟩) (some ⟨w.heap.size + 1 + 1, 0, none⟩) 3 1 [4, 3, 4] [1] 0 _ ((hlit (w.alloc (.cells #[.int .i64 0, .slice none 0 0, .slice none 0 0, .int .i64 0] 107)) 3 [4, 3, 4] (by decide) _ (by simp)).bI (by (repeat (first|exact bR _ _|assumption|apply bN|apply bA|apply bD)))) (hlit ((w.alloc (.cells #[.int .i64 0, .slice none 0 0, .slice none 0 0, .int .i64 0] 107)).alloc (.cells #[.int .i64 4, .int .i64 3, .int .i64 4] 3)) 3 [1] (by decide) _ (by simp)) (by decide) (by decide)).mono ?_
    exact nar
  · go_wp2_with fail
    have hl : ruleL 22 = [4, 2, 4].map kG := by decide
    have hr : ruleR 22 = ([2] : List Int).map kG := by decide
    have hb0 : Below w.heap.size w (((w.alloc (.cells #[.int .i64 0, .slice none 0 0, .slice none 0 0, .int .i64 0] 107)).alloc (.cells #[.int .i64 4, .int .i64 2, .int .i64 4] 3)).alloc (.cells #[.int .i64 2] 3)) := by (repeat (first|exact bR _ _|assumption|apply bN|apply bA|apply bD))
    have hbx0 : (((w.alloc (.cells #[.int .i64 0, .slice none 0 0, .slice none 0 0, .int .i64 0] 107)).alloc (.cells #[.int .i64 4, .int .i64 2, .int .i64 4] 3)).alloc (.cells #[.int .i64 2] 3)).heap[w.heap.size]? = some (.cells #[.int .i64 0, .slice none 0 0, .slice none 0 0, .int .i64 0] 107) := alloc_old (alloc_old (blk_alloc _ _ _ rfl))
    refine (rOne_any (some ⟨w.heap.size + 1, 0, none⟩) (some ⟨w.heap.size + 1 + 1, 0, none⟩) 3 1 [4, 2, 4] [2] 4 _ ((hlit (w.alloc (.cells #[.int .i64 0, .slice none 0 0, .slice none 0 0, .int .i64 0] 107)) 3 [4, 2, 4] (by decide) _ (by simp)).bI (by (repeat (first|exact bR _ _|assumption|apply bN|apply bA|apply bD)))) (hlit ((w.alloc (.cells #[.int .i64 0, .slice none 0 0, .slice none 0 0, .int .i64 0] 107)).alloc (.cells #[.int .i64 4, .int .i64 2, .int .i64 4] 3)) 3 [2] (by decide) _ (by simp)) (by decide) (by decide)).mono ?_
    exact nar
  · go_wp2_with fail
    have hl : ruleL 23 = [1, 3, 1].map kG := by decide
    have hr : ruleR 23 = ([3] : List Int).map kG := by decide
    have hb0 : Below w.heap.size w (((w.alloc (.cells #[.int .i64 0, .slice none 0 0, .slice none 0 0, .int .i64 0] 107)).alloc (.cells #[.int .i64 1, .int .i64 3, .int .i64 1] 3)).alloc (.cells #[.int .i64 3] 3)) := by (repeat (first|exact bR _ _|assumption|apply bN|apply bA|apply bD))
    have hbx0 : (((w.alloc (.cells #[.int .i64 0, .slice none 0 0, .slice none 0 0, .int .i64 0] 107)).alloc (.cells #[.int .i64 1, .int .i64 3, .int .i64 1] 3)).alloc (.cells #[.int .i64 3] 3)).heap[w.heap.size]? = some (.cells #[.int .i64 0, .slice none 0 0, .slice none 0 0, .int .i64 0] 107) := alloc_old (alloc_old (blk_alloc _ _ _ rfl))
    refine (rOne_any (some ⟨w.heap.size + 1, 0, none⟩) (some ⟨w.heap.size + 1 + 1, 0, none⟩) 3 1 [1, 3, 1] [3] 4 _ ((hlit (w.alloc (.cells #[.int .i64 0, .slice none 0 0, .slice none 0 0, .int .i64 0] 107)) 3 [1, 3, 1] (by decide) _ (by simp)).bI (by (repeat (first|exact bR _ _|assumption|apply bN|apply bA|apply bD)))) (hlit ((w.alloc (.cells #[.int .i64 0, .slice none 0 0, .slice none 0 0, .int .i64 0] 107)).alloc (.cells #[.int .i64 1, .int .i64 3, .int .i64 1] 3)) 3 [3] (by decide) _ (by simp)) (by decide) (by decide)).mono ?_
    exact nar
set_option maxRecDepth 100000 in
set_option maxHeartbeats 8000000 in
theorem rNarrow2_any (i : Nat) (hi : i = 24 ∨ i = 25 ∨ i = 26 ∨ i = 27 ∨ i = 28 ∨ i = 29 ∨ i = 30 ∨ i = 31 ∨ i = 32) (w : World) : Calls Tryz.prog 126 #[.int .i64 i] w (RetRule 1 (ruleL i) (ruleR i) (ruleP i) w) := by
  have hlit := @RdI.lit
  rcases hi with rfl | rfl | rfl | rfl | rfl | rfl | rfl | rfl | rfl
  all_goals go_enter Tryz.func126, Tryz.ntmps126
  · go_wp2_with fail
    have hl : ruleL 24 = [3, 1, 3].map kG := by decide
    have hr : ruleR 24 = ([1] : List Int).map kG := by decide
    have hb0 : Below w.heap.size w (((w.alloc (.cells #[.int .i64 0, .slice none 0 0, .slice none 0 0, .int .i64 0] 107)).alloc (.cells #[.int .i64 3, .int .i64 1, .int .i64 3] 3)).alloc (.cells #[.int .i64 1] 3)) := by (repeat (first|exact bR _ _|assumption|apply bN|apply bA|apply bD))
    have hbx0 : (((w.alloc (.cells #[.int .i64 0, .slice none 0 0, .slice none 0 0, .int .i64 0] 107)).alloc (.cells #[.int .i64 3, .int .i64 1, .int .i64 3] 3)).alloc (.cells #[.int .i64 1] 3)).heap[w.heap.size]? = some (.cells #[.int .i64 0, .slice none 0 0, .slice none 0 0, .int .i64 0] 107) := alloc_old (alloc_old (blk_alloc _ _ _ rfl))
    refine (rOne_any (some ⟨w.heap.size + 1, 0, none⟩) (some ⟨w.heap.size + 1 + 1, 0, none⟩) 3 1 [3, 1, 3] [1] 4 _ ((hlit (w.alloc (.cells #[.int .i64 0, .slice none 0 0, .slice none 0 0, .int .i64 0] 107)) 3 [3, 1, 3] (by decide) _ (by simp)).bI (by (repeat (first|exact bR _ _|assumption|apply bN|apply bA|apply bD)))) (hlit ((w.alloc (.cells #[.int .i64 0, .slice none 0 0, .slice none 0 0, .int .i64 0] 107)).alloc (.cells #[.int .i64 3, .int .i64 1, .int .i64 3] 3)) 3 [1] (by decide) _ (by simp)) (by decide) (by decide)).mono ?_
    exact nar
  · go_wp2_with fail
    have hl : ruleL 25 = [1, 5, 1].map kG := by decide
    have hr : ruleR 25 = ([6] : List Int).map kG := by decide
    have hb0 : Below w.heap.size w (((w.alloc (.cells #[.int .i64 0, .slice none 0 0, .slice none 0 0, .int .i64 0] 107)).alloc (.cells #[.int .i64 1, .int .i64 5, .int .i64 1] 3)).alloc (.cells #[.int .i64 6] 3)) := by (repeat (first|exact bR _ _|assumption|apply bN|apply bA|apply bD))
    have hbx0 : (((w.alloc (.cells #[.int .i64 0, .slice none 0 0, .slice none 0 0, .int .i64 0] 107)).alloc (.cells #[.int .i64 1, .int .i64 5, .int .i64 1] 3)).alloc (.cells #[.int .i64 6] 3)).heap[w.heap.size]? = some (.cells #[.int .i64 0, .slice none 0 0, .slice none 0 0, .int .i64 0] 107) := alloc_old (alloc_old (blk_alloc _ _ _ rfl))
    refine (rOne_any (some ⟨w.heap.size + 1, 0, none⟩) (some ⟨w.heap.size + 1 + 1, 0, none⟩) 3 1 [1, 5, 1] [6] 2 _ ((hlit (w.alloc (.cells #[.int .i64 0, .slice none 0 0, .slice none 0 0, .int .i64 0] 107)) 3 [1, 5, 1] (by decide) _ (by simp)).bI (by (repeat (first|exact bR _ _|assumption|apply bN|apply bA|apply bD)))) (hlit ((w.alloc (.cells #[.int .i64 0, .slice none 0 0, .slice none 0 0, .int .i64 0] 107)).alloc (.cells #[.int .i64 1, .int .i64 5, .int .i64 1] 3)) 3 [6] (by decide) _ (by simp)) (by decide) (by decide)).mono ?_
    exact nar
  · go_wp2_with fail
    have hl : ruleL 26 = [1, 7, 1].map kG := by decide
    have hr : ruleR 26 = ([8] : List Int).map kG := by decide
    have hb0 : Below w.heap.size w (((w.alloc (.cells #[.int .i64 0, .slice none 0 0, .slice none 0 0, .int .i64 0] 107)).alloc (.cells #[.int .i64 1, .int .i64 7, .int .i64 1] 3)).alloc (.cells #[.int .i64 8] 3)) := by (repeat (first|exact bR _ _|assumption|apply bN|apply bA|apply bD))
    have hbx0 : (((w.alloc (.cells #[.int .i64 0, .slice none 0 0, .slice none 0 0, .int .i64 0] 107)).alloc (.cells #[.int .i64 1, .int .i64 7, .int .i64 1] 3)).alloc (.cells #[.int .i64 8] 3)).heap[w.heap.size]? = some (.cells #[.int .i64 0, .slice none 0 0, .slice none 0 0, .int .i64 0] 107) := alloc_old (alloc_old (blk_alloc _ _ _ rfl))
    refine (rOne_any (some ⟨w.heap.size + 1, 0, none⟩) (some ⟨w.heap.size + 1 + 1, 0, none⟩) 3 1 [1, 7, 1] [8] 1 _ ((hlit (w.alloc (.cells #[.int .i64 0, .slice none 0 0, .slice none 0 0, .int .i64 0] 107)) 3 [1, 7, 1] (by decide) _ (by simp)).bI (by (repeat (first|exact bR _ _|assumption|apply bN|apply bA|apply bD)))) (hlit ((w.alloc (.cells #[.int .i64 0, .slice none 0 0, .slice none 0 0, .int .i64 0] 107)).alloc (.cells #[.int .i64 1, .int .i64 7, .int .i64 1] 3)) 3 [8] (by decide) _ (by simp)) (by decide) (by decide)).mono ?_
    exact nar
  · go_wp2_with fail
    have hl : ruleL 27 = [1, 6, 1].map kG := by decide
    have hr : ruleR 27 = ([5] : List Int).map kG := by decide
    have hb0 : Below w.heap.size w (((w.alloc (.cells #[.int .i64 0, .slice none 0 0, .slice none 0 0, .int .i64 0] 107)).alloc (.cells #[.int .i64 1, .int .i64 6, .int .i64 1] 3)).alloc (.cells #[.int .i64 5] 3)) := by (repeat (first|exact bR _ _|assumption|apply bN|apply bA|apply bD))
    have hbx0 : (((w.alloc (.cells #[.int .i64 0, .slice none 0 0, .slice none 0 0, .int .i64 0] 107)).alloc (.cells #[.int .i64 1, .int .i64 6, .int .i64 1] 3)).alloc (.cells #[.int .i64 5] 3)).heap[w.heap.size]? = some (.cells #[.int .i64 0, .slice none 0 0, .slice none 0 0, .int .i64 0] 107) := alloc_old (alloc_old (blk_alloc _ _ _ rfl))
    refine (rOne_any (some ⟨w.heap.size + 1, 0, none⟩) (some ⟨w.heap.size + 1 + 1, 0, none⟩) 3 1 [1, 6, 1] [5] 6 _ ((hlit (w.alloc (.cells #[.int .i64 0, .slice none 0 0, .slice none 0 0, .int .i64 0] 107)) 3 [1, 6, 1] (by decide) _ (by simp)).bI (by (repeat (first|exact bR _ _|assumption|apply bN|apply bA|apply bD)))) (hlit ((w.alloc (.cells #[.int .i64 0, .slice none 0 0, .slice none 0 0, .int .i64 0] 107)).alloc (.cells #[.int .i64 1, .int .i64 6, .int .i64 1] 3)) 3 [5] (by decide) _ (by simp)) (by decide) (by decide)).mono ?_
    exact nar
  · go_wp2_with fail
    have hl : ruleL 28 = [1, 8, 1].map kG := by decide
    have hr : ruleR 28 = ([7] : List Int).map kG := by decide
    have hb0 : Below w.heap.size w (((w.alloc (.cells #[.int .i64 0, .slice none 0 0, .slice none 0 0, .int .i64 0] 107)).alloc (.cells #[.int .i64 1, .int .i64 8, .int .i64 1] 3)).alloc (.cells #[.int .i64 7] 3)) := by (repeat (first|exact bR _ _|assumption|apply bN|apply bA|apply bD))
    have hbx0 : (((w.alloc (.cells #[.int .i64 0, .slice none 0 0, .slice none 0 0, .int .i64 0] 107)).alloc (.cells #[.int .i64 1, .int .i64 8, .int .i64 1] 3)).alloc (.cells #[.int .i64 7] 3)).heap[w.heap.size]? = some (.cells #[.int .i64 0, .slice none 0 0, .slice none 0 0, .int .i64 0] 107) := alloc_old (alloc_old (blk_alloc _ _ _ rfl))
    refine (rOne_any (some ⟨w.heap.size + 1, 0, none⟩) (some ⟨w.heap.size + 1 + 1, 0, none⟩) 3 1 [1, 8, 1] [7] 7 _ ((hlit (w.alloc (.cells #[.int .i64 0, .slice none 0 0, .slice none 0 0, .int .i64 0] 107)) 3 [1, 8, 1] (by decide) _ (by simp)).bI (by (repeat (first|exact bR _ _|assumption|apply bN|apply bA|apply bD)))) (hlit ((w.alloc (.cells #[.int .i64 0, .slice none 0 0, .slice none 0 0, .int .i64 0] 107)).alloc (.cells #[.int .i64 1, .int .i64 8, .int .i64 1] 3)) 3 [7] (by decide) _ (by simp)) (by decide) (by decide)).mono ?_
    exact nar
  · go_wp2_with fail
    have hl : ruleL 29 = [3, 1].map kG := by decide
    have hr : ruleR 29 = ([2] : List Int).map kG := by decide
    have hb0 : Below w.heap.size w (((w.alloc (.cells #[.int .i64 0, .slice none 0 0, .slice none 0 0, .int .i64 0] 107)).alloc (.cells #[.int .i64 3, .int .i64 1] 3)).alloc (.cells #[.int .i64 2] 3)) := by (repeat (first|exact bR _ _|assumption|apply bN|apply bA|apply bD))
    have hbx0 : (((w.alloc (.cells #[.int .i64 0, .slice none 0 0, .slice none 0 0, .int .i64 0] 107)).alloc (.cells #[.int .i64 3, .int .i64 1] 3)).alloc (.cells #[.int .i64 2] 3)).heap[w.heap.size]? = some (.cells #[.int .i64 0, .slice none 0 0, .slice none 0 0, .int .i64 0] 107) := alloc_old (alloc_old (blk_alloc _ _ _ rfl))
    refine (rOne_any (some ⟨w.heap.size + 1, 0, none⟩) (some ⟨w.heap.size + 1 + 1, 0, none⟩) 2 1 [3, 1] [2] 6 _ ((hlit (w.alloc (.cells #[.int .i64 0, .slice none 0 0, .slice none 0 0, .int .i64 0] 107)) 3 [3, 1] (by decide) _ (by simp)).bI (by (repeat (first|exact bR _ _|assumption|apply bN|apply bA|apply bD)))) (hlit ((w.alloc (.cells #[.int .i64 0, .slice none 0 0, .slice none 0 0, .int .i64 0] 107)).alloc (.cells #[.int .i64 3, .int .i64 1] 3)) 3 [2] (by decide) _ (by simp)) (by decide) (by decide)).mono ?_
    exact nar
  · go_wp2_with fail
    have hl : ruleL 30 = [1, 3].map kG := by decide
    have hr : ruleR 30 = ([2] : List Int).map kG := by decide
    have hb0 : Below w.heap.size w (((w.alloc (.cells #[.int .i64 0, .slice none 0 0, .slice none 0 0, .int .i64 0] 107)).alloc (.cells #[.int .i64 1, .int .i64 3] 3)).alloc (.cells #[.int .i64 2] 3)) := by (repeat (first|exact bR _ _|assumption|apply bN|apply bA|apply bD))
    have hbx0 : (((w.alloc (.cells #[.int .i64 0, .slice none 0 0, .slice none 0 0, .int .i64 0] 107)).alloc (.cells #[.int .i64 1, .int .i64 3] 3)).alloc (.cells #[.int .i64 2] 3)).heap[w.heap.size]? = some (.cells #[.int .i64 0, .slice none 0 0, .slice none 0 0, .int .i64 0] 107) := alloc_old (alloc_old (blk_alloc _ _ _ rfl))
    refine (rOne_any (some ⟨w.heap.size + 1, 0, none⟩) (some ⟨w.heap.size + 1 + 1, 0, none⟩) 2 1 [1, 3] [2] 2 _ ((hlit (w.alloc (.cells #[.int .i64 0, .slice none 0 0, .slice none 0 0, .int .i64 0] 107)) 3 [1, 3] (by decide) _ (by simp)).bI (by (repeat (first|exact bR _ _|assumption|apply bN|apply bA|apply bD)))) (hlit ((w.alloc (.cells #[.int .i64 0, .slice none 0 0, .slice none 0 0, .int .i64 0] 107)).alloc (.cells #[.int .i64 1, .int .i64 3] 3)) 3 [2] (by decide) _ (by simp)) (by decide) (by decide)).mono ?_
    exact nar
  · go_wp2_with fail
    have hl : ruleL 31 = [6, 1, 5].map kG := by decide
    have hr : ruleR 31 = ([2] : List Int).map kG := by decide
    have hb0 : Below w.heap.size w (((w.alloc (.cells #[.int .i64 0, .slice none 0 0, .slice none 0 0, .int .i64 0] 107)).alloc (.cells #[.int .i64 6, .int .i64 1, .int .i64 5] 3)).alloc (.cells #[.int .i64 2] 3)) := by (repeat (first|exact bR _ _|assumption|apply bN|apply bA|apply bD))
    have hbx0 : (((w.alloc (.cells #[.int .i64 0, .slice none 0 0, .slice none 0 0, .int .i64 0] 107)).alloc (.cells #[.int .i64 6, .int .i64 1, .int .i64 5] 3)).alloc (.cells #[.int .i64 2] 3)).heap[w.heap.size]? = some (.cells #[.int .i64 0, .slice none 0 0, .slice none 0 0, .int .i64 0] 107) := alloc_old (alloc_old (blk_alloc _ _ _ rfl))
    refine (rOne_any (some ⟨w.heap.size + 1, 0, none⟩) (some ⟨w.heap.size + 1 + 1, 0, none⟩) 3 1 [6, 1, 5] [2] 0 _ ((hlit (w.alloc (.cells #[.int .i64 0, .slice none 0 0, .slice none 0 0, .int .i64 0] 107)) 3 [6, 1, 5] (by decide) _ (by simp)).bI (by (repeat (first|exact bR _ _|assumption|apply bN|apply bA|apply bD)))) (hlit ((w.alloc (.cells #[.int .i64 0, .slice none 0 0, .slice none 0 0, .int .i64 0] 107)).alloc (.cells #[.int .i64 6, .int .i64 1, .int .i64 5] 3)) 3 [2] (by decide) _ (by simp)) (by decide) (by decide)).mono ?_
    exact nar
  · go_wp2_with fail
    have hl : ruleL 32 = [4, 5, 4, 5, 4, 5].map kG := by decide
    have hr : ruleR 32 = ([] : List Int).map kG := by decide
    have hb0 : Below w.heap.size w ((w.alloc (.cells #[.int .i64 0, .slice none 0 0, .slice none 0 0, .int .i64 0] 107)).alloc (.cells #[.int .i64 4, .int .i64 5, .int .i64 4, .int .i64 5, .int .i64 4, .int .i64 5] 3)) := by (repeat (first|exact bR _ _|assumption|apply bN|apply bA|apply bD))
    have hbx0 : ((w.alloc (.cells #[.int .i64 0, .slice none 0 0, .slice none 0 0, .int .i64 0] 107)).alloc (.cells #[.int .i64 4, .int .i64 5, .int .i64 4, .int .i64 5, .int .i64 4, .int .i64 5] 3)).heap[w.heap.size]? = some (.cells #[.int .i64 0, .slice none 0 0, .slice none 0 0, .int .i64 0] 107) := alloc_old (blk_alloc _ _ _ rfl)
    refine (rOne_any (some ⟨w.heap.size + 1, 0, none⟩) none 6 0 [4, 5, 4, 5, 4, 5] [] 1 _ (hlit (w.alloc (.cells #[.int .i64 0, .slice none 0 0, .slice none 0 0, .int .i64 0] 107)) 3 [4, 5, 4, 5, 4, 5] (by decide) _ (by simp)) (Rd.nil _ _ _ _) (by decide) (by decide)).mono ?_
    exact nar
end Go.Proofs.YtfommmijojfdbaaGreatDoor
