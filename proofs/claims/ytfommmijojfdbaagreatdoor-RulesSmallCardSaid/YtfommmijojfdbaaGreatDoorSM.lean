/- The law RulesSmall: a row of 401 moves. -/
import Derived.Test.YtfommmijojfdbaaGreatDoorSS
import Derived.Laws.MakeOwn
set_option linter.all false
namespace Go.Proofs.YtfommmijojfdbaaGreatDoor
open Go.RowKit

def made401 : Array Value := madeCells #[.int .i64 0, .int .i64 0, .bool false, .slice none 0 0] (401 * 4)
theorem make401 (w : World) : (Instr.makeSlice 30 (.int .i64 401) (.int .i64 401)).run Tryz.prog w = .ok (.slice (some ⟨w.heap.size, 0, none⟩) 401 401) (w.alloc (.cells made401 27)) := by
  have h : (Tryz.prog.info? 27).map (fun i => (i.zero, i.size, i.bytes)) = some (some (.agg #[.int .i64 0, .int .i64 0, .bool false, .slice none 0 0]), 4, 48) := by kernel_rfl
  cases hi : Tryz.prog.info? 27 with
  | none => rw [hi] at h; cases h
  | some i =>
    rw [hi] at h
    simp only [Option.map_some, Option.some.injEq, Prod.mk.injEq] at h
    obtain ⟨hz, hs, hb⟩ := h
    have := run_makeSlice (P := Tryz.prog) w 30 27 i _ Tryz.underlying30 hi hz .i64 .i64 401 401 (by decide) (by decide) (by rw [hs]; decide) (by rw [hb]; decide) (by decide)
    rw [hs] at this
    exact this
theorem made_key : ∀ n : Nat, (List.range (n * 4)).map (fun i => (#[Value.int .i64 0, .int .i64 0, .bool false, .slice none 0 0])[i % 4]!) = (List.replicate n [Value.int .i64 0, .int .i64 0, .bool false, .slice none 0 0]).flatten
  | 0 => rfl
  | n + 1 => by
    have h0 : n * 4 % 4 = 0 := by omega
    have h1 : (n * 4 + 1) % 4 = 1 := by omega
    have h2 : (n * 4 + 2) % 4 = 2 := by omega
    have h3 : (n * 4 + 3) % 4 = 3 := by omega
    rw [show (n + 1) * 4 = n * 4 + 3 + 1 by omega, List.range_succ, show n * 4 + 3 = n * 4 + 2 + 1 by omega, List.range_succ, show n * 4 + 2 = n * 4 + 1 + 1 by omega, List.range_succ, List.range_succ]
    simp only [List.map_append, List.map_cons, List.map_nil, made_key n]
    rw [show n * 4 + 1 + 1 = n * 4 + 2 by omega, show n * 4 + 2 + 1 = n * 4 + 3 by omega, h0, h1, h2, h3, List.replicate_succ', List.flatten_append]
    simp
theorem made_flat : made401 = (List.replicate 401 [Value.int .i64 0, .int .i64 0, .bool false, .slice none 0 0]).flatten.toArray := by
  rw [← made_key 401]
  unfold made401 madeCells
  generalize 401 * 4 = n
  apply Array.toList_inj.1
  rw [Array.toList_map, Array.toList_range]
  rfl
theorem rd401 {W : World} {b : Nat} (hb : W.heap[b]? = some (.cells made401 27 (0, 0))) : RdM W (some ⟨b, 0, none⟩) smZ := by
  unfold smZ
  refine Rd.blk (List.replicate 401 [.int .i64 0, .int .i64 0, .bool false, .slice none 0 0]) hb made_flat (by rw [List.length_replicate]; decide) (by rw [List.length_replicate, List.length_replicate]) (fun cs h => by rw [List.eq_of_mem_replicate h]; rfl) fun k x cs hx hc => ?_
  rw [List.eq_of_mem_replicate (List.mem_of_getElem? hx), List.eq_of_mem_replicate (List.mem_of_getElem? hc)]
  exact ⟨_, _, rfl, Nat.le_refl _, Rd.nil _ _ _ _⟩
end Go.Proofs.YtfommmijojfdbaaGreatDoor
