/- Part 10 of the proof that 'spoondriftlaw19.RulesApplies' holds for every input; it has no condition beyond the statement's own. -/
import Derived.Test.YtfommmijojfdbaaGreatDoorZ07
import Derived.Ground.NamesProg
import Derived.Test.YtfommmijojfdbaaGreatDoorZ00
import Derived.Shelf.Strings.SplitShaped
import Derived.Shelf.Strings.PiecesUse
import Derived.Laws.IdiomStrings
import Derived.Test.YtfommmijojfdbaaGreatDoorZ08
import Derived.Laws.Rows
import Derived.Laws.CopyOwn
set_option linter.all false
namespace Go.Proofs.YtfommmijojfdbaaGreatDoor
open Go.RowKit Go.Shelf
structure Laid (w : World) : Prop where
  space : Lib.TabIs Tryz.prog w "strings.asciiSpace" .u8 Lib.asciiSpaceTab
  unbound : Lib.TabIs Tryz.prog w "spoondrift/rules.unbound" .i64 [-1, -1, -1]
theorem tab_below {w w1 : World} {n : String} {g : Nat} {k : IntKind} {zs : List Int} (hg : Tryz.prog.globalNamed n = some g) (h : Lib.TabIs Tryz.prog w n k zs) (hb : Below w.heap.size w w1) : Lib.TabIs Tryz.prog w1 n k zs := by
  refine var?_below hb hg ?_ h
  unfold Lib.TabIs World.var? at h
  rw [hg] at h
  rcases hh : w.heap[g]? with _ | o
  · simp [hh] at h
  · exact lt_of_block hh
theorem Laid.below {w w1 : World} (h : Laid w) (hb : Below w.heap.size w w1) : Laid w1 :=
  ⟨tab_below (g := (Tryz.prog.globalNamed "strings.asciiSpace").get!) (by kernel_rfl) h.space hb, tab_below (g := (Tryz.prog.globalNamed "spoondrift/rules.unbound").get!) (by kernel_rfl) h.unbound hb⟩
def kindN (b : Int) : Int := if b = 120 then 1 else if b = 121 then 2 else if b = 122 then 3 else if b = 104 then 4 else if b = 115 then 5 else if b = 83 then 6 else if b = 116 then 7 else if b = 84 then 8 else if b = 99 then 9 else if b = 111 then 10 else if b = 119 then 11 else 12
theorem kind_any (b : Int) (w : World) : Calls Tryz.prog 146 #[.int .u8 b] w fun e w' => e = .returned (.int .i64 (kindN b)) ∧ w = w' := by
  go_enter Tryz.func146, Tryz.ntmps146
  go_wp2
  all_goals
    go_ret
    exact ⟨ret_int (by unfold kindN; simp only [beq_iff_eq, beq_eq_false_iff_ne, ne_eq] at *; (repeat' split) <;> omega), rfl⟩
theorem bytes_conv (t : List UInt8) (W : World) : ∃ cap row fz, (convert 9 62 (.string ⟨t.toArray⟩)).run Tryz.prog W = .ok (.slice (some ⟨W.heap.size, 0, none⟩) t.length cap) (W.drew.alloc (.cells row 5 fz)) ∧
    ∀ (j : Nat) (b : UInt8), t[j]? = some b → row[j]? = some (.int .u8 b.toNat) := by
  have h := run_bytes_of_string W 9 62 5 ⟨t.toArray⟩ Tryz.underlying9 Tryz.underlying62 Tryz.underlying5
  have hz : (ByteArray.mk t.toArray).size = t.length := by simp [ByteArray.size]
  rw [hz] at h
  refine ⟨_, _, _, h, fun j b hj => ?_⟩
  have hjl := (List.getElem?_eq_some_iff.1 hj).1
  unfold bytesRow
  rw [Array.getElem?_append_left (by simpa using hjl)]
  simp [hj]
def wordG (l : List UInt8) : G := ⟨kindN ((l.headD 0).toNat : Int), l.tail.map fun b => (b.toNat : Int) - 48, 0, 0⟩
def sideG (l : List UInt8) : List G := (Lib.fields l).map wordG
def GoodWord (l : List UInt8) : Prop := l ≠ [] ∧ l.length ≤ 1000 ∧ ∀ b ∈ l.tail, 48 ≤ b.toNat ∧ b.toNat < 128
theorem grow_blocks {wr w3 : World} {n0 : Nat} {x0 x1 x2 x3 : Value} {T T' : TypeId} {row : Array Value} {fz : Nat × Nat} {v : Value} {ds : List Int} (h1 : wr.heap[n0]? = some (.cells #[x0, x1, x2, x3] T (0, 0))) (h2 : wr.heap[n0 + 1]? = some (.cells row T' fz))
    (h3 : App EI 3 1 (n0 + 2) wr v ds) (h4 : n0 + 2 ≤ wr.heap.size) (hg : wr.grownBy w3 v.ownBlock) :
    w3.heap[n0]? = some (.cells #[x0, x1, x2, x3] T (0, 0)) ∧ w3.heap[n0 + 1]? = some (.cells row T' fz) ∧ w3.cell? ⟨n0, 1, none⟩ = some x1 ∧ w3.frozen? ⟨n0, 1, none⟩ = false ∧ Below (n0 + 2) wr w3 := by
  have hb : Below (n0 + 2) wr w3 := h3.grows hg (Below.refl _ _) (Nat.le_refl _) h4
  have e1 := (hb.block n0 (by omega)).trans h1
  have e2 := (hb.block (n0 + 1) (by omega)).trans h2
  exact ⟨e1, e2, by rw [cell_of_row _ _ 1 _ _ (0, 0) e1]; rfl, frozen_of_row _ _ 1 _ _ e1, hb⟩
set_option maxRecDepth 100000 in
set_option maxHeartbeats 4000000 in
theorem side_any (s : ByteArray) (w : World) (HT : Hid (Laid w)) (hs : s.size < 100000) (hascii : ∀ (j : Nat) b, s.data.toList[j]? = some b → b.toNat < 128) (hw : ∀ l ∈ Lib.fields s.data.toList, GoodWord l) (hn : (Lib.fields s.data.toList).length ≤ 100000) :
    Calls Tryz.prog 112 #[.string s] w fun e w' => ∃ v, e = .returned v ∧ Own 3 55 w.heap.size w' v (sideG s.data.toList) ∧ Below w.heap.size w w' := by
  have cF := Any.strings_Fields_laid Tryz.laysM157 s w (by omega) hascii HT.out.space
  obtain ⟨ls, hls⟩ : ∃ ls, Lib.fields s.data.toList = ls := ⟨_, rfl⟩
  have HS := Lib.hid (show sideG s.data.toList = ls.map wordG by unfold sideG; rw [hls])
  rw [hls] at cF hw hn
  have HW := Lib.hid hw
  clear hls hw hascii hs
  go_enter Tryz.func112, Tryz.ntmps112
  go_wp2_with fail
  refine cF.mono ?_
  rintro e w1 ⟨rfl, rfl⟩
  obtain ⟨W0, hW0⟩ : ∃ W0, w.alloc (.cells (ls.map fun l => Value.string ⟨l.toArray⟩).toArray (Tryz.laysM157_ren.t 9)) = W0 := ⟨_, rfl⟩
  have HB0 := Lib.hid (show Below w.heap.size w W0 by rw [← hW0]; (repeat (first|exact bR _ _|assumption|apply bN|apply bA|apply bD)))
  have HS0 := Lib.hid (show W0.heap.size = w.heap.size + 1 by rw [← hW0]; simp)
  have HC0 := Lib.hid (show ∀ (k : Nat) (l : List UInt8), ls[k]? = some l → W0.cell? ⟨w.heap.size, k, none⟩ = some (.string ⟨l.toArray⟩) by
    intro k l hk
    rw [← hW0, World.cell?_alloc_new, List.getElem?_toArray, List.getElem?_map, hk]
    rfl)
  rw [hW0]
  clear cF hW0
  go_wp2
  go_loopw [3, 12] (fun v i wr => ∃ k : Nat, k ≤ ls.length ∧ i = .int .i64 k ∧ Hid (Own 3 55 W0.heap.size wr v ((ls.take k).map wordG)) ∧ Below W0.heap.size W0 wr) (fun _ i _ => ls.length - (intOf i).toNat)
  case atStart => exact ⟨0, Nat.zero_le _, rfl, Lib.hid ⟨[], by simp, List.Pairwise.nil, App.nil _ _ _ _ _⟩, Below.refl _ _⟩
  case round =>
    obtain ⟨k, hk, rfl, HO, hB⟩ := hrel
    rename World => wo
    by_cases hlt : k < ls.length
    · obtain ⟨hg1, hg2, hg3⟩ := HW.out _ (List.getElem_mem hlt)
      have h0 := kc hB (HC0.out k _ (List.getElem?_eq_getElem hlt))
      obtain ⟨l, hl⟩ : ∃ l, ls[k] = l := ⟨_, rfl⟩
      rw [hl] at hg1 hg2 hg3 h0
      obtain ⟨b, t, rfl⟩ : ∃ b t, l = b :: t := List.exists_cons_of_ne_nil hg1
      have HG3 := Lib.hid (And.intro hl hg3)
      have hold := olds wo
      have lb := cell_lt h0
      clear hl hg3 hg1
      go_wp2_with fail
      have hb0 : ∀ h, (ByteArray.mk (b :: t).toArray)[0]'h = b := fun _ => rfl
      simp only [hb0]
      refine (kind_any _ _).mono ?_
      rintro e w2 ⟨rfl, rfl⟩
      obtain ⟨kn, hkn⟩ : ∃ kn, kindN (b.toNat : Int) = kn := ⟨_, rfl⟩
      have HKN := Lib.hid hkn
      rw [hkn]
      clear hkn
      go_wp2_with fail
      have he : (ByteArray.mk (b :: t).toArray).extract 1 (t.length + 1) = ⟨t.toArray⟩ := by
        apply ByteArray.ext
        simp
      rw [he]
      obtain ⟨cap, row, fz, hcv1, hcv2⟩ := bytes_conv t (wo.alloc (.cells #[.int .i64 kn, .slice none 0 0, .int .i64 0, .int .i64 0] 55))
      rw [hcv1]
      have HR := Lib.hid hcv2
      clear hcv1 hcv2 he hold
      have htl : t.length ≤ 1000 := by simp at hg2; omega
      go_wp2
      go_loopw [24] (fun i w2 => ∃ (j : Nat) (v : Value) (ds : List Int), j ≤ t.length ∧ i = .int .i64 j ∧ ds.length ≤ 1000 ∧ Hid (ds.length = j ∧ ds = (t.take j).map fun b => (b.toNat : Int) - 48) ∧ Hid (w2.heap[wo.heap.size]? = some (.cells #[.int .i64 kn, v, .int .i64 0, .int .i64 0] 55 (0, 0)) ∧ w2.heap[wo.heap.size + 1]? = some (.cells row 5 fz) ∧ App EI 3 1 (wo.heap.size + 2) w2 v ds ∧ wo.heap.size + 2 ≤ w2.heap.size) ∧ Hid (Below wo.heap.size wo w2)) (fun i _ => t.length - (intOf i).toNat)
      case atStart => exact ⟨0, _, [], Nat.zero_le _, rfl, by simp, Lib.hid (by simp), Lib.hid ⟨by
          show (((wo.alloc _).alloc _).heap)[wo.heap.size]? = _
          rw [Below.heap_alloc _ _ _ (by simp)]
          exact heap_alloc_new _ _, by
          show (((wo.alloc _).alloc _).heap)[wo.heap.size + 1]? = _
          have := heap_alloc_new (wo.alloc (.cells #[.int .i64 kn, .slice none 0 0, .int .i64 0, .int .i64 0] 55)) (.cells row 5 fz)
          simpa using this, App.nil _ _ _ _ _, by simp⟩, Lib.hid (by (repeat (first|exact bR _ _|assumption|apply bN|apply bA|apply bD)))⟩
      case round =>
        obtain ⟨j, v, ds, hj, rfl, hdl, HDS, HB, HL⟩ := hrel
        by_cases hlt2 : j < t.length
        · obtain ⟨hb1, hb2, hb3, hb4⟩ := HB.out
          obtain ⟨A4, c4, rfl, hc4⟩ := hb3.form
          have c0 : wr.cell? ⟨wo.heap.size, 0, none⟩ = some (.int .i64 kn) := by rw [cell_of_row _ _ 0 _ _ (0, 0) hb1]; rfl
          have c1 : wr.cell? ⟨wo.heap.size, 1, none⟩ = some (.slice A4 ds.length c4) := by rw [cell_of_row _ _ 1 _ _ (0, 0) hb1]; rfl
          have c2 : wr.cell? ⟨wo.heap.size, 2, none⟩ = some (.int .i64 0) := by rw [cell_of_row _ _ 2 _ _ (0, 0) hb1]; rfl
          have c3 : wr.cell? ⟨wo.heap.size, 3, none⟩ = some (.int .i64 0) := by rw [cell_of_row _ _ 3 _ _ (0, 0) hb1]; rfl
          have cy : wr.cell? ⟨wo.heap.size + 1, j, none⟩ = some (.int .u8 (t[j].toNat : Int)) := by
            rw [cell_of_row _ _ j _ _ _ hb2]; exact HR.out j _ (List.getElem?_eq_getElem hlt2)
          have hold := olds wr
          have HB1 := Lib.hid (And.intro hb1 (And.intro hb2 (And.intro hb3 hb4)))
          have hdg := HG3.out.2 t[j] (by simp)
          obtain ⟨dj, hdj⟩ : ∃ d : Nat, t[j].toNat = d := ⟨_, rfl⟩
          rw [hdj] at hdg cy
          obtain ⟨hd1, hd2⟩ := hdg
          have HDJ := Lib.hid hdj
          have hb4' := hb4
          clear hdj hb1 hb2 hb3 HB
          go_wp2_with (at_builtin; refine wp_app (E := EI) 3 1 (wo.heap.size + 2) rfl _ _ 25 (.int .i64 0) 8 rfl Tryz.underlying25 (by kernel_rfl) rfl (by decide) (by decide) (.slice A4 ds.length c4) ds ((dj : Int) - 48) [.int .i64 ((dj : Int) - 48)] rfl rfl rfl (by simp [Value.oneCell']) rfl HB1.out.2.2.1 hb4' (by omega) (fun _ _ _ _ _ _ _ h => h) ?_; intro v2 w3 ho2 hg2; obtain ⟨A5, c5, rfl, hc5⟩ := ho2.form; have HE := Lib.hid (grow_blocks HB1.out.1 HB1.out.2.1 HB1.out.2.2.1 HB1.out.2.2.2 hg2); have d1 := HE.out.2.2.1; have d2 := HE.out.2.2.2.1)
          go_roundw
          case rel =>
            have hdl2 := HDS.out.1
            refine ⟨j + 1, .slice A5 (ds.length + 1) c5, ds ++ [(dj : Int) - 48], by omega, by go_num, by simp; omega, Lib.hid ⟨by simp; omega, ?_⟩, Lib.hid ⟨?_, ?_, ?_, ?_⟩, Lib.hid ?_⟩
            · rw [List.take_succ_eq_append_getElem hlt2, List.map_append, HDS.out.2, ← HDJ.out]; rfl
            · exact heap_setCell_same _ _ 1 _ _ _ HE.out.1
            · rw [heap_setCell_other _ _ _ _ (by simp)]; exact HE.out.2.1
            · have := ho2.setCell (a := ⟨wo.heap.size, 1, none⟩) (by simp) (.slice A5 (ds.length + 1) c5)
              simpa using this
            · simp only [World.size_setCell]
              have := HE.out.2.2.2.2.size
              omega
            · exact ((HL.out.trans (HE.out.2.2.2.2.mono (by omega))).setCell (Nat.le_refl _) _)
          case measure => simp [intOf]; omega
        · obtain ⟨hb1, hb2, hb3, hb4⟩ := HB.out
          obtain ⟨A4, c4, rfl, hc4⟩ := hb3.form
          have c0 : wr.cell? ⟨wo.heap.size, 0, none⟩ = some (.int .i64 kn) := by rw [cell_of_row _ _ 0 _ _ (0, 0) hb1]; rfl
          have c1 : wr.cell? ⟨wo.heap.size, 1, none⟩ = some (.slice A4 ds.length c4) := by rw [cell_of_row _ _ 1 _ _ (0, 0) hb1]; rfl
          have c2 : wr.cell? ⟨wo.heap.size, 2, none⟩ = some (.int .i64 0) := by rw [cell_of_row _ _ 2 _ _ (0, 0) hb1]; rfl
          have c3 : wr.cell? ⟨wo.heap.size, 3, none⟩ = some (.int .i64 0) := by rw [cell_of_row _ _ 3 _ _ (0, 0) hb1]; rfl
          have hds : ds = t.map fun b => (b.toNat : Int) - 48 := by rw [HDS.out.2, List.take_of_length_le (by omega)]
          obtain ⟨ps, hps, hd, ho⟩ := HO.out
          have hpl : ps.length = k := by have := congrArg List.length hps; simp at this; omega
          obtain ⟨A6, c6, rfl, hc6⟩ := ho.form
          have HA := Lib.hid (And.intro (ho.below (EGv.stays _ _) HL.out) (And.intro hps (And.intro (hd.new (g := ⟨kn, ds, 0, 0⟩) ho hb3 (by omega)) hds)))
          have HB1 := Lib.hid (And.intro hb3 hb4)
          have hws := hB.size
          have hold := olds wr
          have lb2 := cell_lt c0
          clear hb1 hb2 hb3 HB hps hd ho hds
          go_wp2_with (at_builtin; refine wp_app (E := EGv 3 W0.heap.size) 55 4 W0.heap.size rfl _ _ 22 (.agg #[.int .i64 0, .slice none 0 0, .int .i64 0, .int .i64 0]) 48 rfl Tryz.underlying22 (by kernel_rfl) rfl (by decide) (by decide) (.slice A6 ps.length c6) ps (⟨kn, ds, 0, 0⟩, .slice A4 ds.length c4) [.int .i64 kn, .slice A4 ds.length c4, .int .i64 0, .int .i64 0] rfl rfl rfl (by simp [Value.oneCell']) ⟨rfl, HB1.out.1.imp (by omega) (fun _ _ h => h)⟩ HA.out.1 (by have := HL.out.size; omega) (by omega) (fun _ _ _ h1 h2 _ _ h => h.other h1 h2 (by decide)) ?_; intro v2 w3 ho2 hg2)
          go_roundw
          case rel =>
            refine ⟨k + 1, by omega, by go_num, Lib.hid ⟨_, ?_, HA.out.2.2.1, ho2⟩, HA.out.1.grows hg2 (hB.trans (HL.out.mono hws)) (Nat.le_refl _) (Nat.le_trans hws HL.out.size)⟩
            rw [List.map_append, HA.out.2.1, List.take_succ_eq_append_getElem hlt, List.map_append, HG3.out.1]
            congr 1
            show [(⟨kn, ds, 0, 0⟩ : G)] = [wordG (b :: t)]
            rw [HA.out.2.2.2, ← HKN.out]
            rfl
          case measure => simp [intOf]; omega
    · have hws := HS0.out
      have HO2 := Lib.hid (show Own 3 55 w.heap.size wo u3 (sideG s.data.toList) from by
        obtain ⟨ps, hps, hd, ho⟩ := HO.out
        rw [List.take_of_length_le (by omega), ← HS.out] at hps
        exact ⟨ps, hps, hd, ho.imp (by omega) (fun _ _ h => h.weak (by omega))⟩)
      go_wp2
      go_ret
      exact ⟨_, rfl, HO2.out, HB0.out.trans (hB.mono HB0.out.size)⟩
end Go.Proofs.YtfommmijojfdbaaGreatDoor
namespace Go.Proofs.YtfommmijojfdbaaGreatDoor
open Go.RowKit
def axN (kind : Int) (last : Bool) : Int :=
  if kind = 3 ∨ kind = 5 ∨ kind = 6 ∨ kind = 7 ∨ kind = 8 ∨ kind = 10 ∨ kind = 13 then 3 else
  if kind = 1 then 1 else if kind = 2 then 2 else if kind = 4 then 4 else
  if kind = 9 ∨ kind = 12 then (if last = true then 1 else 3) else 0
set_option maxHeartbeats 2000000 in
theorem axis_any (A : Option Addr) (c : Nat) (g : G) (n : Int) (w : World) (hl : g.wires.length ≤ 35184372088832) :
    Calls Tryz.prog 183 #[.agg #[.int .i64 g.kind, .slice A g.wires.length c, .int .i64 g.bit, .int .i64 g.cif], .int .i64 n] w fun e w' => e = .returned (.int .i64 (axN g.kind (decide (n = g.wires.length - 1)))) ∧ Below w.heap.size w w' := by
  go_enter Tryz.func183, Tryz.ntmps183
  go_wp2
  all_goals
    go_ret
    refine ⟨ret_int ?_, by (repeat (first|exact bR _ _|assumption|apply bN|apply bA|apply bD))⟩
    simp only [Bool.not_eq_false', Bool.not_eq_true', beq_iff_eq, bne_iff_ne, beq_eq_false_iff_ne, bne_eq_false_iff_eq, ne_eq] at *
    unfold axN
    simp only [decide_eq_true_eq]
    (repeat' split) <;> omega
def swapsB (g h : G) : Bool := decide (g.kind = 11 ∧ (h.kind = 11 ∨ h.kind = 10))
set_option maxHeartbeats 2000000 in
theorem swaps_any (A B : Option Addr) (c d : Nat) (g h : G) (w : World) :
    Calls Tryz.prog 181 #[.agg #[.int .i64 g.kind, .slice A g.wires.length c, .int .i64 g.bit, .int .i64 g.cif], .agg #[.int .i64 h.kind, .slice B h.wires.length d, .int .i64 h.bit, .int .i64 h.cif]] w fun e w' => e = .returned (.bool (swapsB g h)) ∧ Below w.heap.size w w' := by
  go_enter Tryz.func181, Tryz.ntmps181
  go_wp2
  all_goals
    go_ret
    refine ⟨ret_bool ?_, by (repeat (first|exact bR _ _|assumption|apply bN|apply bA|apply bD))⟩
    unfold swapsB
    rw [Bool.eq_iff_iff]
    simp
    try omega
def sameW (a b : List Int) : Bool := (List.range 12).all fun i => inW a i == inW b i
theorem eqIn12 (d : Nat) (f g : Nat → Bool) (w : World) : (Op.equalIn (d + 1 + 1) 200 (.agg (bv f)) (.agg (bv g))).run Tryz.prog w = .ok ((List.range 12).all fun i => f i == g i) w := by
  have hu : Tryz.prog.underlying 200 = some (.array 12 4) := by kernel_rfl
  have hb : Tryz.prog.underlying 4 = some .bool := by kernel_rfl
  have hs : ∀ w, (sizeOf 4).run Tryz.prog w = .ok 1 w := fun _ => by kernel_rfl
  have hp : ∀ (f : Nat → Bool) (i : Nat) (w : World), i < 12 → (part 4 (bv f) i).run Tryz.prog w = .ok (.bool (f i)) w := by
    intro f i w hi
    have h1 : (isAgg 4).run Tryz.prog w = .ok false w := by kernel_rfl
    have h2 := bv_get f i
    rw [if_pos hi] at h2
    simp [part, h1, h2, Array.getD_eq_getD_getElem?]
  rw [Op.equalIn]
  simp only [Sem.run_bind, run_underlying hu, Result.andThen_ok, hs]
  have key : ∀ (l : List Nat), (∀ i ∈ l, i < 12) → ∀ w, (Sem.run Tryz.prog (forIn l ((none : Option Bool), ()) fun i (_ : Option Bool × Unit) => do
            let a ← part 4 (bv f) (i * 1)
            let b ← part 4 (bv g) (i * 1)
            let r ← Op.equalIn (d + 1) 4 a b
            if (!r) = true then pure (ForInStep.done (some false, ())) else pure (ForInStep.yield (none, ()))) w) = .ok (if (l.all fun i => f i == g i) = true then none else some false, ()) w := by
    intro l
    induction l with
    | nil => intro _ w; simp
    | cons i l ih =>
      intro hl w
      have hi := hl i (by simp)
      simp only [List.forIn_cons, Sem.run_bind, Nat.mul_one, hp f i _ hi, hp g i _ hi, Result.andThen_ok, run_equalIn_bool' _ d _ (f i) (g i) hb, Sem.run_ite]
      by_cases e : (f i == g i) = true
      · simp only [e, List.all_cons, Bool.true_and]
        have := ih (fun j hj => hl j (by simp [hj])) w
        simp only [Nat.mul_one] at this
        simp only [Bool.not_true, Bool.false_eq_true, if_false, Sem.run_pure, Result.andThen_ok]
        exact this
      · simp only [Bool.not_eq_true] at e
        simp [e]
  simp only [Std.Legacy.Range.forIn_eq_forIn_range', Std.Legacy.Range.size, Nat.sub_zero, Nat.add_one_sub_one, Nat.div_one]
  have hk := key (List.range' 0 12 1) (by decide) w
  have hr : List.range' 0 12 1 = List.range 12 := rfl
  rw [hk]
  simp only [Result.andThen_ok, hr]
  split <;> simp_all
theorem eqlB (f g : Nat → Bool) (w : World) : (binOp .eql 200 (.agg (bv f)) (.agg (bv g))).run Tryz.prog w = .ok (.bool ((List.range 12).all fun i => f i == g i)) w := by
  rw [run_eql_struct, eqIn12 9998]
  rfl
set_option maxRecDepth 100000 in
set_option maxHeartbeats 4000000 in
theorem rPlain_any (A : Option Addr) (k : Nat) (c : C) (w : World) (h : RdG w A c.gates) (hk : c.gates.length ≤ k) :
    Calls Tryz.prog 77 #[.agg #[.int .i64 c.wires, .int .i64 c.bits, .slice A c.gates.length k]] w fun e w' => e = .returned (.bool (c.gates.all plainG)) ∧ Below w.heap.size w w' := by
  have hl := h.1
  have HH := Lib.hid h
  clear h
  go_enter Tryz.func77, Tryz.ntmps77
  go_wp2
  obtain ⟨W1, hW1⟩ : ∃ W1, w.alloc (.cells #[.int .i64 c.wires, .int .i64 c.bits, .slice A c.gates.length k] 24) = W1 := ⟨_, rfl⟩
  have hb1 : Below w.heap.size w W1 := by rw [← hW1]; (repeat (first|exact bR _ _|assumption|apply bN|apply bA|apply bD))
  have p0 : W1.heap[w.heap.size]? = some (.cells #[.int .i64 c.wires, .int .i64 c.bits, .slice A c.gates.length k] 24 (0, 0)) := by rw [← hW1]; exact heap_alloc_new _ _
  obtain ⟨k0, k1, k2, kf⟩ := cells3 p0
  rw [hW1]
  clear hW1
  go_loop [3] (fun i => ∃ j : Nat, j ≤ c.gates.length ∧ i = .int .i64 j ∧ Hid ((c.gates.take j).all plainG = true)) (fun i => c.gates.length - (intOf i).toNat)
  case atStart => exact ⟨0, Nat.zero_le _, rfl, Lib.hid (by simp)⟩
  case round =>
    obtain ⟨j, hj, rfl, HI⟩ := hrel
    by_cases hlt : j < c.gates.length
    · obtain ⟨b, o, B, d, rfl, g0, g1, g2, g3, hd, hrd⟩ := (HH.out.bG hb1).gate j hlt
      obtain ⟨g, hg⟩ : ∃ g, c.gates[j] = g := ⟨_, rfl⟩
      have HG := Lib.hid hg
      rw [hg] at g0 g1 g2 g3
      clear hg hd hrd
      have HB := Lib.hid hb1
      clear hb1
      by_cases h1 : g.kind ≤ 12
      · have t1 : decide (13 ≤ g.kind) = false := by rw [decide_eq_false_iff_not]; omega
        have t1' : ¬ 13 ≤ g.kind := by omega
        by_cases h2 : g.cif = 0
        · have t2 : (g.cif != 0) = false := by simpa using h2
          have HP := Lib.hid (show plainG g = true by unfold plainG; simp [h1, h2])
          clear h1 h2
          go_wp2
          go_round
          case rel => exact ⟨j + 1, by omega, by go_num, Lib.hid (by rw [List.take_succ_eq_append_getElem hlt, List.all_append, HI.out, HG.out]; simp [HP.out])⟩
          case measure => simp [intOf]; omega
        · have t2 : (g.cif != 0) = true := by simpa using h2
          have HP := Lib.hid (show plainG g = false by unfold plainG; simp [h2])
          clear h1 h2
          go_wp2
          go_ret
          exact ⟨ret_bool (by rw [eq_comm, List.all_eq_false]; exact ⟨_, List.getElem_mem hlt, by rw [HG.out, HP.out]; simp⟩), HB.out⟩
      · have t1 : decide (13 ≤ g.kind) = true := by rw [decide_eq_true_eq]; omega
        have t1' : 13 ≤ g.kind := by omega
        have HP := Lib.hid (show plainG g = false by unfold plainG; simp [h1])
        clear h1
        go_wp2
        go_ret
        exact ⟨ret_bool (by rw [eq_comm, List.all_eq_false]; exact ⟨_, List.getElem_mem hlt, by rw [HG.out, HP.out]; simp⟩), HB.out⟩
    · go_wp2
      go_ret
      exact ⟨ret_bool (by have := HI.out; rw [List.take_of_length_le (by omega)] at this; rw [this]), hb1⟩
end Go.Proofs.YtfommmijojfdbaaGreatDoor
namespace Go.Proofs.YtfommmijojfdbaaGreatDoor
open Go.RowKit Go.Shelf
attribute [local go_sem] Oper.semAt_some
set_option maxRecDepth 100000 in
set_option maxHeartbeats 4000000 in
theorem AppendSeq_any (gf : Nat) (lb : Array Value) (eg : ∀ args w, (callFunc gf args).run Tryz.prog w = .ok (.enter gf args) w) (xs : List Int) (n0 : Nat) (w : World) (hn : n0 ≤ w.heap.size) (hl : xs.length ≤ 1000000)
    (hit : IterK Tryz.prog gf lb (fun _ x args => args = #[.int .i64 x]) (Below n0) w xs) :
    Calls Tryz.prog 160 #[.slice none 0 0, .func (.func gf) #[] lb] w fun e w' => ∃ v, e = .returned v ∧ App EI 3 1 w.heap.size w' v xs ∧ Below w.heap.size w w' := by
  have HIT := Lib.hid hit
  clear hit
  refine (callsIn_wide (n := 0)).1 (callsIn_of_wp_marks Tryz.func160 rfl trivial ?_ rfl)
  simp only [Tryz.ntmps160, List.size_toArray, List.length_cons, List.length_nil, Nat.reduceAdd, Nat.reduceSub, Array.replicate_succ, Array.replicate_zero, List.push_toArray, List.append_toArray, List.nil_append, List.cons_append]
  gi_wp2
  have hb1 : Below w.heap.size w (w.alloc (.cells #[.slice none 0 0] 25)) := by (repeat (first|exact bR _ _|assumption|apply bN|apply bA|apply bD))
  refine rf_law (gf := gf) (lb := lb) rfl eg (HIT.out.later hb1) (fun h k => h.trans k) (fun W l o o' hl _ hL => below_put o' (by simp at hL; omega) hl) (fun _ _ _ h => by rw [h]; rfl)
    (fun pre W => ∃ v, W.heap[w.heap.size]? = some (.cells #[v] 25 (0, 0)) ∧ App EI 3 1 w.heap.size W v pre ∧ Below w.heap.size w W) (fun _ _ _ => False) ?hI (fun _ _ _ _ _ h _ _ => h) ?h0
    (fun x a' _ => a' = { tmps := #[.slice none 0 0, .func (.func gf) #[] lb, .pointer (some ⟨w.heap.size, 0, none⟩), undef, .slice none 0 0, .int .i64 x, .func (.func gf) #[] lb, .int .i64 x, undef, undef, undef, undef, undef], defers := [] }) (fun _ => abide_pure _) ?assign ?body ?done (fun _ _ _ _ _ _ h _ => h.elim)
  case hI =>
    rintro s W W' row ⟨v, h1, h2, h3⟩ hg hr
    exact ⟨v, abide_block (L := w.heap.size + 1) (fun _ : Unit => _) (by omega) () W W' row h1 hg (fun r e => ⟨by have := (hr r e).1; simpa using this, (hr r e).2⟩), h2.turn EI.bears (by decide) hg (fun r e => (hr r e).2), abide_below (L := w.heap.size + 1) (by omega) (Nat.le_refl _) () W W' row h3 hg (fun r e => ⟨by have := (hr r e).1; simpa using this, (hr r e).2⟩)⟩
  case h0 => exact ⟨_, heap_alloc_new _ _, App.nil _ _ _ _ _, hb1⟩
  case assign =>
    rintro l pre x args W K hi rfl hK
    gi_wp2
    exact hK _ _ (KeepsFrom.refl _ _) (Below.refl _ _) hi rfl
  case body =>
    rintro l pre x a' W ⟨v, h1, h2, h3⟩ rfl hpre
    have hpl : pre.length + 1 ≤ xs.length := by have := hpre.length_le; simpa using this
    have hv := h2.form
    obtain ⟨A, c, rfl, _⟩ := hv
    have hc := Boxed.cell h1
    have hbl := (Array.getElem?_eq_some_iff.1 h1).1
    gi_wp2_with (gi_at_builtin; refine wpIn_app (E := EI) 3 1 w.heap.size rfl _ _ 25 (.int .i64 0) 8 rfl Tryz.underlying25 (by kernel_rfl) rfl (by decide) (by decide) (.slice A pre.length c) pre x [.int .i64 x] rfl rfl rfl (by simp [Value.oneCell']) rfl h2 h3.size (by omega) (fun _ _ _ _ _ _ _ h => h) ?_; intro v1 w1 ho hg; obtain ⟨A1, c1, rfl, _⟩ := ho.form; rw [show (pre ++ [x]).length = pre.length + 1 by simp] at ho; obtain ⟨e1, e2, e3, e4, e5⟩ := app_boxed (L := (w.alloc (.cells #[.slice none 0 0] 25)).heap.size) (n := n0) (by decide) h1 h2 hg ho (fun _ _ h => h) hn hn; have e6 := (Boxed.cell e1); have e7 := (Boxed.frozen e1); have HE := Lib.hid (And.intro e2 (And.intro e3 (And.intro e4 (And.intro e5 (h3.trans ((app_boxed (L := 0) (n := w.heap.size) (by decide) h1 h2 hg ho (fun _ _ h => h) (Nat.le_refl _) (Nat.le_refl _)).2.2.2.1)))))); clear e1 e2 e3 e4 e5)
    obtain ⟨e2, e3, e4, e5, e8⟩ := HE.out
    exact ⟨e5, e4, _, e2, e3, e8⟩
  case done =>
    rintro D W hD ⟨v, h1, h2, h3⟩ hm
    have hv := h2.form
    obtain ⟨A, c, rfl, _⟩ := hv
    have hc := Boxed.cell h1
    have HE := Lib.hid (And.intro h2 (And.intro h3 hm))
    clear h2 h3 hm
    gi_wp2
    obtain ⟨h2, h3, hm⟩ := HE.out
    refine leaves_marks (L := w.heap.size + 1) (I := fun W => App EI 3 1 w.heap.size W (.slice A xs.length c) xs ∧ Below w.heap.size w W) ?_ ?_ _ W ⟨⟨D, rfl, hm, by simp⟩, trivial⟩ (by simp at hD ⊢; omega) ⟨h2, h3⟩
    · rintro s X Y row ⟨k2, k3⟩ hg hr
      exact ⟨k2.turn EI.bears (by decide) hg (fun r e => (hr r e).2), abide_below (L := w.heap.size + 1) (by omega) (Nat.le_refl _) () X Y row k3 hg hr⟩
    · rintro w' ⟨k2, k3⟩
      exact ⟨.slice A xs.length c, (results_tmp (t := 4) rfl _ _ _).trans rfl, _, rfl, k2, k3⟩
end Go.Proofs.YtfommmijojfdbaaGreatDoor
namespace Go.Proofs.YtfommmijojfdbaaGreatDoor
open Go.RowKit
def rowsT : List (List UInt8 × List UInt8 × Int × Int) := [
  ([120, 48, 32, 120, 48], [], 1, 0),
  ([121, 48, 32, 121, 48], [], 1, 0),
  ([122, 48, 32, 122, 48], [], 1, 0),
  ([104, 48, 32, 104, 48], [], 1, 0),
  ([115, 48, 32, 83, 48], [], 1, 0),
  ([83, 48, 32, 115, 48], [], 1, 0),
  ([116, 48, 32, 84, 48], [], 1, 0),
  ([84, 48, 32, 116, 48], [], 1, 0),
  ([99, 48, 49, 32, 99, 48, 49], [], 2, 0),
  ([111, 48, 49, 32, 111, 48, 49], [], 2, 0),
  ([119, 48, 49, 32, 119, 48, 49], [], 2, 0),
  ([102, 48, 49, 50, 32, 102, 48, 49, 50], [], 3, 0),
  ([115, 48, 32, 115, 48], [122, 48], 1, 0),
  ([83, 48, 32, 83, 48], [122, 48], 1, 0),
  ([116, 48, 32, 116, 48], [115, 48], 1, 0),
  ([84, 48, 32, 84, 48], [83, 48], 1, 0),
  ([122, 48, 32, 115, 48], [83, 48], 1, 0),
  ([115, 48, 32, 122, 48], [83, 48], 1, 0),
  ([122, 48, 32, 83, 48], [115, 48], 1, 0),
  ([83, 48, 32, 122, 48], [115, 48], 1, 0),
  ([104, 48, 32, 120, 48, 32, 104, 48], [122, 48], 1, 0),
  ([104, 48, 32, 122, 48, 32, 104, 48], [120, 48], 1, 0),
  ([104, 48, 32, 121, 48, 32, 104, 48], [121, 48], 1, 4),
  ([120, 48, 32, 122, 48, 32, 120, 48], [122, 48], 1, 4),
  ([122, 48, 32, 120, 48, 32, 122, 48], [120, 48], 1, 4),
  ([120, 48, 32, 115, 48, 32, 120, 48], [83, 48], 1, 2),
  ([120, 48, 32, 116, 48, 32, 120, 48], [84, 48], 1, 1),
  ([120, 48, 32, 83, 48, 32, 120, 48], [115, 48], 1, 6),
  ([120, 48, 32, 84, 48, 32, 120, 48], [116, 48], 1, 7),
  ([122, 48, 32, 120, 48], [121, 48], 1, 6),
  ([120, 48, 32, 122, 48], [121, 48], 1, 2),
  ([83, 48, 32, 120, 48, 32, 115, 48], [121, 48], 1, 0),
  ([104, 48, 32, 115, 48, 32, 104, 48, 32, 115, 48, 32, 104, 48, 32, 115, 48], [], 1, 1),
  ([104, 49, 32, 99, 48, 49, 32, 104, 49], [111, 48, 49], 2, 0),
  ([111, 48, 49], [111, 49, 48], 2, 0),
  ([119, 48, 49], [119, 49, 48], 2, 0),
  ([99, 48, 49, 32, 99, 49, 48, 32, 99, 48, 49], [119, 48, 49], 2, 0),
  ([104, 48, 32, 104, 49, 32, 99, 48, 49, 32, 104, 48, 32, 104, 49], [99, 49, 48], 2, 0),
  ([120, 48, 32, 99, 48, 49, 32, 120, 48], [99, 48, 49, 32, 120, 49], 2, 0),
  ([122, 49, 32, 99, 48, 49, 32, 122, 49], [122, 48, 32, 99, 48, 49], 2, 0),
  ([99, 48, 49, 32, 99, 49, 50, 32, 99, 48, 49, 32, 99, 49, 50], [99, 48, 50], 3, 0),
  ([102, 48, 49, 50], [102, 49, 48, 50], 3, 0),
  ([102, 48, 49, 50], [104, 50, 32, 99, 49, 50, 32, 84, 50, 32, 99, 48, 50, 32, 116, 50, 32, 99, 49, 50, 32, 84, 50, 32, 99, 48, 50, 32, 116, 49, 32, 116, 50, 32, 104, 50, 32, 99, 48, 49, 32, 116, 48, 32, 84, 49, 32, 99, 48, 49], 3, 0)]
def rowC (r : List UInt8 × List UInt8 × Int × Int) : List Value := [.string ⟨r.1.toArray⟩, .string ⟨r.2.1.toArray⟩, .int .i64 r.2.2.1, .int .i64 r.2.2.2]
def rowsC : Array Value := (rowsT.flatMap rowC).toArray
set_option maxRecDepth 1000000 in
set_option maxHeartbeats 8000000 in
theorem rows_any (w : World) : Calls Tryz.prog 111 #[] w fun e w' => e = .returned (.agg rowsC) ∧ Below w.heap.size w w' := by
  go_enter Tryz.func111, Tryz.ntmps111
  go_wp2_with (refine wpList_store_row rfl 149 _ _ rfl w.heap.size rowsC rfl rfl _ _ (heap_alloc_new _ _) (by kernel_rfl) (by kernel_rfl) (by kernel_rfl) ?_)
  exact bodyPost_ret (v := .agg rowsC) (results_cell_row rfl _ _ w.heap.size 149 _ _ _ rfl (setRow_heap _ _ _ _ _ _ (heap_alloc_new _ _)) Tryz.underlying149 rfl (by kernel_rfl)) rfl ⟨rfl, below_setRow (by (repeat (first|exact bR _ _|assumption|apply bN|apply bA|apply bD))) (Nat.le_refl _) _⟩
end Go.Proofs.YtfommmijojfdbaaGreatDoor
