/- The reference's Invert. -/
import Derived.Test.YtfommmijojfdbaaGreatDoorM2
import Derived.Test.YtfommmijojfdbaaGreatDoorZ33
import Derived.Test.YtfommmijojfdbaaGreatDoorZ40
import Derived.Test.YtfommmijojfdbaaGreatDoorSB
set_option linter.all false
namespace Go.Proofs.YtfommmijojfdbaaGreatDoor
open Go.RowKit

theorem inv_drop (l : List M) (k : Nat) (h : k < l.length) : (l.drop k).reverse.map invM = (l.drop (k + 1)).reverse.map invM ++ [invM l[k]] := by
  rw [List.drop_eq_getElem_cons h, List.reverse_cons, List.map_append, List.map_singleton]
set_option maxRecDepth 1000000 in
set_option maxHeartbeats 8000000 in
theorem rInvert19_any (A B : Option Addr) (k m : Nat) (c : C) (l : List M) (w : World) (h : RdG w A c.gates) (hk : c.gates.length ≤ k) (h' : RdM w B l) (hll : l.length ≤ 1000000) (hwl : ∀ s ∈ l, s.wires.length ≤ 1000000) :
    Calls Tryz.prog 28 #[.agg #[.int .i64 c.wires, .int .i64 c.bits, .slice A c.gates.length k], .slice B l.length m] w (RetS (InvertR c l) w) := by
  have HH := Lib.hid (And.intro h (And.intro h' hwl))
  clear h h' hwl
  go_enter Tryz.func28, Tryz.ntmps28
  go_upto_region 1 with fail
  obtain ⟨W1, hW1⟩ : ∃ W1, w.alloc (.cells #[.int .i64 c.wires, .int .i64 c.bits, .slice A c.gates.length k] 24) = W1 := ⟨_, rfl⟩
  have hb1 : Below w.heap.size w W1 := by rw [← hW1]; exact bl
  have p0 : W1.heap[w.heap.size]? = some (.cells #[.int .i64 c.wires, .int .i64 c.bits, .slice A c.gates.length k] 24 (0, 0)) := by rw [← hW1]; exact blk_alloc _ _ _ rfl
  rw [hW1]
  clear hW1
  obtain ⟨a0, a1, a2, af⟩ := cells3 p0
  have hp := rFollow_any A B k m c l W1 (HH.out.1.bG hb1) hk (HH.out.2.1.bM hb1)
  obtain ⟨⟨er, cc, ph⟩, hx⟩ : ∃ x, FollowR c l = x := ⟨_, rfl⟩
  rw [hx] at hp
  go_wp2_with fail
  refine hp.mono ?_
  clear hp
  rintro e w2 ⟨A9, c9, rfl, _, _, hb⟩
  have hb2 := hb1.trans (hb.mono hb1.size)
  clear hb hb1 p0 a0 a1 a2 af
  dsimp only
  obtain ⟨W3, hW3⟩ : ∃ W3, w2.alloc (.cells #[.int .i64 cc.wires, .int .i64 cc.bits, .slice A9 cc.gates.length c9] 24) = W3 := ⟨_, rfl⟩
  have hb3 : Below w.heap.size w W3 := by rw [← hW3]; exact below_alloc hb2 _
  clear hb2
  by_cases he : er = 0
  case neg =>
    have hne : (er == 0) = false := by simpa using he
    have hne2 : (er != 0) = true := by simpa using he
    have HX := Lib.hid (show InvertR c l = (er, []) by unfold InvertR; rw [hx, if_pos he])
    have HB := Lib.hid hb3
    clear hx he hb3
    go_wp2
    go_ret2
    exact ⟨_, by rw [HX.out]; rfl, by rw [HX.out]; exact App.nil _ _ _ _ _, HB.out⟩
  case pos =>
  subst he
  have HX := Lib.hid (show InvertR c l = (0, l.reverse.map invM) by unfold InvertR; rw [hx]; simp)
  clear hx
  go_upto_region 4 with fail
  clear hW3
  have HB := Lib.hid hb3
  clear hb3
  go_wp2
  go_loopw [9, 10, 11] (fun v ix _ wr => ∃ r : Nat, r ≤ l.length ∧ ix = .int .i64 ((r : Int) - 1) ∧ Hid (App (EM0 w) 27 4 W3.heap.size wr v ((l.drop r).reverse.map invM)) ∧ Below W3.heap.size W3 wr) (fun _ ix _ _ => (intOf ix + 1).toNat)
  case atStart => exact ⟨l.length, Nat.le_refl _, by go_num, Lib.hid (by rw [List.drop_length]; exact App.nil _ _ _ _ _), Below.refl _ _⟩
  case round =>
    obtain ⟨r, hr, hi, HO, hB⟩ := hrel
    rename World => wr
    rcases r with _ | j
    · have hi' : u10 = .int .i64 (-1) := by rw [hi]; rfl
      subst hi'
      clear hi
      obtain ⟨ys, hys⟩ : ∃ ys, l.reverse.map invM = ys := ⟨_, rfl⟩
      have HO2 := Lib.hid (show App (EM0 w) 27 4 W3.heap.size wr u9 ys by rw [← hys]; exact HO.out)
      have hyl : ys.length ≤ 1000000 := by rw [← hys]; simpa using hll
      have HY := Lib.hid (show ∀ s ∈ ys, s.wires.length ≤ 1000000 by
        rw [← hys]
        intro s hs
        obtain ⟨x, hx, rfl⟩ := List.mem_map.1 hs
        exact HH.out.2.2 x (List.mem_reverse.1 hx))
      have HX2 := Lib.hid (show InvertR c l = (0, ys) by rw [HX.out, hys])
      clear hys HO HX
      have hbw := HB.out.trans (hB.mono HB.out.size)
      obtain ⟨A6, c6, rfl, _, hrd⟩ := (HO2.out.imp (E' := EM) (Nat.le_refl _) fun x cs h => EM.stays _ _ _ _ hbw h).rd (by omega)
      have HRD := Lib.hid hrd
      clear hrd HO2
      go_wp2_with fail
      refine (rOwnM_any A6 ys.length c6 ys wr HRD.out rfl HY.out hyl).mono ?_
      rintro e w9 ⟨v, rfl, ho, hb⟩
      have HO9 := Lib.hid (And.intro (ho.imp (E' := EMo 3 w.heap.size) hbw.size fun x cs ⟨v, e, hv⟩ => ⟨v, e, hv.imp hbw.size fun _ _ h => h⟩) (hbw.trans (hb.mono hbw.size)))
      clear ho hb
      go_wp2
      go_ret2
      exact ⟨v, by rw [HX2.out]; rfl, by rw [HX2.out]; exact HO9.out.1, HO9.out.2⟩
    · have hi' : u10 = .int .i64 (j : Int) := by rw [hi]; congr 1; omega
      subst hi'
      clear hi
      have hlt : j < l.length := by omega
      obtain ⟨b, o, B2, d2, rfl, g0, g1, g2, g3, hd2, hr2⟩ := HH.out.2.1.move j hlt
      obtain ⟨s, hs⟩ : ∃ s, l[j] = s := ⟨_, rfl⟩
      rw [hs] at g0 g1 g2 g3 hd2 hr2
      have HD := Lib.hid (show (l.drop j).reverse.map invM = (l.drop (j + 1)).reverse.map invM ++ [invM s] by rw [inv_drop _ _ hlt, hs])
      have hbw := HB.out.trans (hB.mono HB.out.size)
      replace g0 := kc hbw g0
      replace g1 := kc hbw g1
      replace g2 := kc hbw g2
      replace g3 := kc hbw g3
      have HR := Lib.hid (And.intro hd2 hr2)
      obtain ⟨xs, hxs⟩ : ∃ xs, (l.drop (j + 1)).reverse.map invM = xs := ⟨_, rfl⟩
      have hxl : xs.length ≤ 1000000 := by rw [← hxs]; simp; omega
      rw [hxs] at HO HD
      obtain ⟨A6, c6, rfl, _⟩ := HO.out.form
      have hv2 : (Value.slice A6 xs.length c6).ownBlock ≠ some wr.heap.size := fun e => by
        rcases HO.out.block with h | ⟨k', h, _, h'⟩
        · rw [h] at e; cases e
        · rw [h] at e; cases e; omega
      have hold := olds wr
      have lg := cell_lt g0
      clear hs hd2 hr2 hxs
      go_upto_region 9 with fail
      obtain ⟨V1, hV⟩ : ∃ V, wr.alloc (.cells #[.int .i64 s.rule, .int .i64 s.at_, .bool s.back, .slice B2 s.wires.length d2] 27) = V := ⟨_, rfl⟩
      have hb1 : Below wr.heap.size wr V1 := by rw [← hV]; exact bl
      have x1 : V1.heap[wr.heap.size]? = some (.cells #[.int .i64 s.rule, .int .i64 s.at_, .bool s.back, .slice B2 s.wires.length d2] 27 (0, 0)) := by rw [← hV]; exact blk_alloc _ _ _ rfl
      rw [hV]
      clear hV g0 g1 g2 g3 lg hold
      have hB4 := hB.trans (hb1.mono hB.size)
      have HI4 := Lib.hid (HO.out.below (EM0.stays _) hb1)
      have hz := hB.size
      clear HO hb1
      obtain ⟨b0, b1, b2, b3, bf⟩ := cells4 x1
      have lb := blk_lt x1
      have HX1 := Lib.hid x1
      clear x1
      obtain ⟨bk, hbk⟩ : ∃ bk, ((s.rule != 43) && !s.back) = bk := ⟨_, rfl⟩
      have HBK := Lib.hid (show invM s = { s with back := bk } by unfold invM; rw [hbk])
      obtain ⟨q, hq⟩ : ∃ q, (s.rule != 43) = q := ⟨_, rfl⟩
      rw [hq] at hbk
      have hor : q = false ∧ false = bk ∨ q = true ∧ (!s.back) = bk := by
        cases q
        · exact .inl ⟨rfl, by rw [← hbk]; rfl⟩
        · exact .inr ⟨rfl, by rw [← hbk]; simp⟩
      clear hbk
      rcases hor with ⟨h43, rfl⟩ | ⟨h43, rfl⟩
      · subst h43
        go_upto_region 10 with fail
        generalize hV2 : V1.setCell ⟨wr.heap.size, 2, none⟩ (.bool false) = V2
        have x2 : V2.heap[wr.heap.size]? = some (.cells #[.int .i64 s.rule, .int .i64 s.at_, .bool false, .slice B2 s.wires.length d2] 27 (0, 0)) := by rw [← hV2]; exact heap_setCell_same _ _ 2 _ _ _ HX1.out
        have ha2 : App (EM0 w) 27 4 W3.heap.size V2 (.slice A6 xs.length c6) xs := by rw [← hV2]; exact HI4.out.setNe hv2 fun _ _ h => h
        have hb2 : Below W3.heap.size W3 V2 := by rw [← hV2]; exact hB4.setCell (by simp; omega) _
        clear hV2 b0 b1 b2 b3 bf lb HI4 HX1
        obtain ⟨b0, b1, b2, b3, bf⟩ := cells4 x2
        have lb := blk_lt x2
        have hold := olds V2
        have HA := Lib.hid ha2
        clear x2 ha2
        go_wp2_with (at_builtin; refine wp_app (E := EM0 w) (W := V2) 27 4 W3.heap.size rfl _ _ 30 (.agg #[.int .i64 0, .int .i64 0, .bool false, .slice none 0 0]) 48 rfl Tryz.underlying30 (by kernel_rfl) rfl (by decide) (by decide) (.slice A6 xs.length c6) xs (invM s) [.int .i64 s.rule, .int .i64 s.at_, .bool false, .slice B2 s.wires.length d2] rfl rfl rfl (by simp [Value.oneCell']) (by rw [HBK.out]; exact ⟨B2, d2, rfl, HR.out.1, HR.out.2⟩) HA.out (by omega) (by omega) (fun _ _ _ _ _ _ _ h => h) ?_; intro v7 w7 ho7 hg7; have HO7 := Lib.hid (And.intro ho7 (HA.out.grows hg7 hb2 (Nat.le_refl _) (by omega))); clear ho7 hg7)
        go_roundw
        case rel => exact ⟨j, by omega, by go_num, Lib.hid (by rw [HD.out]; exact HO7.out.1), HO7.out.2⟩
        case measure => simp [intOf]
      · subst h43
        go_upto_region 10 with fail
        generalize hV2 : V1.setCell ⟨wr.heap.size, 2, none⟩ (.bool (!s.back)) = V2
        have x2 : V2.heap[wr.heap.size]? = some (.cells #[.int .i64 s.rule, .int .i64 s.at_, .bool (!s.back), .slice B2 s.wires.length d2] 27 (0, 0)) := by rw [← hV2]; exact heap_setCell_same _ _ 2 _ _ _ HX1.out
        have ha2 : App (EM0 w) 27 4 W3.heap.size V2 (.slice A6 xs.length c6) xs := by rw [← hV2]; exact HI4.out.setNe hv2 fun _ _ h => h
        have hb2 : Below W3.heap.size W3 V2 := by rw [← hV2]; exact hB4.setCell (by simp; omega) _
        clear hV2 b0 b1 b2 b3 bf lb HI4 HX1
        obtain ⟨b0, b1, b2, b3, bf⟩ := cells4 x2
        have lb := blk_lt x2
        have hold := olds V2
        have HA := Lib.hid ha2
        clear x2 ha2
        go_wp2_with (at_builtin; refine wp_app (E := EM0 w) (W := V2) 27 4 W3.heap.size rfl _ _ 30 (.agg #[.int .i64 0, .int .i64 0, .bool false, .slice none 0 0]) 48 rfl Tryz.underlying30 (by kernel_rfl) rfl (by decide) (by decide) (.slice A6 xs.length c6) xs (invM s) [.int .i64 s.rule, .int .i64 s.at_, .bool (!s.back), .slice B2 s.wires.length d2] rfl rfl rfl (by simp [Value.oneCell']) (by rw [HBK.out]; exact ⟨B2, d2, rfl, HR.out.1, HR.out.2⟩) HA.out (by omega) (by omega) (fun _ _ _ _ _ _ _ h => h) ?_; intro v7 w7 ho7 hg7; have HO7 := Lib.hid (And.intro ho7 (HA.out.grows hg7 hb2 (Nat.le_refl _) (by omega))); clear ho7 hg7)
        go_roundw
        case rel => exact ⟨j, by omega, by go_num, Lib.hid (by rw [HD.out]; exact HO7.out.1), HO7.out.2⟩
        case measure => simp [intOf]
end Go.Proofs.YtfommmijojfdbaaGreatDoor
