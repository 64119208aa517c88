/- The law RulesSmall: what its calls answer; its own function. -/
import Derived.Test.YtfommmijojfdbaaGreatDoorAW
set_option linter.all false
namespace Go.Proofs.YtfommmijojfdbaaGreatDoor
open Go.RowKit

def smA : C := ⟨1, 0, [gt 5 [0], gt 5 [0]]⟩
def smB : C := ⟨2, 0, [gt 9 [0, 1], gt 9 [1, 0], gt 9 [0, 1], gt 11 [1, 0]]⟩
def smP : C := ⟨1, 0, [gt 1 [0], gt 7 [0]]⟩
def smE (n : Int) : C := ⟨n, 0, []⟩
def smN (k : Nat) : C := ⟨1, 0, List.replicate k (gt 7 [0])⟩
def smM : C := ⟨1, 1, [gt 13 [0]]⟩
def smL : List M := [⟨12, 0, false, [0]⟩]
def smK : List M := [⟨0, 0, true, [0]⟩, ⟨0, 1, true, [0]⟩, ⟨0, 2, true, [0]⟩]
def smS : List M := [⟨36, 0, false, [0, 1]⟩]
theorem sm_steps : StepsR smA 12 false = (0, smL) := by decide +kernel
theorem sm_back : StepsR smA 0 true = (0, smK) := by decide +kernel
theorem sm_short : ShortenR smB = (0, smS) := by decide +kernel
theorem sm_43 : StepsR smP 43 true = (7, []) := by decide +kernel
theorem sm_44 : StepsR smP 44 false = (1, []) := by decide +kernel
theorem sm_check : CheckR smP [] (smE 1) = (0, 14) := by decide +kernel
theorem sm_search1 : SearchR (smE 4) (smE 4) 1 = (8, []) := by decide +kernel
theorem sm_search3 : SearchR smP smP 3 = (3, []) := by decide +kernel
theorem sm_search6 : SearchR smP (smE 1) 1 = (6, []) := by decide +kernel
theorem sm_search7 : SearchR smP (smE 2) 1 = (7, []) := by decide +kernel
theorem sm_shortM : ShortenR smM = (7, []) := by decide +kernel
theorem sm_t0 : (ApplyR zeroC ⟨0, 0, false, [0]⟩).1 = 3 := by decide +kernel
theorem sm_t1 : (ApplyR smM ⟨0, 0, true, [0]⟩).1 = 7 := by decide +kernel
theorem sm_t2 : (ApplyR smP ⟨44, 0, false, []⟩).1 = 1 := by decide +kernel
theorem sm_t3 : (ApplyR smP ⟨0, 3, true, [0]⟩).1 = 3 := by decide +kernel
theorem sm_t4 : (ApplyR smP ⟨0, 0, true, []⟩).1 = 2 := by decide +kernel
theorem sm_t5 : (ApplyR smP ⟨0, 0, true, [1]⟩).1 = 1 := by decide +kernel
theorem sm_t6 : (ApplyR (smE 2) ⟨8, 0, true, [1, 1]⟩).1 = 5 := by decide +kernel
theorem sm_t7 : (ApplyR smP ⟨43, 0, true, []⟩).1 = 7 := by decide +kernel
theorem sm_t8 : (ApplyR smP ⟨43, 0, false, [0]⟩).1 = 2 := by decide +kernel
theorem sm_t9 : (ApplyR smP ⟨43, 0, false, []⟩).1 = 6 := by decide +kernel
theorem sm_t10 : (ApplyR smP ⟨43, 1, false, []⟩).1 = 6 := by decide +kernel
theorem sm_t11 : (ApplyR smP ⟨26, 0, true, [0]⟩).1 = 6 := by decide +kernel
theorem sm_t12 : (ApplyR (smN 119) ⟨0, 0, true, [0]⟩).1 = 11 := by decide +kernel
def smZ : List M := List.replicate 401 ⟨0, 0, false, []⟩
theorem smZ_len : smZ.length = 401 := List.length_replicate ..
theorem sm_follow : (FollowR smP smZ).1 = 2 := by decide +kernel
/-- A row's part at a place. -/
theorem RdM.pick {W : World} {A : Option Addr} {l : List M} (h : RdM W A l) (k : Nat) {s : M} (hk : l[k]? = some s := by rfl) : ∃ b o, A = some ⟨b, o, none⟩ ∧ W.cell? ⟨b, o + k * 4, none⟩ = some (.int .i64 s.rule) ∧ W.cell? ⟨b, o + k * 4 + 1, none⟩ = some (.int .i64 s.at_) := by
  obtain ⟨b, o, cs, e, ⟨A2, c2, rfl, _⟩, _, hcs⟩ := h.2 k s hk
  exact ⟨b, o, e, by simpa using hcs 0 _ rfl, by simpa using hcs 1 _ rfl⟩
set_option maxRecDepth 100000 in
set_option maxHeartbeats 4000000 in
theorem try_any (A B : Option Addr) (k d n : Nat) (c : C) (r a : Int) (back : Bool) (ws : List Int) (w : World) (HT : Hid (Laid w)) (h : RdG w A c.gates) (hk : c.gates.length ≤ k) (h' : RdI w B ws) (hn : ws.length = n) :
    Calls Tryz.prog 38 #[.agg #[.int .i64 c.wires, .int .i64 c.bits, .slice A c.gates.length k], .int .i64 r, .int .i64 a, .bool back, .slice B n d] w fun e w' => e = .returned (.int .i64 (ApplyR c ⟨r, a, back, ws⟩).1) ∧ Below w.heap.size w w' := by
  subst hn
  have HF := Lib.hid (((AllF.nil w).push (.bel w) (Below.refl _ _)).push (.g A c.gates) h)
  have HI := Lib.hid h'
  clear h h'
  go_enter Tryz.func38, Tryz.ntmps38
  go_upto_region 1 with fail
  generalize hV : World.alloc w _ = W1
  replace HF := Lib.hid (HF.out.al hV)
  clear hV
  obtain ⟨k0, k1, k2, kf, lk⟩ := HF.out.i3 0
  have hc := Apply_any A B k d c ⟨r, a, back, ws⟩ W1 (Lib.hid (HT.out.below (HF.out.iB 2))) (HF.out.iG 1) hk (HI.out.bI (HF.out.iB 2))
  obtain ⟨⟨er, cc, ph⟩, hx⟩ : ∃ x, ApplyR c ⟨r, a, back, ws⟩ = x := ⟨_, rfl⟩
  rw [hx] at hc
  have HX := Lib.hid (show (ApplyR c ⟨r, a, back, ws⟩).1 = er by rw [hx])
  clear hx
  go_wp2_with fail
  refine hc.mono ?_
  clear hc
  rintro e w2 ⟨v, rfl, ho, hb⟩
  obtain ⟨A9, c9, rfl, _⟩ := ho.form'
  replace HF := Lib.hid (HF.out.step hb)
  clear ho hb k0 k1 k2 kf lk
  go_wp2
  go_ret
  exact ⟨ret_int HX.out.symm, (HF.out.iB 2).trans ((bl : Below _ w2 _).mono (HF.out.iB 2).size)⟩
end Go.Proofs.YtfommmijojfdbaaGreatDoor
