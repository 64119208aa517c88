/- Short words for walks of drawn regions with guards. -/
import Derived.Test.YtfommmijojfdbaaGreatDoorSB
set_option linter.all false
namespace Go.Proofs.YtfommmijojfdbaaGreatDoor
open Go.RowKit

section
variable {P : Program} {ops : Array Oper}
theorem ST.qg {Q : Act → World → Prop} {i : Nat} {t : Ord_} {ls : List (Nat × Value)} {a : Act} {w : World} {o : Oper} {v : Value} {tl : List Oper} (h : ST P ops Q t ls (a.put o.dst v) w) (ho : ops.toList.drop i = o :: tl := by rfl) (hk : kindOp o.op = 0 := by rfl) (hw : Region.wanted o (yielded ops a.tmps) = true := by first|rfl|(simp [Region.wanted, yielded, *] <;> fail))
    (hv : ∀ W, (execOp a.eval o).run P W = .ok (.value v) W := by intro _; first|(go_simp;done)|(go_simp;with_reducible rfl)) : ST P ops Q (.op i t) ls a w := ST.p ho hk hw hv h
theorem ST.mg {Q : Act → World → Prop} {i : Nat} {t : Ord_} {ls : List (Nat × Value)} {a : Act} {w : World} {o : Oper} {v : Value} {tl : List Oper} (h : ST P ops Q t ((i, v) :: ls) (a.put o.dst v) w) (ho : ops.toList.drop i = o :: tl := by rfl) (hk : kindOp o.op = 1 := by rfl) (hw : Region.wanted o (yielded ops a.tmps) = true := by first|rfl|(simp [Region.wanted, yielded, *] <;> fail))
    (hv : (execOp a.eval o).run P w = .ok (.value v) w := by first|(go_simp;done)|(go_simp;with_reducible rfl)) : ST P ops Q (.op i t) ls a w := ST.l ho hk hw hv h
theorem ST.ng {Q : Act → World → Prop} {i : Nat} {t : Ord_} {ls : List (Nat × Value)} {a : Act} {w : World} {o : Oper} {tl : List Oper} (h : ST P ops Q t ls (a.put o.dst undef) w) (ho : ops.toList.drop i = o :: tl := by rfl) (hw : Region.wanted o (yielded ops a.tmps) = false := by first|rfl|(simp [Region.wanted, yielded, *] <;> fail)) : ST P ops Q (.op i t) ls a w := ST.s ho hw h
end
end Go.Proofs.YtfommmijojfdbaaGreatDoor
