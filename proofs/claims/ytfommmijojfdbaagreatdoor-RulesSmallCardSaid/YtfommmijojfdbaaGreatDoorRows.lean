/-
  NARROWER THAN 'FOR EVERY INPUT', by the rows' own cells (each row's printed sentence says how): RulesApplies: laid · RulesSteps: laid · RulesChains: laid · RulesShortens: laid · RulesSearches: laid · RulesSmall: laid · RulesGiven: laid · RulesBack: laid · RulesFound: laid · RulesAll: laid.
  DERIVED. THE GIVEN ROWS OF THIS SEAT. 10 by the template 'for every input the law returns true; each argument reads behind the call as it read before'; 0 by the template 'total and deterministic' (their statements: YtfommmijojfdbaaGreatDoorTotals.lean).
  GIVEN WITH THE SEED: the statements are not yours to turn. If you find one false, say at which input.
  Laid BY PROGRAM, IN A SANDBOX (cutbox-rows.mjs): the forced cells as the released guide's own fill.sh prints them over the translation 0b92ec7f58c83d2d… (all of the seat's roots in one cut). By AI agents, Wed Nov 11 2026. No macro, syntax, notation, axiom, sorry.
-/
import Derived.Test.YtfommmijojfdbaaGreatDoorChecked
import GoSem.Claim
import GoSem.ClaimJoined
import GoSem.ClaimMapViews
import Derived.JoinedTies
import Derived.KernelRfl
namespace Go.Proofs.YtfommmijojfdbaaGreatDoor
/- THE CELL 'sum', in the pinned program and in every row, IS THE sha256 OF THE DUMP (.gsa) THAT YtfommmijojfdbaaGreatDoorProg.lean LOADS. Nothing in Lean hashes anything: it is a label: what it is worth is what the hold of that sum in a sandbox is worth. -/
noncomputable def Tryz.pinned : Pinned := { name := "ytfommmijojfdbaagreatdoor", sum := "0b92ec7f58c83d2d15263909f83f0f0d2c82d16bd3a1a3c5799572f7880515ab", checked := Tryz.checked }
namespace Rows
def none {H : Type} : Left H := { results := [], args := [] }

/- WHAT THE LISTED PACKAGE-LEVEL VARIABLES READ AS WHEN THE CALL BEGINS. Each datum BY PROGRAM (the guide's laid-datum.mjs) off the statement by which the dump's own 'gosem.cut.vars' lays the variable. In a bare row this is a premise. The card (YtfommmijojfdbaaGreatDoorCards.lean) ties it to the program's text. -/
def laid_unicode_White_Space {H : Type} : DataW H := .ptr (.agg [.slice [.agg [.lit (.int .u16 9), .lit (.int .u16 13), .lit (.int .u16 1)], .agg [.lit (.int .u16 32), .lit (.int .u16 133), .lit (.int .u16 101)], .agg [.lit (.int .u16 160), .lit (.int .u16 5760), .lit (.int .u16 5600)], .agg [.lit (.int .u16 8192), .lit (.int .u16 8202), .lit (.int .u16 1)], .agg [.lit (.int .u16 8232), .lit (.int .u16 8233), .lit (.int .u16 1)], .agg [.lit (.int .u16 8239), .lit (.int .u16 8287), .lit (.int .u16 48)], .agg [.lit (.int .u16 12288), .lit (.int .u16 12288), .lit (.int .u16 1)]] [], .nil, .lit (.int .i64 2)])
def laid_strings_asciiSpace {H : Type} : DataW H := .agg [.lit (.int .u8 0), .lit (.int .u8 0), .lit (.int .u8 0), .lit (.int .u8 0), .lit (.int .u8 0), .lit (.int .u8 0), .lit (.int .u8 0), .lit (.int .u8 0), .lit (.int .u8 0), .lit (.int .u8 1), .lit (.int .u8 1), .lit (.int .u8 1), .lit (.int .u8 1), .lit (.int .u8 1), .lit (.int .u8 0), .lit (.int .u8 0), .lit (.int .u8 0), .lit (.int .u8 0), .lit (.int .u8 0), .lit (.int .u8 0), .lit (.int .u8 0), .lit (.int .u8 0), .lit (.int .u8 0), .lit (.int .u8 0), .lit (.int .u8 0), .lit (.int .u8 0), .lit (.int .u8 0), .lit (.int .u8 0), .lit (.int .u8 0), .lit (.int .u8 0), .lit (.int .u8 0), .lit (.int .u8 0), .lit (.int .u8 1), .lit (.int .u8 0), .lit (.int .u8 0), .lit (.int .u8 0), .lit (.int .u8 0), .lit (.int .u8 0), .lit (.int .u8 0), .lit (.int .u8 0), .lit (.int .u8 0), .lit (.int .u8 0), .lit (.int .u8 0), .lit (.int .u8 0), .lit (.int .u8 0), .lit (.int .u8 0), .lit (.int .u8 0), .lit (.int .u8 0), .lit (.int .u8 0), .lit (.int .u8 0), .lit (.int .u8 0), .lit (.int .u8 0), .lit (.int .u8 0), .lit (.int .u8 0), .lit (.int .u8 0), .lit (.int .u8 0), .lit (.int .u8 0), .lit (.int .u8 0), .lit (.int .u8 0), .lit (.int .u8 0), .lit (.int .u8 0), .lit (.int .u8 0), .lit (.int .u8 0), .lit (.int .u8 0), .lit (.int .u8 0), .lit (.int .u8 0), .lit (.int .u8 0), .lit (.int .u8 0), .lit (.int .u8 0), .lit (.int .u8 0), .lit (.int .u8 0), .lit (.int .u8 0), .lit (.int .u8 0), .lit (.int .u8 0), .lit (.int .u8 0), .lit (.int .u8 0), .lit (.int .u8 0), .lit (.int .u8 0), .lit (.int .u8 0), .lit (.int .u8 0), .lit (.int .u8 0), .lit (.int .u8 0), .lit (.int .u8 0), .lit (.int .u8 0), .lit (.int .u8 0), .lit (.int .u8 0), .lit (.int .u8 0), .lit (.int .u8 0), .lit (.int .u8 0), .lit (.int .u8 0), .lit (.int .u8 0), .lit (.int .u8 0), .lit (.int .u8 0), .lit (.int .u8 0), .lit (.int .u8 0), .lit (.int .u8 0), .lit (.int .u8 0), .lit (.int .u8 0), .lit (.int .u8 0), .lit (.int .u8 0), .lit (.int .u8 0), .lit (.int .u8 0), .lit (.int .u8 0), .lit (.int .u8 0), .lit (.int .u8 0), .lit (.int .u8 0), .lit (.int .u8 0), .lit (.int .u8 0), .lit (.int .u8 0), .lit (.int .u8 0), .lit (.int .u8 0), .lit (.int .u8 0), .lit (.int .u8 0), .lit (.int .u8 0), .lit (.int .u8 0), .lit (.int .u8 0), .lit (.int .u8 0), .lit (.int .u8 0), .lit (.int .u8 0), .lit (.int .u8 0), .lit (.int .u8 0), .lit (.int .u8 0), .lit (.int .u8 0), .lit (.int .u8 0), .lit (.int .u8 0), .lit (.int .u8 0), .lit (.int .u8 0), .lit (.int .u8 0), .lit (.int .u8 0), .lit (.int .u8 0), .lit (.int .u8 0), .lit (.int .u8 0), .lit (.int .u8 0), .lit (.int .u8 0), .lit (.int .u8 0), .lit (.int .u8 0), .lit (.int .u8 0), .lit (.int .u8 0), .lit (.int .u8 0), .lit (.int .u8 0), .lit (.int .u8 0), .lit (.int .u8 0), .lit (.int .u8 0), .lit (.int .u8 0), .lit (.int .u8 0), .lit (.int .u8 0), .lit (.int .u8 0), .lit (.int .u8 0), .lit (.int .u8 0), .lit (.int .u8 0), .lit (.int .u8 0), .lit (.int .u8 0), .lit (.int .u8 0), .lit (.int .u8 0), .lit (.int .u8 0), .lit (.int .u8 0), .lit (.int .u8 0), .lit (.int .u8 0), .lit (.int .u8 0), .lit (.int .u8 0), .lit (.int .u8 0), .lit (.int .u8 0), .lit (.int .u8 0), .lit (.int .u8 0), .lit (.int .u8 0), .lit (.int .u8 0), .lit (.int .u8 0), .lit (.int .u8 0), .lit (.int .u8 0), .lit (.int .u8 0), .lit (.int .u8 0), .lit (.int .u8 0), .lit (.int .u8 0), .lit (.int .u8 0), .lit (.int .u8 0), .lit (.int .u8 0), .lit (.int .u8 0), .lit (.int .u8 0), .lit (.int .u8 0), .lit (.int .u8 0), .lit (.int .u8 0), .lit (.int .u8 0), .lit (.int .u8 0), .lit (.int .u8 0), .lit (.int .u8 0), .lit (.int .u8 0), .lit (.int .u8 0), .lit (.int .u8 0), .lit (.int .u8 0), .lit (.int .u8 0), .lit (.int .u8 0), .lit (.int .u8 0), .lit (.int .u8 0), .lit (.int .u8 0), .lit (.int .u8 0), .lit (.int .u8 0), .lit (.int .u8 0), .lit (.int .u8 0), .lit (.int .u8 0), .lit (.int .u8 0), .lit (.int .u8 0), .lit (.int .u8 0), .lit (.int .u8 0), .lit (.int .u8 0), .lit (.int .u8 0), .lit (.int .u8 0), .lit (.int .u8 0), .lit (.int .u8 0), .lit (.int .u8 0), .lit (.int .u8 0), .lit (.int .u8 0), .lit (.int .u8 0), .lit (.int .u8 0), .lit (.int .u8 0), .lit (.int .u8 0), .lit (.int .u8 0), .lit (.int .u8 0), .lit (.int .u8 0), .lit (.int .u8 0), .lit (.int .u8 0), .lit (.int .u8 0), .lit (.int .u8 0), .lit (.int .u8 0), .lit (.int .u8 0), .lit (.int .u8 0), .lit (.int .u8 0), .lit (.int .u8 0), .lit (.int .u8 0), .lit (.int .u8 0), .lit (.int .u8 0), .lit (.int .u8 0), .lit (.int .u8 0), .lit (.int .u8 0), .lit (.int .u8 0), .lit (.int .u8 0), .lit (.int .u8 0), .lit (.int .u8 0), .lit (.int .u8 0), .lit (.int .u8 0), .lit (.int .u8 0), .lit (.int .u8 0), .lit (.int .u8 0), .lit (.int .u8 0), .lit (.int .u8 0), .lit (.int .u8 0), .lit (.int .u8 0), .lit (.int .u8 0), .lit (.int .u8 0), .lit (.int .u8 0), .lit (.int .u8 0), .lit (.int .u8 0), .lit (.int .u8 0), .lit (.int .u8 0), .lit (.int .u8 0), .lit (.int .u8 0), .lit (.int .u8 0)]
def laid_spoondrift_rules_unbound {H : Type} : DataW H := .agg [.lit (.int .i64 (-1)), .lit (.int .i64 (-1)), .lit (.int .i64 (-1))]
def laid_spoondrift_spoondriftlaw19_kinds {H : Type} : DataW H := .slice [.lit (.int .i64 1), .lit (.int .i64 3), .lit (.int .i64 4), .lit (.int .i64 5), .lit (.int .i64 7), .lit (.int .i64 9), .lit (.int .i64 9), .lit (.int .i64 10), .lit (.int .i64 11), .lit (.int .i64 6), .lit (.int .i64 8), .lit (.int .i64 4), .lit (.int .i64 2), .lit (.int .i64 1), .lit (.int .i64 12)] []

/-- 'spoondriftlaw19.RulesApplies': WHATEVER THE INPUT: true; the input reads as it did. -/
def rulesAppliesSpec : ChangeSpec := { name := "rulesApplies", fn := fun _ => fun
  | [d1, d2] => { results := [.lit (.bool true)], args := [d1, d2] }
  | _ => none }
def rulesAppliesRow : OpenClaim := { program := "ytfommmijojfdbaagreatdoor", sum := "0b92ec7f58c83d2d15263909f83f0f0d2c82d16bd3a1a3c5799572f7880515ab", func := "spoondrift/spoondriftlaw19.RulesApplies", spec := "rulesApplies", unfollowed := true, recurses := true, named := ["strings.asciiSpace", "unicode.White_Space", "spoondrift/rules.unbound"], apart := false, laid := [("unicode.White_Space", laid_unicode_White_Space), ("strings.asciiSpace", laid_strings_asciiSpace), ("spoondrift/rules.unbound", laid_spoondrift_rules_unbound)] }
def RulesAppliesSaid : Prop := rulesAppliesRow.holds Tryz.pinned (OpenSpec.ofChange rulesAppliesSpec)

/-- ITS FALSE NEIGHBOUR: 'it returns false'. Refute it at one input. -/
def rulesAppliesWrong : ChangeSpec := { name := "rulesApplies", fn := fun _ => fun
  | [d1, d2] => { results := [.lit (.bool false)], args := [d1, d2] }
  | _ => none }
def RulesAppliesWrongFalsely : Prop := rulesAppliesRow.holds Tryz.pinned (OpenSpec.ofChange rulesAppliesWrong)

/-- 'spoondriftlaw19.RulesSteps': WHATEVER THE INPUT: true; the input reads as it did. -/
def rulesStepsSpec : ChangeSpec := { name := "rulesSteps", fn := fun _ => fun
  | [d1, d2, d3] => { results := [.lit (.bool true)], args := [d1, d2, d3] }
  | _ => none }
def rulesStepsRow : OpenClaim := { program := "ytfommmijojfdbaagreatdoor", sum := "0b92ec7f58c83d2d15263909f83f0f0d2c82d16bd3a1a3c5799572f7880515ab", func := "spoondrift/spoondriftlaw19.RulesSteps", spec := "rulesSteps", unfollowed := true, recurses := true, named := ["strings.asciiSpace", "unicode.White_Space", "spoondrift/rules.unbound"], apart := false, laid := [("unicode.White_Space", laid_unicode_White_Space), ("strings.asciiSpace", laid_strings_asciiSpace), ("spoondrift/rules.unbound", laid_spoondrift_rules_unbound)] }
def RulesStepsSaid : Prop := rulesStepsRow.holds Tryz.pinned (OpenSpec.ofChange rulesStepsSpec)

/-- ITS FALSE NEIGHBOUR: 'it returns false'. Refute it at one input. -/
def rulesStepsWrong : ChangeSpec := { name := "rulesSteps", fn := fun _ => fun
  | [d1, d2, d3] => { results := [.lit (.bool false)], args := [d1, d2, d3] }
  | _ => none }
def RulesStepsWrongFalsely : Prop := rulesStepsRow.holds Tryz.pinned (OpenSpec.ofChange rulesStepsWrong)

/-- 'spoondriftlaw19.RulesChains': WHATEVER THE INPUT: true; the input reads as it did. -/
def rulesChainsSpec : ChangeSpec := { name := "rulesChains", fn := fun _ => fun
  | [d1, d2, d3] => { results := [.lit (.bool true)], args := [d1, d2, d3] }
  | _ => none }
def rulesChainsRow : OpenClaim := { program := "ytfommmijojfdbaagreatdoor", sum := "0b92ec7f58c83d2d15263909f83f0f0d2c82d16bd3a1a3c5799572f7880515ab", func := "spoondrift/spoondriftlaw19.RulesChains", spec := "rulesChains", unfollowed := true, recurses := true, named := ["strings.asciiSpace", "unicode.White_Space", "spoondrift/rules.unbound"], apart := false, laid := [("unicode.White_Space", laid_unicode_White_Space), ("strings.asciiSpace", laid_strings_asciiSpace), ("spoondrift/rules.unbound", laid_spoondrift_rules_unbound)] }
def RulesChainsSaid : Prop := rulesChainsRow.holds Tryz.pinned (OpenSpec.ofChange rulesChainsSpec)

/-- ITS FALSE NEIGHBOUR: 'it returns false'. Refute it at one input. -/
def rulesChainsWrong : ChangeSpec := { name := "rulesChains", fn := fun _ => fun
  | [d1, d2, d3] => { results := [.lit (.bool false)], args := [d1, d2, d3] }
  | _ => none }
def RulesChainsWrongFalsely : Prop := rulesChainsRow.holds Tryz.pinned (OpenSpec.ofChange rulesChainsWrong)

/-- 'spoondriftlaw19.RulesShortens': WHATEVER THE INPUT: true; the input reads as it did. -/
def rulesShortensSpec : ChangeSpec := { name := "rulesShortens", fn := fun _ => fun
  | [d] => { results := [.lit (.bool true)], args := [d] }
  | _ => none }
def rulesShortensRow : OpenClaim := { program := "ytfommmijojfdbaagreatdoor", sum := "0b92ec7f58c83d2d15263909f83f0f0d2c82d16bd3a1a3c5799572f7880515ab", func := "spoondrift/spoondriftlaw19.RulesShortens", spec := "rulesShortens", unfollowed := true, recurses := true, named := ["strings.asciiSpace", "unicode.White_Space", "spoondrift/rules.unbound"], apart := false, laid := [("unicode.White_Space", laid_unicode_White_Space), ("strings.asciiSpace", laid_strings_asciiSpace), ("spoondrift/rules.unbound", laid_spoondrift_rules_unbound)] }
def RulesShortensSaid : Prop := rulesShortensRow.holds Tryz.pinned (OpenSpec.ofChange rulesShortensSpec)

/-- ITS FALSE NEIGHBOUR: 'it returns false'. Refute it at one input. -/
def rulesShortensWrong : ChangeSpec := { name := "rulesShortens", fn := fun _ => fun
  | [d] => { results := [.lit (.bool false)], args := [d] }
  | _ => none }
def RulesShortensWrongFalsely : Prop := rulesShortensRow.holds Tryz.pinned (OpenSpec.ofChange rulesShortensWrong)

/-- 'spoondriftlaw19.RulesSearches': WHATEVER THE INPUT: true; the input reads as it did. -/
def rulesSearchesSpec : ChangeSpec := { name := "rulesSearches", fn := fun _ => fun
  | [d1, d2, d3] => { results := [.lit (.bool true)], args := [d1, d2, d3] }
  | _ => none }
def rulesSearchesRow : OpenClaim := { program := "ytfommmijojfdbaagreatdoor", sum := "0b92ec7f58c83d2d15263909f83f0f0d2c82d16bd3a1a3c5799572f7880515ab", func := "spoondrift/spoondriftlaw19.RulesSearches", spec := "rulesSearches", unfollowed := true, recurses := true, named := ["strings.asciiSpace", "unicode.White_Space", "spoondrift/rules.unbound"], apart := false, laid := [("unicode.White_Space", laid_unicode_White_Space), ("strings.asciiSpace", laid_strings_asciiSpace), ("spoondrift/rules.unbound", laid_spoondrift_rules_unbound)] }
def RulesSearchesSaid : Prop := rulesSearchesRow.holds Tryz.pinned (OpenSpec.ofChange rulesSearchesSpec)

/-- ITS FALSE NEIGHBOUR: 'it returns false'. Refute it at one input. -/
def rulesSearchesWrong : ChangeSpec := { name := "rulesSearches", fn := fun _ => fun
  | [d1, d2, d3] => { results := [.lit (.bool false)], args := [d1, d2, d3] }
  | _ => none }
def RulesSearchesWrongFalsely : Prop := rulesSearchesRow.holds Tryz.pinned (OpenSpec.ofChange rulesSearchesWrong)

/-- 'spoondriftlaw19.RulesSmall': WHATEVER THE INPUT: true; the input reads as it did. -/
def rulesSmallSpec : ChangeSpec := { name := "rulesSmall", fn := fun _ => fun
  | [] => { results := [.lit (.bool true)], args := [] }
  | _ => none }
def rulesSmallRow : OpenClaim := { program := "ytfommmijojfdbaagreatdoor", sum := "0b92ec7f58c83d2d15263909f83f0f0d2c82d16bd3a1a3c5799572f7880515ab", func := "spoondrift/spoondriftlaw19.RulesSmall", spec := "rulesSmall", unfollowed := true, recurses := true, named := ["strings.asciiSpace", "unicode.White_Space", "spoondrift/rules.unbound"], apart := false, laid := [("unicode.White_Space", laid_unicode_White_Space), ("strings.asciiSpace", laid_strings_asciiSpace), ("spoondrift/rules.unbound", laid_spoondrift_rules_unbound)] }
def RulesSmallSaid : Prop := rulesSmallRow.holds Tryz.pinned (OpenSpec.ofChange rulesSmallSpec)

/-- ITS FALSE NEIGHBOUR: 'it returns false'. Refute it at one input. -/
def rulesSmallWrong : ChangeSpec := { name := "rulesSmall", fn := fun _ => fun
  | [] => { results := [.lit (.bool false)], args := [] }
  | _ => none }
def RulesSmallWrongFalsely : Prop := rulesSmallRow.holds Tryz.pinned (OpenSpec.ofChange rulesSmallWrong)

/-- 'spoondriftlaw19.RulesGiven': WHATEVER THE INPUT: true; the input reads as it did. -/
def rulesGivenSpec : ChangeSpec := { name := "rulesGiven", fn := fun _ => fun
  | [d1, d2, d3] => { results := [.lit (.bool true)], args := [d1, d2, d3] }
  | _ => none }
def rulesGivenRow : OpenClaim := { program := "ytfommmijojfdbaagreatdoor", sum := "0b92ec7f58c83d2d15263909f83f0f0d2c82d16bd3a1a3c5799572f7880515ab", func := "spoondrift/spoondriftlaw19.RulesGiven", spec := "rulesGiven", unfollowed := true, recurses := true, named := ["strings.asciiSpace", "unicode.White_Space", "spoondrift/rules.unbound"], apart := false, laid := [("unicode.White_Space", laid_unicode_White_Space), ("strings.asciiSpace", laid_strings_asciiSpace), ("spoondrift/rules.unbound", laid_spoondrift_rules_unbound)] }
def RulesGivenSaid : Prop := rulesGivenRow.holds Tryz.pinned (OpenSpec.ofChange rulesGivenSpec)

/-- ITS FALSE NEIGHBOUR: 'it returns false'. Refute it at one input. -/
def rulesGivenWrong : ChangeSpec := { name := "rulesGiven", fn := fun _ => fun
  | [d1, d2, d3] => { results := [.lit (.bool false)], args := [d1, d2, d3] }
  | _ => none }
def RulesGivenWrongFalsely : Prop := rulesGivenRow.holds Tryz.pinned (OpenSpec.ofChange rulesGivenWrong)

/-- 'spoondriftlaw19.RulesBack': WHATEVER THE INPUT: true; the input reads as it did. -/
def rulesBackSpec : ChangeSpec := { name := "rulesBack", fn := fun _ => fun
  | [d1, d2, d3] => { results := [.lit (.bool true)], args := [d1, d2, d3] }
  | _ => none }
def rulesBackRow : OpenClaim := { program := "ytfommmijojfdbaagreatdoor", sum := "0b92ec7f58c83d2d15263909f83f0f0d2c82d16bd3a1a3c5799572f7880515ab", func := "spoondrift/spoondriftlaw19.RulesBack", spec := "rulesBack", inPlace := ["slices.overlaps[int]"], unfollowed := true, recurses := true, named := ["spoondrift/spoondriftlaw19.kinds", "strings.asciiSpace", "unicode.White_Space", "spoondrift/rules.unbound"], apart := false, laid := [("unicode.White_Space", laid_unicode_White_Space), ("strings.asciiSpace", laid_strings_asciiSpace), ("spoondrift/rules.unbound", laid_spoondrift_rules_unbound), ("spoondrift/spoondriftlaw19.kinds", laid_spoondrift_spoondriftlaw19_kinds)] }
def RulesBackSaid : Prop := rulesBackRow.holds Tryz.pinned (OpenSpec.ofChange rulesBackSpec)

/-- ITS FALSE NEIGHBOUR: 'it returns false'. Refute it at one input. -/
def rulesBackWrong : ChangeSpec := { name := "rulesBack", fn := fun _ => fun
  | [d1, d2, d3] => { results := [.lit (.bool false)], args := [d1, d2, d3] }
  | _ => none }
def RulesBackWrongFalsely : Prop := rulesBackRow.holds Tryz.pinned (OpenSpec.ofChange rulesBackWrong)

/-- 'spoondriftlaw19.RulesFound': WHATEVER THE INPUT: true; the input reads as it did. -/
def rulesFoundSpec : ChangeSpec := { name := "rulesFound", fn := fun _ => fun
  | [d1, d2, d3] => { results := [.lit (.bool true)], args := [d1, d2, d3] }
  | _ => none }
def rulesFoundRow : OpenClaim := { program := "ytfommmijojfdbaagreatdoor", sum := "0b92ec7f58c83d2d15263909f83f0f0d2c82d16bd3a1a3c5799572f7880515ab", func := "spoondrift/spoondriftlaw19.RulesFound", spec := "rulesFound", inPlace := ["slices.overlaps[int]"], unfollowed := true, recurses := true, named := ["spoondrift/spoondriftlaw19.kinds", "strings.asciiSpace", "unicode.White_Space", "spoondrift/rules.unbound"], apart := false, laid := [("unicode.White_Space", laid_unicode_White_Space), ("strings.asciiSpace", laid_strings_asciiSpace), ("spoondrift/rules.unbound", laid_spoondrift_rules_unbound), ("spoondrift/spoondriftlaw19.kinds", laid_spoondrift_spoondriftlaw19_kinds)] }
def RulesFoundSaid : Prop := rulesFoundRow.holds Tryz.pinned (OpenSpec.ofChange rulesFoundSpec)

/-- ITS FALSE NEIGHBOUR: 'it returns false'. Refute it at one input. -/
def rulesFoundWrong : ChangeSpec := { name := "rulesFound", fn := fun _ => fun
  | [d1, d2, d3] => { results := [.lit (.bool false)], args := [d1, d2, d3] }
  | _ => none }
def RulesFoundWrongFalsely : Prop := rulesFoundRow.holds Tryz.pinned (OpenSpec.ofChange rulesFoundWrong)

/-- 'spoondriftlaw19.RulesAll': WHATEVER THE INPUT: true; the input reads as it did. -/
def rulesAllSpec : ChangeSpec := { name := "rulesAll", fn := fun _ => fun
  | [d1, d2, d3] => { results := [.lit (.bool true)], args := [d1, d2, d3] }
  | _ => none }
def rulesAllRow : OpenClaim := { program := "ytfommmijojfdbaagreatdoor", sum := "0b92ec7f58c83d2d15263909f83f0f0d2c82d16bd3a1a3c5799572f7880515ab", func := "spoondrift/spoondriftlaw19.RulesAll", spec := "rulesAll", inPlace := ["slices.overlaps[int]"], unfollowed := true, recurses := true, named := ["spoondrift/spoondriftlaw19.kinds", "strings.asciiSpace", "unicode.White_Space", "spoondrift/rules.unbound"], apart := false, laid := [("unicode.White_Space", laid_unicode_White_Space), ("strings.asciiSpace", laid_strings_asciiSpace), ("spoondrift/rules.unbound", laid_spoondrift_rules_unbound), ("spoondrift/spoondriftlaw19.kinds", laid_spoondrift_spoondriftlaw19_kinds)] }
def RulesAllSaid : Prop := rulesAllRow.holds Tryz.pinned (OpenSpec.ofChange rulesAllSpec)

/-- ITS FALSE NEIGHBOUR: 'it returns false'. Refute it at one input. -/
def rulesAllWrong : ChangeSpec := { name := "rulesAll", fn := fun _ => fun
  | [d1, d2, d3] => { results := [.lit (.bool false)], args := [d1, d2, d3] }
  | _ => none }
def RulesAllWrongFalsely : Prop := rulesAllRow.holds Tryz.pinned (OpenSpec.ofChange rulesAllWrong)

/- THE SECOND FORM. 'bulk': how many values and letters a reading holds, each counted each time it is reached (what is shared counts as often as it is met; a slice's spare places count too). A statement '..UptoSaid' is the law's where the arguments, and the package variables that the reading takes, are together of bulk at most 1048576: NARROWER than '..Said'. Prove '..Said' where nothing that the law and all that it calls make is longer than what came in: it says more and counts as full. Else prove '..UptoSaid'. A law counts once. -/
mutual
def uptoBulk {H : Type} : DataW H → Nat
  | .lit (.string bytes) => bytes.length + 1
  | .lit _ => 1
  | .nil => 1
  | .ptr d => uptoBulk d + 1
  | .slice elems spare => uptoBulkAll elems + uptoBulkAll spare + 1
  | .agg parts => uptoBulkAll parts + 1
  | .iface _ d => uptoBulk d + 1
  | .map entries => uptoBulkEntries entries + 1
  | .held _ => 1
def uptoBulkAll {H : Type} : List (DataW H) → Nat
  | [] => 0
  | d :: r => uptoBulk d + uptoBulkAll r
def uptoBulkEntries {H : Type} : List (Lit × DataW H) → Nat
  | [] => 0
  | x :: r => uptoBulkEntry x + uptoBulkEntries r
def uptoBulkEntry {H : Type} : Lit × DataW H → Nat
  | (.string bytes, d) => bytes.length + uptoBulk d + 1
  | (_, d) => uptoBulk d + 1
 end
def uptoSmall : (H : Type) → List (DataW H) → Bool := fun _ ds => decide (uptoBulkAll ds ≤ 1048576)
def OpenSpec.upto (s : _root_.Go.ChangeSpec) : _root_.Go.OpenSpec := { _root_.Go.OpenSpec.ofChange s with cond := some uptoSmall }

/-- 'spoondriftlaw19.RulesApplies', WHERE WHAT IT READS IS OF BULK AT MOST 1048576: true; the input reads as it did. -/
def rulesAppliesUptoRow : OpenClaim := { program := "ytfommmijojfdbaagreatdoor", sum := "0b92ec7f58c83d2d15263909f83f0f0d2c82d16bd3a1a3c5799572f7880515ab", func := "spoondrift/spoondriftlaw19.RulesApplies", spec := "rulesApplies", unfollowed := true, recurses := true, named := ["strings.asciiSpace", "unicode.White_Space", "spoondrift/rules.unbound"], apart := false, laid := [("unicode.White_Space", laid_unicode_White_Space), ("strings.asciiSpace", laid_strings_asciiSpace), ("spoondrift/rules.unbound", laid_spoondrift_rules_unbound)], narrowed := true }
def RulesAppliesUptoSaid : Prop := rulesAppliesUptoRow.holds Tryz.pinned (OpenSpec.upto rulesAppliesSpec)

/-- 'spoondriftlaw19.RulesSteps', WHERE WHAT IT READS IS OF BULK AT MOST 1048576: true; the input reads as it did. -/
def rulesStepsUptoRow : OpenClaim := { program := "ytfommmijojfdbaagreatdoor", sum := "0b92ec7f58c83d2d15263909f83f0f0d2c82d16bd3a1a3c5799572f7880515ab", func := "spoondrift/spoondriftlaw19.RulesSteps", spec := "rulesSteps", unfollowed := true, recurses := true, named := ["strings.asciiSpace", "unicode.White_Space", "spoondrift/rules.unbound"], apart := false, laid := [("unicode.White_Space", laid_unicode_White_Space), ("strings.asciiSpace", laid_strings_asciiSpace), ("spoondrift/rules.unbound", laid_spoondrift_rules_unbound)], narrowed := true }
def RulesStepsUptoSaid : Prop := rulesStepsUptoRow.holds Tryz.pinned (OpenSpec.upto rulesStepsSpec)

/-- 'spoondriftlaw19.RulesChains', WHERE WHAT IT READS IS OF BULK AT MOST 1048576: true; the input reads as it did. -/
def rulesChainsUptoRow : OpenClaim := { program := "ytfommmijojfdbaagreatdoor", sum := "0b92ec7f58c83d2d15263909f83f0f0d2c82d16bd3a1a3c5799572f7880515ab", func := "spoondrift/spoondriftlaw19.RulesChains", spec := "rulesChains", unfollowed := true, recurses := true, named := ["strings.asciiSpace", "unicode.White_Space", "spoondrift/rules.unbound"], apart := false, laid := [("unicode.White_Space", laid_unicode_White_Space), ("strings.asciiSpace", laid_strings_asciiSpace), ("spoondrift/rules.unbound", laid_spoondrift_rules_unbound)], narrowed := true }
def RulesChainsUptoSaid : Prop := rulesChainsUptoRow.holds Tryz.pinned (OpenSpec.upto rulesChainsSpec)

/-- 'spoondriftlaw19.RulesShortens', WHERE WHAT IT READS IS OF BULK AT MOST 1048576: true; the input reads as it did. -/
def rulesShortensUptoRow : OpenClaim := { program := "ytfommmijojfdbaagreatdoor", sum := "0b92ec7f58c83d2d15263909f83f0f0d2c82d16bd3a1a3c5799572f7880515ab", func := "spoondrift/spoondriftlaw19.RulesShortens", spec := "rulesShortens", unfollowed := true, recurses := true, named := ["strings.asciiSpace", "unicode.White_Space", "spoondrift/rules.unbound"], apart := false, laid := [("unicode.White_Space", laid_unicode_White_Space), ("strings.asciiSpace", laid_strings_asciiSpace), ("spoondrift/rules.unbound", laid_spoondrift_rules_unbound)], narrowed := true }
def RulesShortensUptoSaid : Prop := rulesShortensUptoRow.holds Tryz.pinned (OpenSpec.upto rulesShortensSpec)

/-- 'spoondriftlaw19.RulesSearches', WHERE WHAT IT READS IS OF BULK AT MOST 1048576: true; the input reads as it did. -/
def rulesSearchesUptoRow : OpenClaim := { program := "ytfommmijojfdbaagreatdoor", sum := "0b92ec7f58c83d2d15263909f83f0f0d2c82d16bd3a1a3c5799572f7880515ab", func := "spoondrift/spoondriftlaw19.RulesSearches", spec := "rulesSearches", unfollowed := true, recurses := true, named := ["strings.asciiSpace", "unicode.White_Space", "spoondrift/rules.unbound"], apart := false, laid := [("unicode.White_Space", laid_unicode_White_Space), ("strings.asciiSpace", laid_strings_asciiSpace), ("spoondrift/rules.unbound", laid_spoondrift_rules_unbound)], narrowed := true }
def RulesSearchesUptoSaid : Prop := rulesSearchesUptoRow.holds Tryz.pinned (OpenSpec.upto rulesSearchesSpec)

/-- 'spoondriftlaw19.RulesSmall', WHERE WHAT IT READS IS OF BULK AT MOST 1048576: true; the input reads as it did. -/
def rulesSmallUptoRow : OpenClaim := { program := "ytfommmijojfdbaagreatdoor", sum := "0b92ec7f58c83d2d15263909f83f0f0d2c82d16bd3a1a3c5799572f7880515ab", func := "spoondrift/spoondriftlaw19.RulesSmall", spec := "rulesSmall", unfollowed := true, recurses := true, named := ["strings.asciiSpace", "unicode.White_Space", "spoondrift/rules.unbound"], apart := false, laid := [("unicode.White_Space", laid_unicode_White_Space), ("strings.asciiSpace", laid_strings_asciiSpace), ("spoondrift/rules.unbound", laid_spoondrift_rules_unbound)], narrowed := true }
def RulesSmallUptoSaid : Prop := rulesSmallUptoRow.holds Tryz.pinned (OpenSpec.upto rulesSmallSpec)

/-- 'spoondriftlaw19.RulesGiven', WHERE WHAT IT READS IS OF BULK AT MOST 1048576: true; the input reads as it did. -/
def rulesGivenUptoRow : OpenClaim := { program := "ytfommmijojfdbaagreatdoor", sum := "0b92ec7f58c83d2d15263909f83f0f0d2c82d16bd3a1a3c5799572f7880515ab", func := "spoondrift/spoondriftlaw19.RulesGiven", spec := "rulesGiven", unfollowed := true, recurses := true, named := ["strings.asciiSpace", "unicode.White_Space", "spoondrift/rules.unbound"], apart := false, laid := [("unicode.White_Space", laid_unicode_White_Space), ("strings.asciiSpace", laid_strings_asciiSpace), ("spoondrift/rules.unbound", laid_spoondrift_rules_unbound)], narrowed := true }
def RulesGivenUptoSaid : Prop := rulesGivenUptoRow.holds Tryz.pinned (OpenSpec.upto rulesGivenSpec)

/-- 'spoondriftlaw19.RulesBack', WHERE WHAT IT READS IS OF BULK AT MOST 1048576: true; the input reads as it did. -/
def rulesBackUptoRow : OpenClaim := { program := "ytfommmijojfdbaagreatdoor", sum := "0b92ec7f58c83d2d15263909f83f0f0d2c82d16bd3a1a3c5799572f7880515ab", func := "spoondrift/spoondriftlaw19.RulesBack", spec := "rulesBack", inPlace := ["slices.overlaps[int]"], unfollowed := true, recurses := true, named := ["spoondrift/spoondriftlaw19.kinds", "strings.asciiSpace", "unicode.White_Space", "spoondrift/rules.unbound"], apart := false, laid := [("unicode.White_Space", laid_unicode_White_Space), ("strings.asciiSpace", laid_strings_asciiSpace), ("spoondrift/rules.unbound", laid_spoondrift_rules_unbound), ("spoondrift/spoondriftlaw19.kinds", laid_spoondrift_spoondriftlaw19_kinds)], narrowed := true }
def RulesBackUptoSaid : Prop := rulesBackUptoRow.holds Tryz.pinned (OpenSpec.upto rulesBackSpec)

/-- 'spoondriftlaw19.RulesFound', WHERE WHAT IT READS IS OF BULK AT MOST 1048576: true; the input reads as it did. -/
def rulesFoundUptoRow : OpenClaim := { program := "ytfommmijojfdbaagreatdoor", sum := "0b92ec7f58c83d2d15263909f83f0f0d2c82d16bd3a1a3c5799572f7880515ab", func := "spoondrift/spoondriftlaw19.RulesFound", spec := "rulesFound", inPlace := ["slices.overlaps[int]"], unfollowed := true, recurses := true, named := ["spoondrift/spoondriftlaw19.kinds", "strings.asciiSpace", "unicode.White_Space", "spoondrift/rules.unbound"], apart := false, laid := [("unicode.White_Space", laid_unicode_White_Space), ("strings.asciiSpace", laid_strings_asciiSpace), ("spoondrift/rules.unbound", laid_spoondrift_rules_unbound), ("spoondrift/spoondriftlaw19.kinds", laid_spoondrift_spoondriftlaw19_kinds)], narrowed := true }
def RulesFoundUptoSaid : Prop := rulesFoundUptoRow.holds Tryz.pinned (OpenSpec.upto rulesFoundSpec)

/-- 'spoondriftlaw19.RulesAll', WHERE WHAT IT READS IS OF BULK AT MOST 1048576: true; the input reads as it did. -/
def rulesAllUptoRow : OpenClaim := { program := "ytfommmijojfdbaagreatdoor", sum := "0b92ec7f58c83d2d15263909f83f0f0d2c82d16bd3a1a3c5799572f7880515ab", func := "spoondrift/spoondriftlaw19.RulesAll", spec := "rulesAll", inPlace := ["slices.overlaps[int]"], unfollowed := true, recurses := true, named := ["spoondrift/spoondriftlaw19.kinds", "strings.asciiSpace", "unicode.White_Space", "spoondrift/rules.unbound"], apart := false, laid := [("unicode.White_Space", laid_unicode_White_Space), ("strings.asciiSpace", laid_strings_asciiSpace), ("spoondrift/rules.unbound", laid_spoondrift_rules_unbound), ("spoondrift/spoondriftlaw19.kinds", laid_spoondrift_spoondriftlaw19_kinds)], narrowed := true }
def RulesAllUptoSaid : Prop := rulesAllUptoRow.holds Tryz.pinned (OpenSpec.upto rulesAllSpec)

end Rows
end Go.Proofs.YtfommmijojfdbaaGreatDoor
