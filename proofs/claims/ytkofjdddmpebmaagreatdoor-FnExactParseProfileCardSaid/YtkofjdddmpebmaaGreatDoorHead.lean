/- The program's head (which functions the cut was made at), letter by letter, and the facts on the whole program that a row asks: with the head laid out they are cheap to check. -/
import Derived.Test.YtkofjdddmpebmaaGreatDoorRows
import Derived.JoinedOf
namespace Go.Proofs.YtkofjdddmpebmaaGreatDoor
namespace Head
set_option maxRecDepth 100000
def letters : List Char := [Char.ofNat 104, Char.ofNat 97, Char.ofNat 114, Char.ofNat 110, Char.ofNat 101, Char.ofNat 115, Char.ofNat 115, Char.ofNat 32, Char.ofNat 57, Char.ofNat 50, Char.ofNat 97, Char.ofNat 57, Char.ofNat 53, Char.ofNat 55, Char.ofNat 102, Char.ofNat 51, Char.ofNat 50, Char.ofNat 56, Char.ofNat 97, Char.ofNat 50, Char.ofNat 101, Char.ofNat 102, Char.ofNat 51, Char.ofNat 54, Char.ofNat 102, Char.ofNat 101, Char.ofNat 50, Char.ofNat 98, Char.ofNat 53, Char.ofNat 48, Char.ofNat 53, Char.ofNat 55, Char.ofNat 99, Char.ofNat 55, Char.ofNat 99, Char.ofNat 102, Char.ofNat 101, Char.ofNat 56, Char.ofNat 98, Char.ofNat 49, Char.ofNat 102, Char.ofNat 48, Char.ofNat 50, Char.ofNat 56, Char.ofNat 99, Char.ofNat 55, Char.ofNat 54, Char.ofNat 49, Char.ofNat 55, Char.ofNat 54, Char.ofNat 56, Char.ofNat 52, Char.ofNat 51, Char.ofNat 100, Char.ofNat 99, Char.ofNat 49, Char.ofNat 100, Char.ofNat 101, Char.ofNat 57, Char.ofNat 54, Char.ofNat 56, Char.ofNat 52, Char.ofNat 48, Char.ofNat 101, Char.ofNat 52, Char.ofNat 100, Char.ofNat 57, Char.ofNat 101, Char.ofNat 102, Char.ofNat 56, Char.ofNat 98, Char.ofNat 97, Char.ofNat 32, Char.ofNat 99, Char.ofNat 117, Char.ofNat 116, Char.ofNat 32, Char.ofNat 97, Char.ofNat 116, Char.ofNat 32, Char.ofNat 108, Char.ofNat 111, Char.ofNat 111, Char.ofNat 112, Char.ofNat 46, Char.ofNat 101, Char.ofNat 120, Char.ofNat 97, Char.ofNat 109, Char.ofNat 112, Char.ofNat 108, Char.ofNat 101, Char.ofNat 47, Char.ofNat 103, Char.ofNat 48, Char.ofNat 51, Char.ofNat 50, Char.ofNat 48, Char.ofNat 50, Char.ofNat 47, Char.ofNat 108, Char.ofNat 97, Char.ofNat 119, Char.ofNat 115, Char.ofNat 46, Char.ofNat 70, Char.ofNat 110, Char.ofNat 69, Char.ofNat 120, Char.ofNat 97, Char.ofNat 99, Char.ofNat 116, Char.ofNat 80, Char.ofNat 97, Char.ofNat 114, Char.ofNat 115, Char.ofNat 101, Char.ofNat 80, Char.ofNat 114, Char.ofNat 111, Char.ofNat 102, Char.ofNat 105, Char.ofNat 108, Char.ofNat 101]
def allWords : List (List Char) := [[Char.ofNat 104, Char.ofNat 97, Char.ofNat 114, Char.ofNat 110, Char.ofNat 101, Char.ofNat 115, Char.ofNat 115],
 [Char.ofNat 57, Char.ofNat 50, Char.ofNat 97, Char.ofNat 57, Char.ofNat 53, Char.ofNat 55, Char.ofNat 102, Char.ofNat 51, Char.ofNat 50, Char.ofNat 56, Char.ofNat 97, Char.ofNat 50, Char.ofNat 101, Char.ofNat 102, Char.ofNat 51, Char.ofNat 54, Char.ofNat 102, Char.ofNat 101, Char.ofNat 50, Char.ofNat 98, Char.ofNat 53, Char.ofNat 48, Char.ofNat 53, Char.ofNat 55, Char.ofNat 99, Char.ofNat 55, Char.ofNat 99, Char.ofNat 102, Char.ofNat 101, Char.ofNat 56, Char.ofNat 98, Char.ofNat 49, Char.ofNat 102, Char.ofNat 48, Char.ofNat 50, Char.ofNat 56, Char.ofNat 99, Char.ofNat 55, Char.ofNat 54, Char.ofNat 49, Char.ofNat 55, Char.ofNat 54, Char.ofNat 56, Char.ofNat 52, Char.ofNat 51, Char.ofNat 100, Char.ofNat 99, Char.ofNat 49, Char.ofNat 100, Char.ofNat 101, Char.ofNat 57, Char.ofNat 54, Char.ofNat 56, Char.ofNat 52, Char.ofNat 48, Char.ofNat 101, Char.ofNat 52, Char.ofNat 100, Char.ofNat 57, Char.ofNat 101, Char.ofNat 102, Char.ofNat 56, Char.ofNat 98, Char.ofNat 97],
 [Char.ofNat 99, Char.ofNat 117, Char.ofNat 116],
 [Char.ofNat 97, Char.ofNat 116],
 [Char.ofNat 108, Char.ofNat 111, Char.ofNat 111, Char.ofNat 112, Char.ofNat 46, Char.ofNat 101, Char.ofNat 120, Char.ofNat 97, Char.ofNat 109, Char.ofNat 112, Char.ofNat 108, Char.ofNat 101, Char.ofNat 47, Char.ofNat 103, Char.ofNat 48, Char.ofNat 51, Char.ofNat 50, Char.ofNat 48, Char.ofNat 50, Char.ofNat 47, Char.ofNat 108, Char.ofNat 97, Char.ofNat 119, Char.ofNat 115, Char.ofNat 46, Char.ofNat 70, Char.ofNat 110, Char.ofNat 69, Char.ofNat 120, Char.ofNat 97, Char.ofNat 99, Char.ofNat 116, Char.ofNat 80, Char.ofNat 97, Char.ofNat 114, Char.ofNat 115, Char.ofNat 101, Char.ofNat 80, Char.ofNat 114, Char.ofNat 111, Char.ofNat 102, Char.ofNat 105, Char.ofNat 108, Char.ofNat 101]]
def cutWords : List (List Char) := [[Char.ofNat 99, Char.ofNat 117, Char.ofNat 116],
 [Char.ofNat 97, Char.ofNat 116],
 [Char.ofNat 108, Char.ofNat 111, Char.ofNat 111, Char.ofNat 112, Char.ofNat 46, Char.ofNat 101, Char.ofNat 120, Char.ofNat 97, Char.ofNat 109, Char.ofNat 112, Char.ofNat 108, Char.ofNat 101, Char.ofNat 47, Char.ofNat 103, Char.ofNat 48, Char.ofNat 51, Char.ofNat 50, Char.ofNat 48, Char.ofNat 50, Char.ofNat 47, Char.ofNat 108, Char.ofNat 97, Char.ofNat 119, Char.ofNat 115, Char.ofNat 46, Char.ofNat 70, Char.ofNat 110, Char.ofNat 69, Char.ofNat 120, Char.ofNat 97, Char.ofNat 99, Char.ofNat 116, Char.ofNat 80, Char.ofNat 97, Char.ofNat 114, Char.ofNat 115, Char.ofNat 101, Char.ofNat 80, Char.ofNat 114, Char.ofNat 111, Char.ofNat 102, Char.ofNat 105, Char.ofNat 108, Char.ofNat 101]]
def behindCut : List (List Char) := [[Char.ofNat 97, Char.ofNat 116],
 [Char.ofNat 108, Char.ofNat 111, Char.ofNat 111, Char.ofNat 112, Char.ofNat 46, Char.ofNat 101, Char.ofNat 120, Char.ofNat 97, Char.ofNat 109, Char.ofNat 112, Char.ofNat 108, Char.ofNat 101, Char.ofNat 47, Char.ofNat 103, Char.ofNat 48, Char.ofNat 51, Char.ofNat 50, Char.ofNat 48, Char.ofNat 50, Char.ofNat 47, Char.ofNat 108, Char.ofNat 97, Char.ofNat 119, Char.ofNat 115, Char.ofNat 46, Char.ofNat 70, Char.ofNat 110, Char.ofNat 69, Char.ofNat 120, Char.ofNat 97, Char.ofNat 99, Char.ofNat 116, Char.ofNat 80, Char.ofNat 97, Char.ofNat 114, Char.ofNat 115, Char.ofNat 101, Char.ofNat 80, Char.ofNat 114, Char.ofNat 111, Char.ofNat 102, Char.ofNat 105, Char.ofNat 108, Char.ofNat 101]]
theorem lit : Tryz.prog.initOrder = "harness 92a957f328a2ef36fe2b5057c7cfe8b1f028c76176843dc1de96840e4d9ef8ba cut at loop.example/g03202/laws.FnExactParseProfile" := by kernel_rfl
theorem str : Tryz.prog.initOrder = String.ofList letters := lit.trans (by kernel_rfl)
theorem list : Tryz.prog.initOrder.toList = letters := by rw [str]; exact String.toList_ofList
theorem signs : wordsSigns letters = allWords := by kernel_rfl
theorem behind : behindMainWord allWords = cutWords := by kernel_rfl
theorem word : cutWords = "cut".toList :: behindCut := by kernel_rfl
theorem opens : behindMainWord (wordsSigns Tryz.prog.initOrder.toList) = "cut".toList :: behindCut := by rw [list, signs, behind, word]

theorem make_cut (P : Program) (r : List (List Char)) (h : behindMainWord (wordsSigns P.initOrder.toList) = "cut".toList :: r) : P.make = some .cut := by
  unfold Program.make; rw [h]; rfl
theorem lifts_cut (P : Program) (r : List (List Char)) (h : behindMainWord (wordsSigns P.initOrder.toList) = "cut".toList :: r) : P.liftsFinal = false := by
  unfold Program.liftsFinal Program.headLifts; rw [h]; rfl
theorem strip_cut (r : List (List Char)) : stripLifts liftWords ("cut".toList :: r) = ([], "cut".toList :: r) := by rfl
theorem may_cut (P : Program) (r : List (List Char)) (h : behindMainWord (wordsSigns P.initOrder.toList) = "cut".toList :: r) (h1 : P.laysLater = false) (h2 : P.bearsReflect = false) (h3 : P.doorFits [] = true) : P.mayEnter = true := by
  unfold Program.mayEnter; rw [h]
  simp only [strip_cut, h1, h2, h3]
  simp
end Head

theorem mayEnterYes : Tryz.prog.mayEnter = true := Head.may_cut _ _ Head.opens (by kernel_rfl) (by kernel_rfl) (by kernel_rfl)
theorem liftsNo : Tryz.prog.liftsFinal = false := Head.lifts_cut _ _ Head.opens
theorem makeCut : Tryz.prog.make = some .cut := Head.make_cut _ _ Head.opens
theorem own : ownKnob Tryz.prog.godebug = none := by kernel_rfl
theorem laidOut : laidOutB Tryz.prog = true := by kernel_rfl
theorem mapsRowedYes : mapsRowed Tryz.prog = true := by kernel_rfl
theorem stopsNone : (Tryz.prog.stops == []) = true := by kernel_rfl
theorem knobsNone : (Tryz.prog.stopKnobs == []) = true := by kernel_rfl
theorem heard : Tryz.prog.stopsHeard = true := by kernel_rfl
theorem keysPlain : (true == Tryz.prog.plainKeys) = true := by kernel_rfl

theorem lifted_fits (P : Program) (c : OpenClaim) (h : P.liftsFinal = false) (hc : c.lifted = false) : (c.lifted == P.liftsFinal) = true := by rw [h, hc]; rfl
theorem make_fits (P : Program) (c : OpenClaim) (h : P.make = some .cut) (hc : c.make = .cut) : (P.make == some c.make) = true := by rw [h, hc]; rfl
theorem keys_fit (P : Program) (c : OpenClaim) (h : (true == P.plainKeys) = true) (hc : c.plainKeys = true) : (c.plainKeys == P.plainKeys) = true := by rw [hc]; exact h

theorem joined_by (P : Program) (f : FuncId) (fn : Func) (s : ChangeSpec) (c : OpenClaim)
    (k1 : c.wf (OpenSpec.ofChange s) = true) (k2 : laidOutB P = true) (k3 : mapsRowed P = true)
    (k4 : fn.params.all (P.readableRec ·) = true) (k5 : namedTie P c.named s.vars = true)
    (k6 : (c.stops == []) = true) (k7 : (P.stops == []) = true) (k8 : (c.knobs == []) = true) (k9 : (P.stopKnobs == []) = true)
    (k10 : (c.inPlace == P.inPlace f) = true) (k11 : (c.unfollowed == P.unfollowed f) = true) (k12 : (c.recurses == P.recurses f) = true) (k13 : (c.named == P.varsNamed f) = true)
    (k14 : (c.maps == (fn.params.toList ++ s.plain.varTypes P).any (P.mapsRec ·)) = true) (k15 : (c.ifaces == (fn.params.toList ++ s.plain.varTypes P).any (P.ifacesRec ·)) = true) (k16 : (c.mapsOut == P.mapsAmong fn.resultTypes.toList) = true)
    (k17 : (c.loops == (fn.params.toList ++ s.plain.varTypes P).any (P.loopsFrom ·)) = true) (k18 : (c.wideKeys == (fn.params.toList ++ s.plain.varTypes P ++ fn.resultTypes.toList).any (P.wideKeysFrom ·)) = true)
    (k19 : s.vars.all (P.varReadable ·) = true) (k20 : fn.resultTypes.all (fun t => P.readableRec t && decide (t < P.types.size)) = true) (k21 : (c.ifacesOut == fn.resultTypes.toList.any (P.ifacesRec ·)) = true) (k22 : (c.loopsOut == fn.resultTypes.toList.any (P.loopsFrom ·)) = true)
    (k23 : (c.plainKeys == P.plainKeys) = true) (k24 : c.shortTexts.isNone = true) (k25 : P.stopsHeard = true) (k26 : P.mayEnter = true) (k27 : (c.lifted == P.liftsFinal) = true) (k28 : (P.make == some c.make) = true)
    (kk : c.kinds = []) (kd : c.domain = []) (k30 : (c.pinned == c.pinnedBy) = true)
    (k31 : (c.veiled == (fn.params.toList ++ s.plain.varTypes P ++ fn.resultTypes.toList).any (P.veiledRec ·)) = true) (k32 : c.veiledFits P fn.params.toList (fn.params.toList ++ s.plain.varTypes P ++ fn.resultTypes.toList) = true) :
    joinedFacts P f fn s c = true := by
  unfold joinedFacts
  rw [k1, k2, k3, k4, k5, k6, k7, k8, k9, k10, k11, k12, k13, k14, k15, k16, k17, k18, k19, k20, k21, k22, k23, k24, k25, k26, k27, k28, k30, k31, k32, kk, kd]
  rfl
end Go.Proofs.YtkofjdddmpebmaaGreatDoor
