/-
  The closed facts about the program that every row asks. Plain theorems; no condition.
-/
import Derived.Test.YtihmifpdnipdmaaBridge
set_option linter.all false
namespace Go.Gm
open Go.Proofs Go.ChangeShapes Go.WideShapes Go.ChangeAt Go.RowKit
set_option maxRecDepth 100000

abbrev sp : Char := Char.ofNat 32

theorem ws_word : ∀ (w r : List Char), (w.all fun c => c != sp) = true → wordsSigns (w ++ sp :: r) = w :: wordsSigns r
  | [], r, _ => rfl
  | c :: w, r, h => by
    simp only [List.all_cons, Bool.and_eq_true, bne_iff_ne, ne_eq] at h
    have ih := ws_word w r h.2
    show wordsSigns (c :: (w ++ sp :: r)) = _
    rw [wordsSigns]
    · rw [ih]
    · intro e
      exact h.1 e

/-- How the program was cut: the first words of its head. -/
theorem head_words : ∃ R : List (List Char), behindMainWord (wordsSigns Try.prog.initOrder.toList) = "cut".toList :: R := by
  obtain ⟨l, hl, h1, h2, h3, h4, h5, h6, h7⟩ : ∃ l : List Char, Try.prog.initOrder = String.ofList l ∧ l = l.take 7 ++ sp :: ((l.drop 8).take 64 ++ sp :: ((l.drop 73).take 3 ++ sp :: l.drop 77)) ∧ ((l.take 7).all fun c => c != sp) = true ∧ (((l.drop 8).take 64).all fun c => c != sp) = true ∧
      (((l.drop 73).take 3).all fun c => c != sp) = true ∧ (l.take 7 == "harness".toList) = true ∧ isSumSigns ((l.drop 8).take 64) = true ∧ (l.drop 73).take 3 = "cut".toList := by
    refine Exists.intro ?l (And.intro ?h ?rest)
    case h => exact Eq.refl Try.prog.initOrder
    case rest =>
      refine And.intro ?_ (And.intro ?_ (And.intro ?_ (And.intro ?_ (And.intro ?_ (And.intro ?_ ?_)))))
      all_goals kernel_rfl
  have hw : wordsSigns l = l.take 7 :: (l.drop 8).take 64 :: (l.drop 73).take 3 :: wordsSigns (l.drop 77) := (congrArg wordsSigns h1).trans (by rw [ws_word _ _ h2, ws_word _ _ h3, ws_word _ _ h4])
  refine ⟨wordsSigns (l.drop 77), ?_⟩
  rw [hl, String.toList_ofList, hw]
  simp only [behindMainWord, h5, h6, Bool.true_or, Bool.true_and, if_true]
  rw [h7]

theorem lays_ : Try.prog.laysLater = false := by kernel_rfl
theorem bears_ : Try.prog.bearsReflect = false := by kernel_rfl
theorem door_ : Try.prog.doorFits [] = true := by kernel_rfl

theorem strip_cut (R : List (List Char)) : stripLifts liftWords ("cut".toList :: R) = ([], "cut".toList :: R) := rfl

theorem mayEnter_of {P : Program} {R : List (List Char)} (hR : behindMainWord (wordsSigns P.initOrder.toList) = "cut".toList :: R) (h1 : P.laysLater = false) (h2 : P.bearsReflect = false) (h3 : P.doorFits [] = true) : P.mayEnter = true := by
  unfold Program.mayEnter
  rw [hR]
  simp only [strip_cut, h1, h2, h3]
  rfl
theorem liftsFinal_of {P : Program} {R : List (List Char)} (hR : behindMainWord (wordsSigns P.initOrder.toList) = "cut".toList :: R) : P.liftsFinal = false := by
  unfold Program.liftsFinal Program.headLifts
  rw [hR]
  simp only [strip_cut]
  rfl
theorem make_of {P : Program} {R : List (List Char)} (hR : behindMainWord (wordsSigns P.initOrder.toList) = "cut".toList :: R) : P.make = some .cut := by
  unfold Program.make
  rw [hR]
  rfl
theorem mayEnter_ : Try.prog.mayEnter = true := by
  obtain ⟨R, hR⟩ := head_words
  exact mayEnter_of hR lays_ bears_ door_
theorem liftsFinal_ : Try.prog.liftsFinal = false := by
  obtain ⟨R, hR⟩ := head_words
  exact liftsFinal_of hR
theorem make_ : Try.prog.make = some .cut := by
  obtain ⟨R, hR⟩ := head_words
  exact make_of hR

theorem mapsRowed_ : mapsRowed Try.prog = true := by kernel_rfl
theorem stops_ : (Try.prog.stops == []) = true := by kernel_rfl
theorem knobs_ : (Try.prog.stopKnobs == []) = true := by kernel_rfl
theorem plainKeys_ : Try.prog.plainKeys = true := by kernel_rfl
theorem heard_ : Try.prog.stopsHeard = true := by kernel_rfl

/-- What is asked of one row beside that. -/
def rowFacts (P : Program) (fn : Func) (s : ChangeSpec) (c : OpenClaim) : Bool :=
  c.wf (OpenSpec.ofChange s) && fn.params.all (P.readableRec ·) && namedTie P c.named s.vars &&
  (c.stops == []) && (c.knobs == []) &&
  (c.maps == (fn.params.toList ++ s.plain.varTypes P).any (P.mapsRec ·)) && (c.ifaces == (fn.params.toList ++ s.plain.varTypes P).any (P.ifacesRec ·)) && (c.mapsOut == P.mapsAmong fn.resultTypes.toList) &&
  (c.loops == (fn.params.toList ++ s.plain.varTypes P).any (P.loopsFrom ·)) && (c.wideKeys == (fn.params.toList ++ s.plain.varTypes P ++ fn.resultTypes.toList).any (P.wideKeysFrom ·)) &&
  s.vars.all (P.varReadable ·) && fn.resultTypes.all (fun t => P.readableRec t && decide (t < P.types.size)) && (c.ifacesOut == fn.resultTypes.toList.any (P.ifacesRec ·)) && (c.loopsOut == fn.resultTypes.toList.any (P.loopsFrom ·)) &&
  c.plainKeys && c.shortTexts.isNone && !c.lifted && (some Make.cut == some c.make) && (c.kinds == (if c.domain.isEmpty then [] else fn.params.toList.map fun t => match P.underlying t with | some (.int k) => some k | _ => none)) && (c.pinned == c.pinnedBy) &&
  (c.veiled == (fn.params.toList ++ s.plain.varTypes P ++ fn.resultTypes.toList).any (P.veiledRec ·)) && c.veiledFits P fn.params.toList (fn.params.toList ++ s.plain.varTypes P ++ fn.resultTypes.toList)

theorem facts_of {f : FuncId} {fn : Func} {s : ChangeSpec} {c : OpenClaim} (h : rowFacts Try.prog fn s c = true) (h1 : (c.inPlace == Try.prog.inPlace f) = true) (h2 : (c.unfollowed == Try.prog.unfollowed f) = true) (h3 : (c.recurses == Try.prog.recurses f) = true) (h4 : (c.named == Try.prog.varsNamed f) = true) : joinedFacts Try.prog f fn s c = true := by
  simp only [rowFacts, Bool.and_eq_true] at h
  obtain ⟨⟨⟨⟨⟨⟨⟨⟨⟨⟨⟨⟨⟨⟨⟨⟨⟨⟨⟨⟨⟨k1, k2⟩, k3⟩, k4⟩, k5⟩, k6⟩, k7⟩, k8⟩, k9⟩, k10⟩, k11⟩, k12⟩, k13⟩, k14⟩, k15⟩, k16⟩, k17⟩, k18⟩, k19⟩, k20⟩, k21⟩, k22⟩ := h
  have e1 : (c.plainKeys == Try.prog.plainKeys) = true := by rw [k15, plainKeys_]; rfl
  have e2 : (c.lifted == Try.prog.liftsFinal) = true := by
    have : c.lifted = false := by simpa using k17
    rw [this, liftsFinal_]; rfl
  have e3 : (Try.prog.make == some c.make) = true := by rw [make_]; exact k18
  have e4 := k19
  simp only [joinedFacts, k1, laid, mapsRowed_, k2, k3, k4, stops_, k5, knobs_, h1, h2, h3, h4, k6, k7, k8, k9, k10, k11, k12, k13, k14, e1, k16, heard_, mayEnter_, e2, e3, k20, k21, k22, Bool.and_self, Bool.true_and, Bool.and_true]
  exact e4

end Go.Gm
