/-
  The closed facts of the row of LayoutPlaces, one by one.
-/
import Derived.Test.YteeamlidmkpohaaRows
import Derived.Test.YteeamlidmkpohaaHead
import Derived.WalkKit
import Derived.ProofKit
namespace Go.Proofs.Yteeamlidmkpohaa.layoutPlaces
set_option maxRecDepth 100000
theorem fact0 : (Rows.layoutPlacesRow.wf (OpenSpec.ofChange Rows.layoutPlacesSpec)) = true := by kernel_rfl
theorem fact1 : (laidOutB Try.prog) = true := by kernel_rfl
theorem fact2 : (mapsRowed Try.prog) = true := by kernel_rfl
theorem fact3 : (Try.f5.params.all (Try.prog.readableRec ·)) = true := by kernel_rfl
theorem fact4 : (namedTie Try.prog Rows.layoutPlacesRow.named Rows.layoutPlacesSpec.vars) = true := by kernel_rfl
theorem fact5 : ((Rows.layoutPlacesRow.stops == [])) = true := by kernel_rfl
theorem fact6 : ((Try.prog.stops == [])) = true := by kernel_rfl
theorem fact7 : ((Rows.layoutPlacesRow.knobs == [])) = true := by kernel_rfl
theorem fact8 : ((Try.prog.stopKnobs == [])) = true := by kernel_rfl
theorem fact9 : ((Rows.layoutPlacesRow.inPlace == Try.prog.inPlace 5)) = true := by kernel_rfl
theorem fact10 : ((Rows.layoutPlacesRow.unfollowed == Try.prog.unfollowed 5)) = true := by kernel_rfl
theorem fact11 : ((Rows.layoutPlacesRow.recurses == Try.prog.recurses 5)) = true := by kernel_rfl
theorem fact12 : ((Rows.layoutPlacesRow.named == Try.prog.varsNamed 5)) = true := by kernel_rfl
theorem fact13 : ((Rows.layoutPlacesRow.maps == (Try.f5.params.toList ++ Rows.layoutPlacesSpec.plain.varTypes Try.prog).any (Try.prog.mapsRec ·))) = true := by kernel_rfl
theorem fact14 : ((Rows.layoutPlacesRow.ifaces == (Try.f5.params.toList ++ Rows.layoutPlacesSpec.plain.varTypes Try.prog).any (Try.prog.ifacesRec ·))) = true := by kernel_rfl
theorem fact15 : ((Rows.layoutPlacesRow.mapsOut == Try.prog.mapsAmong Try.f5.resultTypes.toList)) = true := by kernel_rfl
theorem fact16 : ((Rows.layoutPlacesRow.loops == (Try.f5.params.toList ++ Rows.layoutPlacesSpec.plain.varTypes Try.prog).any (Try.prog.loopsFrom ·))) = true := by kernel_rfl
theorem fact17 : ((Rows.layoutPlacesRow.wideKeys == (Try.f5.params.toList ++ Rows.layoutPlacesSpec.plain.varTypes Try.prog ++ Try.f5.resultTypes.toList).any (Try.prog.wideKeysFrom ·))) = true := by kernel_rfl
theorem fact18 : (Rows.layoutPlacesSpec.vars.all (Try.prog.varReadable ·)) = true := by kernel_rfl
theorem fact19 : (Try.f5.resultTypes.all (fun t => Try.prog.readableRec t && decide (t < Try.prog.types.size))) = true := by kernel_rfl
theorem fact20 : ((Rows.layoutPlacesRow.ifacesOut == Try.f5.resultTypes.toList.any (Try.prog.ifacesRec ·))) = true := by kernel_rfl
theorem fact21 : ((Rows.layoutPlacesRow.loopsOut == Try.f5.resultTypes.toList.any (Try.prog.loopsFrom ·))) = true := by kernel_rfl
theorem fact22 : ((Rows.layoutPlacesRow.plainKeys == Try.prog.plainKeys)) = true := by kernel_rfl
theorem fact23 : (Rows.layoutPlacesRow.shortTexts.isNone) = true := by kernel_rfl
theorem fact24 : (Try.prog.stopsHeard) = true := by kernel_rfl
theorem fact25 : (Try.prog.mayEnter) = true := head_enter
theorem fact26 : ((Rows.layoutPlacesRow.lifted == Try.prog.liftsFinal)) = true := by rw [head_finals]; rfl
theorem fact27 : ((Try.prog.make == some Rows.layoutPlacesRow.make)) = true := by rw [head_make]; rfl
theorem fact28 : ((Rows.layoutPlacesRow.kinds == (if Rows.layoutPlacesRow.domain.isEmpty then [] else Try.f5.params.toList.map fun t => match Try.prog.underlying t with | some (.int k) => some k | _ => none))) = true := by kernel_rfl
theorem fact29 : ((Rows.layoutPlacesRow.pinned == Rows.layoutPlacesRow.pinnedBy)) = true := by kernel_rfl
theorem fact30 : ((Rows.layoutPlacesRow.veiled == (Try.f5.params.toList ++ Rows.layoutPlacesSpec.plain.varTypes Try.prog ++ Try.f5.resultTypes.toList).any (Try.prog.veiledRec ·))) = true := by kernel_rfl
theorem fact31 : (Rows.layoutPlacesRow.veiledFits Try.prog Try.f5.params.toList (Try.f5.params.toList ++ Rows.layoutPlacesSpec.plain.varTypes Try.prog ++ Try.f5.resultTypes.toList)) = true := by kernel_rfl
theorem facts : joinedFacts Try.prog 5 Try.f5 Rows.layoutPlacesSpec Rows.layoutPlacesRow = true := by
  simp only [joinedFacts, Bool.and_eq_true]
  exact ⟨⟨⟨⟨⟨⟨⟨⟨⟨⟨⟨⟨⟨⟨⟨⟨⟨⟨⟨⟨⟨⟨⟨⟨⟨⟨⟨⟨⟨⟨⟨fact0, fact1⟩, fact2⟩, fact3⟩, fact4⟩, fact5⟩, fact6⟩, fact7⟩, fact8⟩, fact9⟩, fact10⟩, fact11⟩, fact12⟩, fact13⟩, fact14⟩, fact15⟩, fact16⟩, fact17⟩, fact18⟩, fact19⟩, fact20⟩, fact21⟩, fact22⟩, fact23⟩, fact24⟩, fact25⟩, fact26⟩, fact27⟩, fact28⟩, fact29⟩, fact30⟩, fact31⟩
theorem hfn : Try.prog.funcNamed Rows.layoutPlacesRow.func = some 5 := by kernel_rfl
end Go.Proofs.Yteeamlidmkpohaa.layoutPlaces
