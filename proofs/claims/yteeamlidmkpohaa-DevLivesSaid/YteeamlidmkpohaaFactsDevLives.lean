/-
  The closed facts of the row of DevLives, one by one.
-/
import Derived.Test.YteeamlidmkpohaaRows
import Derived.Test.YteeamlidmkpohaaHead
import Derived.WalkKit
import Derived.ProofKit
namespace Go.Proofs.Yteeamlidmkpohaa.devLives
set_option maxRecDepth 100000
theorem fact0 : (Rows.devLivesRow.wf (OpenSpec.ofChange Rows.devLivesSpec)) = true := by kernel_rfl
theorem fact1 : (laidOutB Try.prog) = true := by kernel_rfl
theorem fact2 : (mapsRowed Try.prog) = true := by kernel_rfl
theorem fact3 : (Try.f11.params.all (Try.prog.readableRec ·)) = true := by kernel_rfl
theorem fact4 : (namedTie Try.prog Rows.devLivesRow.named Rows.devLivesSpec.vars) = true := by kernel_rfl
theorem fact5 : ((Rows.devLivesRow.stops == [])) = true := by kernel_rfl
theorem fact6 : ((Try.prog.stops == [])) = true := by kernel_rfl
theorem fact7 : ((Rows.devLivesRow.knobs == [])) = true := by kernel_rfl
theorem fact8 : ((Try.prog.stopKnobs == [])) = true := by kernel_rfl
theorem fact9 : ((Rows.devLivesRow.inPlace == Try.prog.inPlace 11)) = true := by kernel_rfl
theorem fact10 : ((Rows.devLivesRow.unfollowed == Try.prog.unfollowed 11)) = true := by kernel_rfl
theorem fact11 : ((Rows.devLivesRow.recurses == Try.prog.recurses 11)) = true := by kernel_rfl
theorem fact12 : ((Rows.devLivesRow.named == Try.prog.varsNamed 11)) = true := by kernel_rfl
theorem fact13 : ((Rows.devLivesRow.maps == (Try.f11.params.toList ++ Rows.devLivesSpec.plain.varTypes Try.prog).any (Try.prog.mapsRec ·))) = true := by kernel_rfl
theorem fact14 : ((Rows.devLivesRow.ifaces == (Try.f11.params.toList ++ Rows.devLivesSpec.plain.varTypes Try.prog).any (Try.prog.ifacesRec ·))) = true := by kernel_rfl
theorem fact15 : ((Rows.devLivesRow.mapsOut == Try.prog.mapsAmong Try.f11.resultTypes.toList)) = true := by kernel_rfl
theorem fact16 : ((Rows.devLivesRow.loops == (Try.f11.params.toList ++ Rows.devLivesSpec.plain.varTypes Try.prog).any (Try.prog.loopsFrom ·))) = true := by kernel_rfl
theorem fact17 : ((Rows.devLivesRow.wideKeys == (Try.f11.params.toList ++ Rows.devLivesSpec.plain.varTypes Try.prog ++ Try.f11.resultTypes.toList).any (Try.prog.wideKeysFrom ·))) = true := by kernel_rfl
theorem fact18 : (Rows.devLivesSpec.vars.all (Try.prog.varReadable ·)) = true := by kernel_rfl
theorem fact19 : (Try.f11.resultTypes.all (fun t => Try.prog.readableRec t && decide (t < Try.prog.types.size))) = true := by kernel_rfl
theorem fact20 : ((Rows.devLivesRow.ifacesOut == Try.f11.resultTypes.toList.any (Try.prog.ifacesRec ·))) = true := by kernel_rfl
theorem fact21 : ((Rows.devLivesRow.loopsOut == Try.f11.resultTypes.toList.any (Try.prog.loopsFrom ·))) = true := by kernel_rfl
theorem fact22 : ((Rows.devLivesRow.plainKeys == Try.prog.plainKeys)) = true := by kernel_rfl
theorem fact23 : (Rows.devLivesRow.shortTexts.isNone) = true := by kernel_rfl
theorem fact24 : (Try.prog.stopsHeard) = true := by kernel_rfl
theorem fact25 : (Try.prog.mayEnter) = true := head_enter
theorem fact26 : ((Rows.devLivesRow.lifted == Try.prog.liftsFinal)) = true := by rw [head_finals]; rfl
theorem fact27 : ((Try.prog.make == some Rows.devLivesRow.make)) = true := by rw [head_make]; rfl
theorem fact28 : ((Rows.devLivesRow.kinds == (if Rows.devLivesRow.domain.isEmpty then [] else Try.f11.params.toList.map fun t => match Try.prog.underlying t with | some (.int k) => some k | _ => none))) = true := by kernel_rfl
theorem fact29 : ((Rows.devLivesRow.pinned == Rows.devLivesRow.pinnedBy)) = true := by kernel_rfl
theorem fact30 : ((Rows.devLivesRow.veiled == (Try.f11.params.toList ++ Rows.devLivesSpec.plain.varTypes Try.prog ++ Try.f11.resultTypes.toList).any (Try.prog.veiledRec ·))) = true := by kernel_rfl
theorem fact31 : (Rows.devLivesRow.veiledFits Try.prog Try.f11.params.toList (Try.f11.params.toList ++ Rows.devLivesSpec.plain.varTypes Try.prog ++ Try.f11.resultTypes.toList)) = true := by kernel_rfl
theorem facts : joinedFacts Try.prog 11 Try.f11 Rows.devLivesSpec Rows.devLivesRow = true := by
  simp only [joinedFacts, Bool.and_eq_true]
  exact ⟨⟨⟨⟨⟨⟨⟨⟨⟨⟨⟨⟨⟨⟨⟨⟨⟨⟨⟨⟨⟨⟨⟨⟨⟨⟨⟨⟨⟨⟨⟨fact0, fact1⟩, fact2⟩, fact3⟩, fact4⟩, fact5⟩, fact6⟩, fact7⟩, fact8⟩, fact9⟩, fact10⟩, fact11⟩, fact12⟩, fact13⟩, fact14⟩, fact15⟩, fact16⟩, fact17⟩, fact18⟩, fact19⟩, fact20⟩, fact21⟩, fact22⟩, fact23⟩, fact24⟩, fact25⟩, fact26⟩, fact27⟩, fact28⟩, fact29⟩, fact30⟩, fact31⟩
theorem hfn : Try.prog.funcNamed Rows.devLivesRow.func = some 11 := by kernel_rfl
end Go.Proofs.Yteeamlidmkpohaa.devLives
