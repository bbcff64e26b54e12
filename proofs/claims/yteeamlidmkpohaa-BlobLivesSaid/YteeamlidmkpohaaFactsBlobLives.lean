/-
  The closed facts of the row of BlobLives, one by one.
-/
import Derived.Test.YteeamlidmkpohaaRows
import Derived.Test.YteeamlidmkpohaaHead
import Derived.WalkKit
import Derived.ProofKit
namespace Go.Proofs.Yteeamlidmkpohaa.blobLives
set_option maxRecDepth 100000
theorem fact0 : (Rows.blobLivesRow.wf (OpenSpec.ofChange Rows.blobLivesSpec)) = true := by kernel_rfl
theorem fact1 : (laidOutB Try.prog) = true := by kernel_rfl
theorem fact2 : (mapsRowed Try.prog) = true := by kernel_rfl
theorem fact3 : (Try.f24.params.all (Try.prog.readableRec ·)) = true := by kernel_rfl
theorem fact4 : (namedTie Try.prog Rows.blobLivesRow.named Rows.blobLivesSpec.vars) = true := by kernel_rfl
theorem fact5 : ((Rows.blobLivesRow.stops == [])) = true := by kernel_rfl
theorem fact6 : ((Try.prog.stops == [])) = true := by kernel_rfl
theorem fact7 : ((Rows.blobLivesRow.knobs == [])) = true := by kernel_rfl
theorem fact8 : ((Try.prog.stopKnobs == [])) = true := by kernel_rfl
theorem fact9 : ((Rows.blobLivesRow.inPlace == Try.prog.inPlace 24)) = true := by kernel_rfl
theorem fact10 : ((Rows.blobLivesRow.unfollowed == Try.prog.unfollowed 24)) = true := by kernel_rfl
theorem fact11 : ((Rows.blobLivesRow.recurses == Try.prog.recurses 24)) = true := by kernel_rfl
theorem fact12 : ((Rows.blobLivesRow.named == Try.prog.varsNamed 24)) = true := by kernel_rfl
theorem fact13 : ((Rows.blobLivesRow.maps == (Try.f24.params.toList ++ Rows.blobLivesSpec.plain.varTypes Try.prog).any (Try.prog.mapsRec ·))) = true := by kernel_rfl
theorem fact14 : ((Rows.blobLivesRow.ifaces == (Try.f24.params.toList ++ Rows.blobLivesSpec.plain.varTypes Try.prog).any (Try.prog.ifacesRec ·))) = true := by kernel_rfl
theorem fact15 : ((Rows.blobLivesRow.mapsOut == Try.prog.mapsAmong Try.f24.resultTypes.toList)) = true := by kernel_rfl
theorem fact16 : ((Rows.blobLivesRow.loops == (Try.f24.params.toList ++ Rows.blobLivesSpec.plain.varTypes Try.prog).any (Try.prog.loopsFrom ·))) = true := by kernel_rfl
theorem fact17 : ((Rows.blobLivesRow.wideKeys == (Try.f24.params.toList ++ Rows.blobLivesSpec.plain.varTypes Try.prog ++ Try.f24.resultTypes.toList).any (Try.prog.wideKeysFrom ·))) = true := by kernel_rfl
theorem fact18 : (Rows.blobLivesSpec.vars.all (Try.prog.varReadable ·)) = true := by kernel_rfl
theorem fact19 : (Try.f24.resultTypes.all (fun t => Try.prog.readableRec t && decide (t < Try.prog.types.size))) = true := by kernel_rfl
theorem fact20 : ((Rows.blobLivesRow.ifacesOut == Try.f24.resultTypes.toList.any (Try.prog.ifacesRec ·))) = true := by kernel_rfl
theorem fact21 : ((Rows.blobLivesRow.loopsOut == Try.f24.resultTypes.toList.any (Try.prog.loopsFrom ·))) = true := by kernel_rfl
theorem fact22 : ((Rows.blobLivesRow.plainKeys == Try.prog.plainKeys)) = true := by kernel_rfl
theorem fact23 : (Rows.blobLivesRow.shortTexts.isNone) = true := by kernel_rfl
theorem fact24 : (Try.prog.stopsHeard) = true := by kernel_rfl
theorem fact25 : (Try.prog.mayEnter) = true := head_enter
theorem fact26 : ((Rows.blobLivesRow.lifted == Try.prog.liftsFinal)) = true := by rw [head_finals]; rfl
theorem fact27 : ((Try.prog.make == some Rows.blobLivesRow.make)) = true := by rw [head_make]; rfl
theorem fact28 : ((Rows.blobLivesRow.kinds == (if Rows.blobLivesRow.domain.isEmpty then [] else Try.f24.params.toList.map fun t => match Try.prog.underlying t with | some (.int k) => some k | _ => none))) = true := by kernel_rfl
theorem fact29 : ((Rows.blobLivesRow.pinned == Rows.blobLivesRow.pinnedBy)) = true := by kernel_rfl
theorem fact30 : ((Rows.blobLivesRow.veiled == (Try.f24.params.toList ++ Rows.blobLivesSpec.plain.varTypes Try.prog ++ Try.f24.resultTypes.toList).any (Try.prog.veiledRec ·))) = true := by kernel_rfl
theorem fact31 : (Rows.blobLivesRow.veiledFits Try.prog Try.f24.params.toList (Try.f24.params.toList ++ Rows.blobLivesSpec.plain.varTypes Try.prog ++ Try.f24.resultTypes.toList)) = true := by kernel_rfl
theorem facts : joinedFacts Try.prog 24 Try.f24 Rows.blobLivesSpec Rows.blobLivesRow = true := by
  simp only [joinedFacts, Bool.and_eq_true]
  exact ⟨⟨⟨⟨⟨⟨⟨⟨⟨⟨⟨⟨⟨⟨⟨⟨⟨⟨⟨⟨⟨⟨⟨⟨⟨⟨⟨⟨⟨⟨⟨fact0, fact1⟩, fact2⟩, fact3⟩, fact4⟩, fact5⟩, fact6⟩, fact7⟩, fact8⟩, fact9⟩, fact10⟩, fact11⟩, fact12⟩, fact13⟩, fact14⟩, fact15⟩, fact16⟩, fact17⟩, fact18⟩, fact19⟩, fact20⟩, fact21⟩, fact22⟩, fact23⟩, fact24⟩, fact25⟩, fact26⟩, fact27⟩, fact28⟩, fact29⟩, fact30⟩, fact31⟩
theorem hfn : Try.prog.funcNamed Rows.blobLivesRow.func = some 24 := by kernel_rfl
end Go.Proofs.Yteeamlidmkpohaa.blobLives
