/-
  The closed facts of the row of BlobNumbers, one by one.
-/
import Derived.Test.YteeamlidmkpohaaRows
import Derived.Test.YteeamlidmkpohaaHead
import Derived.WalkKit
import Derived.ProofKit
namespace Go.Proofs.Yteeamlidmkpohaa.blobNumbers
set_option maxRecDepth 100000
theorem fact0 : (Rows.blobNumbersRow.wf (OpenSpec.ofChange Rows.blobNumbersSpec)) = true := by kernel_rfl
theorem fact1 : (laidOutB Try.prog) = true := by kernel_rfl
theorem fact2 : (mapsRowed Try.prog) = true := by kernel_rfl
theorem fact3 : (Try.f25.params.all (Try.prog.readableRec ·)) = true := by kernel_rfl
theorem fact4 : (namedTie Try.prog Rows.blobNumbersRow.named Rows.blobNumbersSpec.vars) = true := by kernel_rfl
theorem fact5 : ((Rows.blobNumbersRow.stops == [])) = true := by kernel_rfl
theorem fact6 : ((Try.prog.stops == [])) = true := by kernel_rfl
theorem fact7 : ((Rows.blobNumbersRow.knobs == [])) = true := by kernel_rfl
theorem fact8 : ((Try.prog.stopKnobs == [])) = true := by kernel_rfl
theorem fact9 : ((Rows.blobNumbersRow.inPlace == Try.prog.inPlace 25)) = true := by kernel_rfl
theorem fact10 : ((Rows.blobNumbersRow.unfollowed == Try.prog.unfollowed 25)) = true := by kernel_rfl
theorem fact11 : ((Rows.blobNumbersRow.recurses == Try.prog.recurses 25)) = true := by kernel_rfl
theorem fact12 : ((Rows.blobNumbersRow.named == Try.prog.varsNamed 25)) = true := by kernel_rfl
theorem fact13 : ((Rows.blobNumbersRow.maps == (Try.f25.params.toList ++ Rows.blobNumbersSpec.plain.varTypes Try.prog).any (Try.prog.mapsRec ·))) = true := by kernel_rfl
theorem fact14 : ((Rows.blobNumbersRow.ifaces == (Try.f25.params.toList ++ Rows.blobNumbersSpec.plain.varTypes Try.prog).any (Try.prog.ifacesRec ·))) = true := by kernel_rfl
theorem fact15 : ((Rows.blobNumbersRow.mapsOut == Try.prog.mapsAmong Try.f25.resultTypes.toList)) = true := by kernel_rfl
theorem fact16 : ((Rows.blobNumbersRow.loops == (Try.f25.params.toList ++ Rows.blobNumbersSpec.plain.varTypes Try.prog).any (Try.prog.loopsFrom ·))) = true := by kernel_rfl
theorem fact17 : ((Rows.blobNumbersRow.wideKeys == (Try.f25.params.toList ++ Rows.blobNumbersSpec.plain.varTypes Try.prog ++ Try.f25.resultTypes.toList).any (Try.prog.wideKeysFrom ·))) = true := by kernel_rfl
theorem fact18 : (Rows.blobNumbersSpec.vars.all (Try.prog.varReadable ·)) = true := by kernel_rfl
theorem fact19 : (Try.f25.resultTypes.all (fun t => Try.prog.readableRec t && decide (t < Try.prog.types.size))) = true := by kernel_rfl
theorem fact20 : ((Rows.blobNumbersRow.ifacesOut == Try.f25.resultTypes.toList.any (Try.prog.ifacesRec ·))) = true := by kernel_rfl
theorem fact21 : ((Rows.blobNumbersRow.loopsOut == Try.f25.resultTypes.toList.any (Try.prog.loopsFrom ·))) = true := by kernel_rfl
theorem fact22 : ((Rows.blobNumbersRow.plainKeys == Try.prog.plainKeys)) = true := by kernel_rfl
theorem fact23 : (Rows.blobNumbersRow.shortTexts.isNone) = true := by kernel_rfl
theorem fact24 : (Try.prog.stopsHeard) = true := by kernel_rfl
theorem fact25 : (Try.prog.mayEnter) = true := head_enter
theorem fact26 : ((Rows.blobNumbersRow.lifted == Try.prog.liftsFinal)) = true := by rw [head_finals]; rfl
theorem fact27 : ((Try.prog.make == some Rows.blobNumbersRow.make)) = true := by rw [head_make]; rfl
theorem fact28 : ((Rows.blobNumbersRow.kinds == (if Rows.blobNumbersRow.domain.isEmpty then [] else Try.f25.params.toList.map fun t => match Try.prog.underlying t with | some (.int k) => some k | _ => none))) = true := by kernel_rfl
theorem fact29 : ((Rows.blobNumbersRow.pinned == Rows.blobNumbersRow.pinnedBy)) = true := by kernel_rfl
theorem fact30 : ((Rows.blobNumbersRow.veiled == (Try.f25.params.toList ++ Rows.blobNumbersSpec.plain.varTypes Try.prog ++ Try.f25.resultTypes.toList).any (Try.prog.veiledRec ·))) = true := by kernel_rfl
theorem fact31 : (Rows.blobNumbersRow.veiledFits Try.prog Try.f25.params.toList (Try.f25.params.toList ++ Rows.blobNumbersSpec.plain.varTypes Try.prog ++ Try.f25.resultTypes.toList)) = true := by kernel_rfl
theorem facts : joinedFacts Try.prog 25 Try.f25 Rows.blobNumbersSpec Rows.blobNumbersRow = true := by
  simp only [joinedFacts, Bool.and_eq_true]
  exact ⟨⟨⟨⟨⟨⟨⟨⟨⟨⟨⟨⟨⟨⟨⟨⟨⟨⟨⟨⟨⟨⟨⟨⟨⟨⟨⟨⟨⟨⟨⟨fact0, fact1⟩, fact2⟩, fact3⟩, fact4⟩, fact5⟩, fact6⟩, fact7⟩, fact8⟩, fact9⟩, fact10⟩, fact11⟩, fact12⟩, fact13⟩, fact14⟩, fact15⟩, fact16⟩, fact17⟩, fact18⟩, fact19⟩, fact20⟩, fact21⟩, fact22⟩, fact23⟩, fact24⟩, fact25⟩, fact26⟩, fact27⟩, fact28⟩, fact29⟩, fact30⟩, fact31⟩
theorem hfn : Try.prog.funcNamed Rows.blobNumbersRow.func = some 25 := by kernel_rfl
end Go.Proofs.Yteeamlidmkpohaa.blobNumbers
