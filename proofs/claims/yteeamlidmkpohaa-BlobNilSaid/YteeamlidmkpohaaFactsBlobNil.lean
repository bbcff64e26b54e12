/-
  The closed facts of the row of BlobNil, one by one.
-/
import Derived.Test.YteeamlidmkpohaaRows
import Derived.Test.YteeamlidmkpohaaHead
import Derived.WalkKit
import Derived.ProofKit
namespace Go.Proofs.Yteeamlidmkpohaa.blobNil
set_option maxRecDepth 100000
theorem fact0 : (Rows.blobNilRow.wf (OpenSpec.ofChange Rows.blobNilSpec)) = true := by kernel_rfl
theorem fact1 : (laidOutB Try.prog) = true := by kernel_rfl
theorem fact2 : (mapsRowed Try.prog) = true := by kernel_rfl
theorem fact3 : (Try.f22.params.all (Try.prog.readableRec ·)) = true := by kernel_rfl
theorem fact4 : (namedTie Try.prog Rows.blobNilRow.named Rows.blobNilSpec.vars) = true := by kernel_rfl
theorem fact5 : ((Rows.blobNilRow.stops == [])) = true := by kernel_rfl
theorem fact6 : ((Try.prog.stops == [])) = true := by kernel_rfl
theorem fact7 : ((Rows.blobNilRow.knobs == [])) = true := by kernel_rfl
theorem fact8 : ((Try.prog.stopKnobs == [])) = true := by kernel_rfl
theorem fact9 : ((Rows.blobNilRow.inPlace == Try.prog.inPlace 22)) = true := by kernel_rfl
theorem fact10 : ((Rows.blobNilRow.unfollowed == Try.prog.unfollowed 22)) = true := by kernel_rfl
theorem fact11 : ((Rows.blobNilRow.recurses == Try.prog.recurses 22)) = true := by kernel_rfl
theorem fact12 : ((Rows.blobNilRow.named == Try.prog.varsNamed 22)) = true := by kernel_rfl
theorem fact13 : ((Rows.blobNilRow.maps == (Try.f22.params.toList ++ Rows.blobNilSpec.plain.varTypes Try.prog).any (Try.prog.mapsRec ·))) = true := by kernel_rfl
theorem fact14 : ((Rows.blobNilRow.ifaces == (Try.f22.params.toList ++ Rows.blobNilSpec.plain.varTypes Try.prog).any (Try.prog.ifacesRec ·))) = true := by kernel_rfl
theorem fact15 : ((Rows.blobNilRow.mapsOut == Try.prog.mapsAmong Try.f22.resultTypes.toList)) = true := by kernel_rfl
theorem fact16 : ((Rows.blobNilRow.loops == (Try.f22.params.toList ++ Rows.blobNilSpec.plain.varTypes Try.prog).any (Try.prog.loopsFrom ·))) = true := by kernel_rfl
theorem fact17 : ((Rows.blobNilRow.wideKeys == (Try.f22.params.toList ++ Rows.blobNilSpec.plain.varTypes Try.prog ++ Try.f22.resultTypes.toList).any (Try.prog.wideKeysFrom ·))) = true := by kernel_rfl
theorem fact18 : (Rows.blobNilSpec.vars.all (Try.prog.varReadable ·)) = true := by kernel_rfl
theorem fact19 : (Try.f22.resultTypes.all (fun t => Try.prog.readableRec t && decide (t < Try.prog.types.size))) = true := by kernel_rfl
theorem fact20 : ((Rows.blobNilRow.ifacesOut == Try.f22.resultTypes.toList.any (Try.prog.ifacesRec ·))) = true := by kernel_rfl
theorem fact21 : ((Rows.blobNilRow.loopsOut == Try.f22.resultTypes.toList.any (Try.prog.loopsFrom ·))) = true := by kernel_rfl
theorem fact22 : ((Rows.blobNilRow.plainKeys == Try.prog.plainKeys)) = true := by kernel_rfl
theorem fact23 : (Rows.blobNilRow.shortTexts.isNone) = true := by kernel_rfl
theorem fact24 : (Try.prog.stopsHeard) = true := by kernel_rfl
theorem fact25 : (Try.prog.mayEnter) = true := head_enter
theorem fact26 : ((Rows.blobNilRow.lifted == Try.prog.liftsFinal)) = true := by rw [head_finals]; rfl
theorem fact27 : ((Try.prog.make == some Rows.blobNilRow.make)) = true := by rw [head_make]; rfl
theorem fact28 : ((Rows.blobNilRow.kinds == (if Rows.blobNilRow.domain.isEmpty then [] else Try.f22.params.toList.map fun t => match Try.prog.underlying t with | some (.int k) => some k | _ => none))) = true := by kernel_rfl
theorem fact29 : ((Rows.blobNilRow.pinned == Rows.blobNilRow.pinnedBy)) = true := by kernel_rfl
theorem fact30 : ((Rows.blobNilRow.veiled == (Try.f22.params.toList ++ Rows.blobNilSpec.plain.varTypes Try.prog ++ Try.f22.resultTypes.toList).any (Try.prog.veiledRec ·))) = true := by kernel_rfl
theorem fact31 : (Rows.blobNilRow.veiledFits Try.prog Try.f22.params.toList (Try.f22.params.toList ++ Rows.blobNilSpec.plain.varTypes Try.prog ++ Try.f22.resultTypes.toList)) = true := by kernel_rfl
theorem facts : joinedFacts Try.prog 22 Try.f22 Rows.blobNilSpec Rows.blobNilRow = true := by
  simp only [joinedFacts, Bool.and_eq_true]
  exact ⟨⟨⟨⟨⟨⟨⟨⟨⟨⟨⟨⟨⟨⟨⟨⟨⟨⟨⟨⟨⟨⟨⟨⟨⟨⟨⟨⟨⟨⟨⟨fact0, fact1⟩, fact2⟩, fact3⟩, fact4⟩, fact5⟩, fact6⟩, fact7⟩, fact8⟩, fact9⟩, fact10⟩, fact11⟩, fact12⟩, fact13⟩, fact14⟩, fact15⟩, fact16⟩, fact17⟩, fact18⟩, fact19⟩, fact20⟩, fact21⟩, fact22⟩, fact23⟩, fact24⟩, fact25⟩, fact26⟩, fact27⟩, fact28⟩, fact29⟩, fact30⟩, fact31⟩
theorem hfn : Try.prog.funcNamed Rows.blobNilRow.func = some 22 := by kernel_rfl
end Go.Proofs.Yteeamlidmkpohaa.blobNil
