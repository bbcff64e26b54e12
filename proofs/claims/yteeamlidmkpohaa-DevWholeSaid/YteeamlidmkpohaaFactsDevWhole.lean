/-
  The closed facts of the row of DevWhole, one by one.
-/
import Derived.Test.YteeamlidmkpohaaRows
import Derived.Test.YteeamlidmkpohaaHead
import Derived.WalkKit
import Derived.ProofKit
namespace Go.Proofs.Yteeamlidmkpohaa.devWhole
set_option maxRecDepth 100000
theorem fact0 : (Rows.devWholeRow.wf (OpenSpec.ofChange Rows.devWholeSpec)) = true := by kernel_rfl
theorem fact1 : (laidOutB Try.prog) = true := by kernel_rfl
theorem fact2 : (mapsRowed Try.prog) = true := by kernel_rfl
theorem fact3 : (Try.f7.params.all (Try.prog.readableRec ·)) = true := by kernel_rfl
theorem fact4 : (namedTie Try.prog Rows.devWholeRow.named Rows.devWholeSpec.vars) = true := by kernel_rfl
theorem fact5 : ((Rows.devWholeRow.stops == [])) = true := by kernel_rfl
theorem fact6 : ((Try.prog.stops == [])) = true := by kernel_rfl
theorem fact7 : ((Rows.devWholeRow.knobs == [])) = true := by kernel_rfl
theorem fact8 : ((Try.prog.stopKnobs == [])) = true := by kernel_rfl
theorem fact9 : ((Rows.devWholeRow.inPlace == Try.prog.inPlace 7)) = true := by kernel_rfl
theorem fact10 : ((Rows.devWholeRow.unfollowed == Try.prog.unfollowed 7)) = true := by kernel_rfl
theorem fact11 : ((Rows.devWholeRow.recurses == Try.prog.recurses 7)) = true := by kernel_rfl
theorem fact12 : ((Rows.devWholeRow.named == Try.prog.varsNamed 7)) = true := by kernel_rfl
theorem fact13 : ((Rows.devWholeRow.maps == (Try.f7.params.toList ++ Rows.devWholeSpec.plain.varTypes Try.prog).any (Try.prog.mapsRec ·))) = true := by kernel_rfl
theorem fact14 : ((Rows.devWholeRow.ifaces == (Try.f7.params.toList ++ Rows.devWholeSpec.plain.varTypes Try.prog).any (Try.prog.ifacesRec ·))) = true := by kernel_rfl
theorem fact15 : ((Rows.devWholeRow.mapsOut == Try.prog.mapsAmong Try.f7.resultTypes.toList)) = true := by kernel_rfl
theorem fact16 : ((Rows.devWholeRow.loops == (Try.f7.params.toList ++ Rows.devWholeSpec.plain.varTypes Try.prog).any (Try.prog.loopsFrom ·))) = true := by kernel_rfl
theorem fact17 : ((Rows.devWholeRow.wideKeys == (Try.f7.params.toList ++ Rows.devWholeSpec.plain.varTypes Try.prog ++ Try.f7.resultTypes.toList).any (Try.prog.wideKeysFrom ·))) = true := by kernel_rfl
theorem fact18 : (Rows.devWholeSpec.vars.all (Try.prog.varReadable ·)) = true := by kernel_rfl
theorem fact19 : (Try.f7.resultTypes.all (fun t => Try.prog.readableRec t && decide (t < Try.prog.types.size))) = true := by kernel_rfl
theorem fact20 : ((Rows.devWholeRow.ifacesOut == Try.f7.resultTypes.toList.any (Try.prog.ifacesRec ·))) = true := by kernel_rfl
theorem fact21 : ((Rows.devWholeRow.loopsOut == Try.f7.resultTypes.toList.any (Try.prog.loopsFrom ·))) = true := by kernel_rfl
theorem fact22 : ((Rows.devWholeRow.plainKeys == Try.prog.plainKeys)) = true := by kernel_rfl
theorem fact23 : (Rows.devWholeRow.shortTexts.isNone) = true := by kernel_rfl
theorem fact24 : (Try.prog.stopsHeard) = true := by kernel_rfl
theorem fact25 : (Try.prog.mayEnter) = true := head_enter
theorem fact26 : ((Rows.devWholeRow.lifted == Try.prog.liftsFinal)) = true := by rw [head_finals]; rfl
theorem fact27 : ((Try.prog.make == some Rows.devWholeRow.make)) = true := by rw [head_make]; rfl
theorem fact28 : ((Rows.devWholeRow.kinds == (if Rows.devWholeRow.domain.isEmpty then [] else Try.f7.params.toList.map fun t => match Try.prog.underlying t with | some (.int k) => some k | _ => none))) = true := by kernel_rfl
theorem fact29 : ((Rows.devWholeRow.pinned == Rows.devWholeRow.pinnedBy)) = true := by kernel_rfl
theorem fact30 : ((Rows.devWholeRow.veiled == (Try.f7.params.toList ++ Rows.devWholeSpec.plain.varTypes Try.prog ++ Try.f7.resultTypes.toList).any (Try.prog.veiledRec ·))) = true := by kernel_rfl
theorem fact31 : (Rows.devWholeRow.veiledFits Try.prog Try.f7.params.toList (Try.f7.params.toList ++ Rows.devWholeSpec.plain.varTypes Try.prog ++ Try.f7.resultTypes.toList)) = true := by kernel_rfl
theorem facts : joinedFacts Try.prog 7 Try.f7 Rows.devWholeSpec Rows.devWholeRow = true := by
  simp only [joinedFacts, Bool.and_eq_true]
  exact ⟨⟨⟨⟨⟨⟨⟨⟨⟨⟨⟨⟨⟨⟨⟨⟨⟨⟨⟨⟨⟨⟨⟨⟨⟨⟨⟨⟨⟨⟨⟨fact0, fact1⟩, fact2⟩, fact3⟩, fact4⟩, fact5⟩, fact6⟩, fact7⟩, fact8⟩, fact9⟩, fact10⟩, fact11⟩, fact12⟩, fact13⟩, fact14⟩, fact15⟩, fact16⟩, fact17⟩, fact18⟩, fact19⟩, fact20⟩, fact21⟩, fact22⟩, fact23⟩, fact24⟩, fact25⟩, fact26⟩, fact27⟩, fact28⟩, fact29⟩, fact30⟩, fact31⟩
theorem hfn : Try.prog.funcNamed Rows.devWholeRow.func = some 7 := by kernel_rfl
end Go.Proofs.Yteeamlidmkpohaa.devWhole
