/-
  The closed facts of the row of DevNumbers, one by one.
-/
import Derived.Test.YteeamlidmkpohaaRows
import Derived.Test.YteeamlidmkpohaaHead
import Derived.WalkKit
import Derived.ProofKit
namespace Go.Proofs.Yteeamlidmkpohaa.devNumbers
set_option maxRecDepth 100000
theorem fact0 : (Rows.devNumbersRow.wf (OpenSpec.ofChange Rows.devNumbersSpec)) = true := by kernel_rfl
theorem fact1 : (laidOutB Try.prog) = true := by kernel_rfl
theorem fact2 : (mapsRowed Try.prog) = true := by kernel_rfl
theorem fact3 : (Try.f8.params.all (Try.prog.readableRec ·)) = true := by kernel_rfl
theorem fact4 : (namedTie Try.prog Rows.devNumbersRow.named Rows.devNumbersSpec.vars) = true := by kernel_rfl
theorem fact5 : ((Rows.devNumbersRow.stops == [])) = true := by kernel_rfl
theorem fact6 : ((Try.prog.stops == [])) = true := by kernel_rfl
theorem fact7 : ((Rows.devNumbersRow.knobs == [])) = true := by kernel_rfl
theorem fact8 : ((Try.prog.stopKnobs == [])) = true := by kernel_rfl
theorem fact9 : ((Rows.devNumbersRow.inPlace == Try.prog.inPlace 8)) = true := by kernel_rfl
theorem fact10 : ((Rows.devNumbersRow.unfollowed == Try.prog.unfollowed 8)) = true := by kernel_rfl
theorem fact11 : ((Rows.devNumbersRow.recurses == Try.prog.recurses 8)) = true := by kernel_rfl
theorem fact12 : ((Rows.devNumbersRow.named == Try.prog.varsNamed 8)) = true := by kernel_rfl
theorem fact13 : ((Rows.devNumbersRow.maps == (Try.f8.params.toList ++ Rows.devNumbersSpec.plain.varTypes Try.prog).any (Try.prog.mapsRec ·))) = true := by kernel_rfl
theorem fact14 : ((Rows.devNumbersRow.ifaces == (Try.f8.params.toList ++ Rows.devNumbersSpec.plain.varTypes Try.prog).any (Try.prog.ifacesRec ·))) = true := by kernel_rfl
theorem fact15 : ((Rows.devNumbersRow.mapsOut == Try.prog.mapsAmong Try.f8.resultTypes.toList)) = true := by kernel_rfl
theorem fact16 : ((Rows.devNumbersRow.loops == (Try.f8.params.toList ++ Rows.devNumbersSpec.plain.varTypes Try.prog).any (Try.prog.loopsFrom ·))) = true := by kernel_rfl
theorem fact17 : ((Rows.devNumbersRow.wideKeys == (Try.f8.params.toList ++ Rows.devNumbersSpec.plain.varTypes Try.prog ++ Try.f8.resultTypes.toList).any (Try.prog.wideKeysFrom ·))) = true := by kernel_rfl
theorem fact18 : (Rows.devNumbersSpec.vars.all (Try.prog.varReadable ·)) = true := by kernel_rfl
theorem fact19 : (Try.f8.resultTypes.all (fun t => Try.prog.readableRec t && decide (t < Try.prog.types.size))) = true := by kernel_rfl
theorem fact20 : ((Rows.devNumbersRow.ifacesOut == Try.f8.resultTypes.toList.any (Try.prog.ifacesRec ·))) = true := by kernel_rfl
theorem fact21 : ((Rows.devNumbersRow.loopsOut == Try.f8.resultTypes.toList.any (Try.prog.loopsFrom ·))) = true := by kernel_rfl
theorem fact22 : ((Rows.devNumbersRow.plainKeys == Try.prog.plainKeys)) = true := by kernel_rfl
theorem fact23 : (Rows.devNumbersRow.shortTexts.isNone) = true := by kernel_rfl
theorem fact24 : (Try.prog.stopsHeard) = true := by kernel_rfl
theorem fact25 : (Try.prog.mayEnter) = true := head_enter
theorem fact26 : ((Rows.devNumbersRow.lifted == Try.prog.liftsFinal)) = true := by rw [head_finals]; rfl
theorem fact27 : ((Try.prog.make == some Rows.devNumbersRow.make)) = true := by rw [head_make]; rfl
theorem fact28 : ((Rows.devNumbersRow.kinds == (if Rows.devNumbersRow.domain.isEmpty then [] else Try.f8.params.toList.map fun t => match Try.prog.underlying t with | some (.int k) => some k | _ => none))) = true := by kernel_rfl
theorem fact29 : ((Rows.devNumbersRow.pinned == Rows.devNumbersRow.pinnedBy)) = true := by kernel_rfl
theorem fact30 : ((Rows.devNumbersRow.veiled == (Try.f8.params.toList ++ Rows.devNumbersSpec.plain.varTypes Try.prog ++ Try.f8.resultTypes.toList).any (Try.prog.veiledRec ·))) = true := by kernel_rfl
theorem fact31 : (Rows.devNumbersRow.veiledFits Try.prog Try.f8.params.toList (Try.f8.params.toList ++ Rows.devNumbersSpec.plain.varTypes Try.prog ++ Try.f8.resultTypes.toList)) = true := by kernel_rfl
theorem facts : joinedFacts Try.prog 8 Try.f8 Rows.devNumbersSpec Rows.devNumbersRow = true := by
  simp only [joinedFacts, Bool.and_eq_true]
  exact ⟨⟨⟨⟨⟨⟨⟨⟨⟨⟨⟨⟨⟨⟨⟨⟨⟨⟨⟨⟨⟨⟨⟨⟨⟨⟨⟨⟨⟨⟨⟨fact0, fact1⟩, fact2⟩, fact3⟩, fact4⟩, fact5⟩, fact6⟩, fact7⟩, fact8⟩, fact9⟩, fact10⟩, fact11⟩, fact12⟩, fact13⟩, fact14⟩, fact15⟩, fact16⟩, fact17⟩, fact18⟩, fact19⟩, fact20⟩, fact21⟩, fact22⟩, fact23⟩, fact24⟩, fact25⟩, fact26⟩, fact27⟩, fact28⟩, fact29⟩, fact30⟩, fact31⟩
theorem hfn : Try.prog.funcNamed Rows.devNumbersRow.func = some 8 := by kernel_rfl
end Go.Proofs.Yteeamlidmkpohaa.devNumbers
