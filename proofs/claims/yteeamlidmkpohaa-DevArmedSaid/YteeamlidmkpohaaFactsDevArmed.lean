/-
  The closed facts of the row of DevArmed, one by one.
-/
import Derived.Test.YteeamlidmkpohaaRows
import Derived.Test.YteeamlidmkpohaaHead
import Derived.WalkKit
import Derived.ProofKit
namespace Go.Proofs.Yteeamlidmkpohaa.devArmed
set_option maxRecDepth 100000
theorem fact0 : (Rows.devArmedRow.wf (OpenSpec.ofChange Rows.devArmedSpec)) = true := by kernel_rfl
theorem fact1 : (laidOutB Try.prog) = true := by kernel_rfl
theorem fact2 : (mapsRowed Try.prog) = true := by kernel_rfl
theorem fact3 : (Try.f10.params.all (Try.prog.readableRec ·)) = true := by kernel_rfl
theorem fact4 : (namedTie Try.prog Rows.devArmedRow.named Rows.devArmedSpec.vars) = true := by kernel_rfl
theorem fact5 : ((Rows.devArmedRow.stops == [])) = true := by kernel_rfl
theorem fact6 : ((Try.prog.stops == [])) = true := by kernel_rfl
theorem fact7 : ((Rows.devArmedRow.knobs == [])) = true := by kernel_rfl
theorem fact8 : ((Try.prog.stopKnobs == [])) = true := by kernel_rfl
theorem fact9 : ((Rows.devArmedRow.inPlace == Try.prog.inPlace 10)) = true := by kernel_rfl
theorem fact10 : ((Rows.devArmedRow.unfollowed == Try.prog.unfollowed 10)) = true := by kernel_rfl
theorem fact11 : ((Rows.devArmedRow.recurses == Try.prog.recurses 10)) = true := by kernel_rfl
theorem fact12 : ((Rows.devArmedRow.named == Try.prog.varsNamed 10)) = true := by kernel_rfl
theorem fact13 : ((Rows.devArmedRow.maps == (Try.f10.params.toList ++ Rows.devArmedSpec.plain.varTypes Try.prog).any (Try.prog.mapsRec ·))) = true := by kernel_rfl
theorem fact14 : ((Rows.devArmedRow.ifaces == (Try.f10.params.toList ++ Rows.devArmedSpec.plain.varTypes Try.prog).any (Try.prog.ifacesRec ·))) = true := by kernel_rfl
theorem fact15 : ((Rows.devArmedRow.mapsOut == Try.prog.mapsAmong Try.f10.resultTypes.toList)) = true := by kernel_rfl
theorem fact16 : ((Rows.devArmedRow.loops == (Try.f10.params.toList ++ Rows.devArmedSpec.plain.varTypes Try.prog).any (Try.prog.loopsFrom ·))) = true := by kernel_rfl
theorem fact17 : ((Rows.devArmedRow.wideKeys == (Try.f10.params.toList ++ Rows.devArmedSpec.plain.varTypes Try.prog ++ Try.f10.resultTypes.toList).any (Try.prog.wideKeysFrom ·))) = true := by kernel_rfl
theorem fact18 : (Rows.devArmedSpec.vars.all (Try.prog.varReadable ·)) = true := by kernel_rfl
theorem fact19 : (Try.f10.resultTypes.all (fun t => Try.prog.readableRec t && decide (t < Try.prog.types.size))) = true := by kernel_rfl
theorem fact20 : ((Rows.devArmedRow.ifacesOut == Try.f10.resultTypes.toList.any (Try.prog.ifacesRec ·))) = true := by kernel_rfl
theorem fact21 : ((Rows.devArmedRow.loopsOut == Try.f10.resultTypes.toList.any (Try.prog.loopsFrom ·))) = true := by kernel_rfl
theorem fact22 : ((Rows.devArmedRow.plainKeys == Try.prog.plainKeys)) = true := by kernel_rfl
theorem fact23 : (Rows.devArmedRow.shortTexts.isNone) = true := by kernel_rfl
theorem fact24 : (Try.prog.stopsHeard) = true := by kernel_rfl
theorem fact25 : (Try.prog.mayEnter) = true := head_enter
theorem fact26 : ((Rows.devArmedRow.lifted == Try.prog.liftsFinal)) = true := by rw [head_finals]; rfl
theorem fact27 : ((Try.prog.make == some Rows.devArmedRow.make)) = true := by rw [head_make]; rfl
theorem fact28 : ((Rows.devArmedRow.kinds == (if Rows.devArmedRow.domain.isEmpty then [] else Try.f10.params.toList.map fun t => match Try.prog.underlying t with | some (.int k) => some k | _ => none))) = true := by kernel_rfl
theorem fact29 : ((Rows.devArmedRow.pinned == Rows.devArmedRow.pinnedBy)) = true := by kernel_rfl
theorem fact30 : ((Rows.devArmedRow.veiled == (Try.f10.params.toList ++ Rows.devArmedSpec.plain.varTypes Try.prog ++ Try.f10.resultTypes.toList).any (Try.prog.veiledRec ·))) = true := by kernel_rfl
theorem fact31 : (Rows.devArmedRow.veiledFits Try.prog Try.f10.params.toList (Try.f10.params.toList ++ Rows.devArmedSpec.plain.varTypes Try.prog ++ Try.f10.resultTypes.toList)) = true := by kernel_rfl
theorem facts : joinedFacts Try.prog 10 Try.f10 Rows.devArmedSpec Rows.devArmedRow = true := by
  simp only [joinedFacts, Bool.and_eq_true]
  exact ⟨⟨⟨⟨⟨⟨⟨⟨⟨⟨⟨⟨⟨⟨⟨⟨⟨⟨⟨⟨⟨⟨⟨⟨⟨⟨⟨⟨⟨⟨⟨fact0, fact1⟩, fact2⟩, fact3⟩, fact4⟩, fact5⟩, fact6⟩, fact7⟩, fact8⟩, fact9⟩, fact10⟩, fact11⟩, fact12⟩, fact13⟩, fact14⟩, fact15⟩, fact16⟩, fact17⟩, fact18⟩, fact19⟩, fact20⟩, fact21⟩, fact22⟩, fact23⟩, fact24⟩, fact25⟩, fact26⟩, fact27⟩, fact28⟩, fact29⟩, fact30⟩, fact31⟩
theorem hfn : Try.prog.funcNamed Rows.devArmedRow.func = some 10 := by kernel_rfl
end Go.Proofs.Yteeamlidmkpohaa.devArmed
