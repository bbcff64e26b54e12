/-
  The closed facts of the row of CacheLives, one by one.
-/
import Derived.Test.YteeamlidmkpohaaRows
import Derived.Test.YteeamlidmkpohaaHead
import Derived.WalkKit
import Derived.ProofKit
namespace Go.Proofs.Yteeamlidmkpohaa.cacheLives
set_option maxRecDepth 100000
theorem fact0 : (Rows.cacheLivesRow.wf (OpenSpec.ofChange Rows.cacheLivesSpec)) = true := by kernel_rfl
theorem fact1 : (laidOutB Try.prog) = true := by kernel_rfl
theorem fact2 : (mapsRowed Try.prog) = true := by kernel_rfl
theorem fact3 : (Try.f20.params.all (Try.prog.readableRec ·)) = true := by kernel_rfl
theorem fact4 : (namedTie Try.prog Rows.cacheLivesRow.named Rows.cacheLivesSpec.vars) = true := by kernel_rfl
theorem fact5 : ((Rows.cacheLivesRow.stops == [])) = true := by kernel_rfl
theorem fact6 : ((Try.prog.stops == [])) = true := by kernel_rfl
theorem fact7 : ((Rows.cacheLivesRow.knobs == [])) = true := by kernel_rfl
theorem fact8 : ((Try.prog.stopKnobs == [])) = true := by kernel_rfl
theorem fact9 : ((Rows.cacheLivesRow.inPlace == Try.prog.inPlace 20)) = true := by kernel_rfl
theorem fact10 : ((Rows.cacheLivesRow.unfollowed == Try.prog.unfollowed 20)) = true := by kernel_rfl
theorem fact11 : ((Rows.cacheLivesRow.recurses == Try.prog.recurses 20)) = true := by kernel_rfl
theorem fact12 : ((Rows.cacheLivesRow.named == Try.prog.varsNamed 20)) = true := by kernel_rfl
theorem fact13 : ((Rows.cacheLivesRow.maps == (Try.f20.params.toList ++ Rows.cacheLivesSpec.plain.varTypes Try.prog).any (Try.prog.mapsRec ·))) = true := by kernel_rfl
theorem fact14 : ((Rows.cacheLivesRow.ifaces == (Try.f20.params.toList ++ Rows.cacheLivesSpec.plain.varTypes Try.prog).any (Try.prog.ifacesRec ·))) = true := by kernel_rfl
theorem fact15 : ((Rows.cacheLivesRow.mapsOut == Try.prog.mapsAmong Try.f20.resultTypes.toList)) = true := by kernel_rfl
theorem fact16 : ((Rows.cacheLivesRow.loops == (Try.f20.params.toList ++ Rows.cacheLivesSpec.plain.varTypes Try.prog).any (Try.prog.loopsFrom ·))) = true := by kernel_rfl
theorem fact17 : ((Rows.cacheLivesRow.wideKeys == (Try.f20.params.toList ++ Rows.cacheLivesSpec.plain.varTypes Try.prog ++ Try.f20.resultTypes.toList).any (Try.prog.wideKeysFrom ·))) = true := by kernel_rfl
theorem fact18 : (Rows.cacheLivesSpec.vars.all (Try.prog.varReadable ·)) = true := by kernel_rfl
theorem fact19 : (Try.f20.resultTypes.all (fun t => Try.prog.readableRec t && decide (t < Try.prog.types.size))) = true := by kernel_rfl
theorem fact20 : ((Rows.cacheLivesRow.ifacesOut == Try.f20.resultTypes.toList.any (Try.prog.ifacesRec ·))) = true := by kernel_rfl
theorem fact21 : ((Rows.cacheLivesRow.loopsOut == Try.f20.resultTypes.toList.any (Try.prog.loopsFrom ·))) = true := by kernel_rfl
theorem fact22 : ((Rows.cacheLivesRow.plainKeys == Try.prog.plainKeys)) = true := by kernel_rfl
theorem fact23 : (Rows.cacheLivesRow.shortTexts.isNone) = true := by kernel_rfl
theorem fact24 : (Try.prog.stopsHeard) = true := by kernel_rfl
theorem fact25 : (Try.prog.mayEnter) = true := head_enter
theorem fact26 : ((Rows.cacheLivesRow.lifted == Try.prog.liftsFinal)) = true := by rw [head_finals]; rfl
theorem fact27 : ((Try.prog.make == some Rows.cacheLivesRow.make)) = true := by rw [head_make]; rfl
theorem fact28 : ((Rows.cacheLivesRow.kinds == (if Rows.cacheLivesRow.domain.isEmpty then [] else Try.f20.params.toList.map fun t => match Try.prog.underlying t with | some (.int k) => some k | _ => none))) = true := by kernel_rfl
theorem fact29 : ((Rows.cacheLivesRow.pinned == Rows.cacheLivesRow.pinnedBy)) = true := by kernel_rfl
theorem fact30 : ((Rows.cacheLivesRow.veiled == (Try.f20.params.toList ++ Rows.cacheLivesSpec.plain.varTypes Try.prog ++ Try.f20.resultTypes.toList).any (Try.prog.veiledRec ·))) = true := by kernel_rfl
theorem fact31 : (Rows.cacheLivesRow.veiledFits Try.prog Try.f20.params.toList (Try.f20.params.toList ++ Rows.cacheLivesSpec.plain.varTypes Try.prog ++ Try.f20.resultTypes.toList)) = true := by kernel_rfl
theorem facts : joinedFacts Try.prog 20 Try.f20 Rows.cacheLivesSpec Rows.cacheLivesRow = true := by
  simp only [joinedFacts, Bool.and_eq_true]
  exact ⟨⟨⟨⟨⟨⟨⟨⟨⟨⟨⟨⟨⟨⟨⟨⟨⟨⟨⟨⟨⟨⟨⟨⟨⟨⟨⟨⟨⟨⟨⟨fact0, fact1⟩, fact2⟩, fact3⟩, fact4⟩, fact5⟩, fact6⟩, fact7⟩, fact8⟩, fact9⟩, fact10⟩, fact11⟩, fact12⟩, fact13⟩, fact14⟩, fact15⟩, fact16⟩, fact17⟩, fact18⟩, fact19⟩, fact20⟩, fact21⟩, fact22⟩, fact23⟩, fact24⟩, fact25⟩, fact26⟩, fact27⟩, fact28⟩, fact29⟩, fact30⟩, fact31⟩
theorem hfn : Try.prog.funcNamed Rows.cacheLivesRow.func = some 20 := by kernel_rfl
end Go.Proofs.Yteeamlidmkpohaa.cacheLives
