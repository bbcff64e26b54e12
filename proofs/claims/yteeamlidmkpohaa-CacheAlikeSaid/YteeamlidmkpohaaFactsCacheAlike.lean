/-
  The closed facts of the row of CacheAlike, one by one.
-/
import Derived.Test.YteeamlidmkpohaaRows
import Derived.Test.YteeamlidmkpohaaHead
import Derived.WalkKit
import Derived.ProofKit
namespace Go.Proofs.Yteeamlidmkpohaa.cacheAlike
set_option maxRecDepth 100000
theorem fact0 : (Rows.cacheAlikeRow.wf (OpenSpec.ofChange Rows.cacheAlikeSpec)) = true := by kernel_rfl
theorem fact1 : (laidOutB Try.prog) = true := by kernel_rfl
theorem fact2 : (mapsRowed Try.prog) = true := by kernel_rfl
theorem fact3 : (Try.f23.params.all (Try.prog.readableRec ·)) = true := by kernel_rfl
theorem fact4 : (namedTie Try.prog Rows.cacheAlikeRow.named Rows.cacheAlikeSpec.vars) = true := by kernel_rfl
theorem fact5 : ((Rows.cacheAlikeRow.stops == [])) = true := by kernel_rfl
theorem fact6 : ((Try.prog.stops == [])) = true := by kernel_rfl
theorem fact7 : ((Rows.cacheAlikeRow.knobs == [])) = true := by kernel_rfl
theorem fact8 : ((Try.prog.stopKnobs == [])) = true := by kernel_rfl
theorem fact9 : ((Rows.cacheAlikeRow.inPlace == Try.prog.inPlace 23)) = true := by kernel_rfl
theorem fact10 : ((Rows.cacheAlikeRow.unfollowed == Try.prog.unfollowed 23)) = true := by kernel_rfl
theorem fact11 : ((Rows.cacheAlikeRow.recurses == Try.prog.recurses 23)) = true := by kernel_rfl
theorem fact12 : ((Rows.cacheAlikeRow.named == Try.prog.varsNamed 23)) = true := by kernel_rfl
theorem fact13 : ((Rows.cacheAlikeRow.maps == (Try.f23.params.toList ++ Rows.cacheAlikeSpec.plain.varTypes Try.prog).any (Try.prog.mapsRec ·))) = true := by kernel_rfl
theorem fact14 : ((Rows.cacheAlikeRow.ifaces == (Try.f23.params.toList ++ Rows.cacheAlikeSpec.plain.varTypes Try.prog).any (Try.prog.ifacesRec ·))) = true := by kernel_rfl
theorem fact15 : ((Rows.cacheAlikeRow.mapsOut == Try.prog.mapsAmong Try.f23.resultTypes.toList)) = true := by kernel_rfl
theorem fact16 : ((Rows.cacheAlikeRow.loops == (Try.f23.params.toList ++ Rows.cacheAlikeSpec.plain.varTypes Try.prog).any (Try.prog.loopsFrom ·))) = true := by kernel_rfl
theorem fact17 : ((Rows.cacheAlikeRow.wideKeys == (Try.f23.params.toList ++ Rows.cacheAlikeSpec.plain.varTypes Try.prog ++ Try.f23.resultTypes.toList).any (Try.prog.wideKeysFrom ·))) = true := by kernel_rfl
theorem fact18 : (Rows.cacheAlikeSpec.vars.all (Try.prog.varReadable ·)) = true := by kernel_rfl
theorem fact19 : (Try.f23.resultTypes.all (fun t => Try.prog.readableRec t && decide (t < Try.prog.types.size))) = true := by kernel_rfl
theorem fact20 : ((Rows.cacheAlikeRow.ifacesOut == Try.f23.resultTypes.toList.any (Try.prog.ifacesRec ·))) = true := by kernel_rfl
theorem fact21 : ((Rows.cacheAlikeRow.loopsOut == Try.f23.resultTypes.toList.any (Try.prog.loopsFrom ·))) = true := by kernel_rfl
theorem fact22 : ((Rows.cacheAlikeRow.plainKeys == Try.prog.plainKeys)) = true := by kernel_rfl
theorem fact23 : (Rows.cacheAlikeRow.shortTexts.isNone) = true := by kernel_rfl
theorem fact24 : (Try.prog.stopsHeard) = true := by kernel_rfl
theorem fact25 : (Try.prog.mayEnter) = true := head_enter
theorem fact26 : ((Rows.cacheAlikeRow.lifted == Try.prog.liftsFinal)) = true := by rw [head_finals]; rfl
theorem fact27 : ((Try.prog.make == some Rows.cacheAlikeRow.make)) = true := by rw [head_make]; rfl
theorem fact28 : ((Rows.cacheAlikeRow.kinds == (if Rows.cacheAlikeRow.domain.isEmpty then [] else Try.f23.params.toList.map fun t => match Try.prog.underlying t with | some (.int k) => some k | _ => none))) = true := by kernel_rfl
theorem fact29 : ((Rows.cacheAlikeRow.pinned == Rows.cacheAlikeRow.pinnedBy)) = true := by kernel_rfl
theorem fact30 : ((Rows.cacheAlikeRow.veiled == (Try.f23.params.toList ++ Rows.cacheAlikeSpec.plain.varTypes Try.prog ++ Try.f23.resultTypes.toList).any (Try.prog.veiledRec ·))) = true := by kernel_rfl
theorem fact31 : (Rows.cacheAlikeRow.veiledFits Try.prog Try.f23.params.toList (Try.f23.params.toList ++ Rows.cacheAlikeSpec.plain.varTypes Try.prog ++ Try.f23.resultTypes.toList)) = true := by kernel_rfl
theorem facts : joinedFacts Try.prog 23 Try.f23 Rows.cacheAlikeSpec Rows.cacheAlikeRow = true := by
  simp only [joinedFacts, Bool.and_eq_true]
  exact ⟨⟨⟨⟨⟨⟨⟨⟨⟨⟨⟨⟨⟨⟨⟨⟨⟨⟨⟨⟨⟨⟨⟨⟨⟨⟨⟨⟨⟨⟨⟨fact0, fact1⟩, fact2⟩, fact3⟩, fact4⟩, fact5⟩, fact6⟩, fact7⟩, fact8⟩, fact9⟩, fact10⟩, fact11⟩, fact12⟩, fact13⟩, fact14⟩, fact15⟩, fact16⟩, fact17⟩, fact18⟩, fact19⟩, fact20⟩, fact21⟩, fact22⟩, fact23⟩, fact24⟩, fact25⟩, fact26⟩, fact27⟩, fact28⟩, fact29⟩, fact30⟩, fact31⟩
theorem hfn : Try.prog.funcNamed Rows.cacheAlikeRow.func = some 23 := by kernel_rfl
end Go.Proofs.Yteeamlidmkpohaa.cacheAlike
