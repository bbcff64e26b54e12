/-
  The closed facts of the row of CacheNil, one by one.
-/
import Derived.Test.YteeamlidmkpohaaRows
import Derived.Test.YteeamlidmkpohaaHead
import Derived.WalkKit
import Derived.ProofKit
namespace Go.Proofs.Yteeamlidmkpohaa.cacheNil
set_option maxRecDepth 100000
theorem fact0 : (Rows.cacheNilRow.wf (OpenSpec.ofChange Rows.cacheNilSpec)) = true := by kernel_rfl
theorem fact1 : (laidOutB Try.prog) = true := by kernel_rfl
theorem fact2 : (mapsRowed Try.prog) = true := by kernel_rfl
theorem fact3 : (Try.f19.params.all (Try.prog.readableRec ·)) = true := by kernel_rfl
theorem fact4 : (namedTie Try.prog Rows.cacheNilRow.named Rows.cacheNilSpec.vars) = true := by kernel_rfl
theorem fact5 : ((Rows.cacheNilRow.stops == [])) = true := by kernel_rfl
theorem fact6 : ((Try.prog.stops == [])) = true := by kernel_rfl
theorem fact7 : ((Rows.cacheNilRow.knobs == [])) = true := by kernel_rfl
theorem fact8 : ((Try.prog.stopKnobs == [])) = true := by kernel_rfl
theorem fact9 : ((Rows.cacheNilRow.inPlace == Try.prog.inPlace 19)) = true := by kernel_rfl
theorem fact10 : ((Rows.cacheNilRow.unfollowed == Try.prog.unfollowed 19)) = true := by kernel_rfl
theorem fact11 : ((Rows.cacheNilRow.recurses == Try.prog.recurses 19)) = true := by kernel_rfl
theorem fact12 : ((Rows.cacheNilRow.named == Try.prog.varsNamed 19)) = true := by kernel_rfl
theorem fact13 : ((Rows.cacheNilRow.maps == (Try.f19.params.toList ++ Rows.cacheNilSpec.plain.varTypes Try.prog).any (Try.prog.mapsRec ·))) = true := by kernel_rfl
theorem fact14 : ((Rows.cacheNilRow.ifaces == (Try.f19.params.toList ++ Rows.cacheNilSpec.plain.varTypes Try.prog).any (Try.prog.ifacesRec ·))) = true := by kernel_rfl
theorem fact15 : ((Rows.cacheNilRow.mapsOut == Try.prog.mapsAmong Try.f19.resultTypes.toList)) = true := by kernel_rfl
theorem fact16 : ((Rows.cacheNilRow.loops == (Try.f19.params.toList ++ Rows.cacheNilSpec.plain.varTypes Try.prog).any (Try.prog.loopsFrom ·))) = true := by kernel_rfl
theorem fact17 : ((Rows.cacheNilRow.wideKeys == (Try.f19.params.toList ++ Rows.cacheNilSpec.plain.varTypes Try.prog ++ Try.f19.resultTypes.toList).any (Try.prog.wideKeysFrom ·))) = true := by kernel_rfl
theorem fact18 : (Rows.cacheNilSpec.vars.all (Try.prog.varReadable ·)) = true := by kernel_rfl
theorem fact19 : (Try.f19.resultTypes.all (fun t => Try.prog.readableRec t && decide (t < Try.prog.types.size))) = true := by kernel_rfl
theorem fact20 : ((Rows.cacheNilRow.ifacesOut == Try.f19.resultTypes.toList.any (Try.prog.ifacesRec ·))) = true := by kernel_rfl
theorem fact21 : ((Rows.cacheNilRow.loopsOut == Try.f19.resultTypes.toList.any (Try.prog.loopsFrom ·))) = true := by kernel_rfl
theorem fact22 : ((Rows.cacheNilRow.plainKeys == Try.prog.plainKeys)) = true := by kernel_rfl
theorem fact23 : (Rows.cacheNilRow.shortTexts.isNone) = true := by kernel_rfl
theorem fact24 : (Try.prog.stopsHeard) = true := by kernel_rfl
theorem fact25 : (Try.prog.mayEnter) = true := head_enter
theorem fact26 : ((Rows.cacheNilRow.lifted == Try.prog.liftsFinal)) = true := by rw [head_finals]; rfl
theorem fact27 : ((Try.prog.make == some Rows.cacheNilRow.make)) = true := by rw [head_make]; rfl
theorem fact28 : ((Rows.cacheNilRow.kinds == (if Rows.cacheNilRow.domain.isEmpty then [] else Try.f19.params.toList.map fun t => match Try.prog.underlying t with | some (.int k) => some k | _ => none))) = true := by kernel_rfl
theorem fact29 : ((Rows.cacheNilRow.pinned == Rows.cacheNilRow.pinnedBy)) = true := by kernel_rfl
theorem fact30 : ((Rows.cacheNilRow.veiled == (Try.f19.params.toList ++ Rows.cacheNilSpec.plain.varTypes Try.prog ++ Try.f19.resultTypes.toList).any (Try.prog.veiledRec ·))) = true := by kernel_rfl
theorem fact31 : (Rows.cacheNilRow.veiledFits Try.prog Try.f19.params.toList (Try.f19.params.toList ++ Rows.cacheNilSpec.plain.varTypes Try.prog ++ Try.f19.resultTypes.toList)) = true := by kernel_rfl
theorem facts : joinedFacts Try.prog 19 Try.f19 Rows.cacheNilSpec Rows.cacheNilRow = true := by
  simp only [joinedFacts, Bool.and_eq_true]
  exact ⟨⟨⟨⟨⟨⟨⟨⟨⟨⟨⟨⟨⟨⟨⟨⟨⟨⟨⟨⟨⟨⟨⟨⟨⟨⟨⟨⟨⟨⟨⟨fact0, fact1⟩, fact2⟩, fact3⟩, fact4⟩, fact5⟩, fact6⟩, fact7⟩, fact8⟩, fact9⟩, fact10⟩, fact11⟩, fact12⟩, fact13⟩, fact14⟩, fact15⟩, fact16⟩, fact17⟩, fact18⟩, fact19⟩, fact20⟩, fact21⟩, fact22⟩, fact23⟩, fact24⟩, fact25⟩, fact26⟩, fact27⟩, fact28⟩, fact29⟩, fact30⟩, fact31⟩
theorem hfn : Try.prog.funcNamed Rows.cacheNilRow.func = some 19 := by kernel_rfl
end Go.Proofs.Yteeamlidmkpohaa.cacheNil
