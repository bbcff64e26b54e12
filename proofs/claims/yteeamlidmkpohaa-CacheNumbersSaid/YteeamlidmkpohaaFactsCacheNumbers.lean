/-
  The closed facts of the row of CacheNumbers, one by one.
-/
import Derived.Test.YteeamlidmkpohaaRows
import Derived.Test.YteeamlidmkpohaaHead
import Derived.WalkKit
import Derived.ProofKit
namespace Go.Proofs.Yteeamlidmkpohaa.cacheNumbers
set_option maxRecDepth 100000
theorem fact0 : (Rows.cacheNumbersRow.wf (OpenSpec.ofChange Rows.cacheNumbersSpec)) = true := by kernel_rfl
theorem fact1 : (laidOutB Try.prog) = true := by kernel_rfl
theorem fact2 : (mapsRowed Try.prog) = true := by kernel_rfl
theorem fact3 : (Try.f21.params.all (Try.prog.readableRec ·)) = true := by kernel_rfl
theorem fact4 : (namedTie Try.prog Rows.cacheNumbersRow.named Rows.cacheNumbersSpec.vars) = true := by kernel_rfl
theorem fact5 : ((Rows.cacheNumbersRow.stops == [])) = true := by kernel_rfl
theorem fact6 : ((Try.prog.stops == [])) = true := by kernel_rfl
theorem fact7 : ((Rows.cacheNumbersRow.knobs == [])) = true := by kernel_rfl
theorem fact8 : ((Try.prog.stopKnobs == [])) = true := by kernel_rfl
theorem fact9 : ((Rows.cacheNumbersRow.inPlace == Try.prog.inPlace 21)) = true := by kernel_rfl
theorem fact10 : ((Rows.cacheNumbersRow.unfollowed == Try.prog.unfollowed 21)) = true := by kernel_rfl
theorem fact11 : ((Rows.cacheNumbersRow.recurses == Try.prog.recurses 21)) = true := by kernel_rfl
theorem fact12 : ((Rows.cacheNumbersRow.named == Try.prog.varsNamed 21)) = true := by kernel_rfl
theorem fact13 : ((Rows.cacheNumbersRow.maps == (Try.f21.params.toList ++ Rows.cacheNumbersSpec.plain.varTypes Try.prog).any (Try.prog.mapsRec ·))) = true := by kernel_rfl
theorem fact14 : ((Rows.cacheNumbersRow.ifaces == (Try.f21.params.toList ++ Rows.cacheNumbersSpec.plain.varTypes Try.prog).any (Try.prog.ifacesRec ·))) = true := by kernel_rfl
theorem fact15 : ((Rows.cacheNumbersRow.mapsOut == Try.prog.mapsAmong Try.f21.resultTypes.toList)) = true := by kernel_rfl
theorem fact16 : ((Rows.cacheNumbersRow.loops == (Try.f21.params.toList ++ Rows.cacheNumbersSpec.plain.varTypes Try.prog).any (Try.prog.loopsFrom ·))) = true := by kernel_rfl
theorem fact17 : ((Rows.cacheNumbersRow.wideKeys == (Try.f21.params.toList ++ Rows.cacheNumbersSpec.plain.varTypes Try.prog ++ Try.f21.resultTypes.toList).any (Try.prog.wideKeysFrom ·))) = true := by kernel_rfl
theorem fact18 : (Rows.cacheNumbersSpec.vars.all (Try.prog.varReadable ·)) = true := by kernel_rfl
theorem fact19 : (Try.f21.resultTypes.all (fun t => Try.prog.readableRec t && decide (t < Try.prog.types.size))) = true := by kernel_rfl
theorem fact20 : ((Rows.cacheNumbersRow.ifacesOut == Try.f21.resultTypes.toList.any (Try.prog.ifacesRec ·))) = true := by kernel_rfl
theorem fact21 : ((Rows.cacheNumbersRow.loopsOut == Try.f21.resultTypes.toList.any (Try.prog.loopsFrom ·))) = true := by kernel_rfl
theorem fact22 : ((Rows.cacheNumbersRow.plainKeys == Try.prog.plainKeys)) = true := by kernel_rfl
theorem fact23 : (Rows.cacheNumbersRow.shortTexts.isNone) = true := by kernel_rfl
theorem fact24 : (Try.prog.stopsHeard) = true := by kernel_rfl
theorem fact25 : (Try.prog.mayEnter) = true := head_enter
theorem fact26 : ((Rows.cacheNumbersRow.lifted == Try.prog.liftsFinal)) = true := by rw [head_finals]; rfl
theorem fact27 : ((Try.prog.make == some Rows.cacheNumbersRow.make)) = true := by rw [head_make]; rfl
theorem fact28 : ((Rows.cacheNumbersRow.kinds == (if Rows.cacheNumbersRow.domain.isEmpty then [] else Try.f21.params.toList.map fun t => match Try.prog.underlying t with | some (.int k) => some k | _ => none))) = true := by kernel_rfl
theorem fact29 : ((Rows.cacheNumbersRow.pinned == Rows.cacheNumbersRow.pinnedBy)) = true := by kernel_rfl
theorem fact30 : ((Rows.cacheNumbersRow.veiled == (Try.f21.params.toList ++ Rows.cacheNumbersSpec.plain.varTypes Try.prog ++ Try.f21.resultTypes.toList).any (Try.prog.veiledRec ·))) = true := by kernel_rfl
theorem fact31 : (Rows.cacheNumbersRow.veiledFits Try.prog Try.f21.params.toList (Try.f21.params.toList ++ Rows.cacheNumbersSpec.plain.varTypes Try.prog ++ Try.f21.resultTypes.toList)) = true := by kernel_rfl
theorem facts : joinedFacts Try.prog 21 Try.f21 Rows.cacheNumbersSpec Rows.cacheNumbersRow = true := by
  simp only [joinedFacts, Bool.and_eq_true]
  exact ⟨⟨⟨⟨⟨⟨⟨⟨⟨⟨⟨⟨⟨⟨⟨⟨⟨⟨⟨⟨⟨⟨⟨⟨⟨⟨⟨⟨⟨⟨⟨fact0, fact1⟩, fact2⟩, fact3⟩, fact4⟩, fact5⟩, fact6⟩, fact7⟩, fact8⟩, fact9⟩, fact10⟩, fact11⟩, fact12⟩, fact13⟩, fact14⟩, fact15⟩, fact16⟩, fact17⟩, fact18⟩, fact19⟩, fact20⟩, fact21⟩, fact22⟩, fact23⟩, fact24⟩, fact25⟩, fact26⟩, fact27⟩, fact28⟩, fact29⟩, fact30⟩, fact31⟩
theorem hfn : Try.prog.funcNamed Rows.cacheNumbersRow.func = some 21 := by kernel_rfl
end Go.Proofs.Yteeamlidmkpohaa.cacheNumbers
