/-
  The closed facts of the row of LayoutApart, one by one.
-/
import Derived.Test.YteeamlidmkpohaaRows
import Derived.Test.YteeamlidmkpohaaHead
import Derived.WalkKit
import Derived.ProofKit
namespace Go.Proofs.Yteeamlidmkpohaa.layoutApart
set_option maxRecDepth 100000
theorem fact0 : (Rows.layoutApartRow.wf (OpenSpec.ofChange Rows.layoutApartSpec)) = true := by kernel_rfl
theorem fact1 : (laidOutB Try.prog) = true := by kernel_rfl
theorem fact2 : (mapsRowed Try.prog) = true := by kernel_rfl
theorem fact3 : (Try.f6.params.all (Try.prog.readableRec ·)) = true := by kernel_rfl
theorem fact4 : (namedTie Try.prog Rows.layoutApartRow.named Rows.layoutApartSpec.vars) = true := by kernel_rfl
theorem fact5 : ((Rows.layoutApartRow.stops == [])) = true := by kernel_rfl
theorem fact6 : ((Try.prog.stops == [])) = true := by kernel_rfl
theorem fact7 : ((Rows.layoutApartRow.knobs == [])) = true := by kernel_rfl
theorem fact8 : ((Try.prog.stopKnobs == [])) = true := by kernel_rfl
theorem fact9 : ((Rows.layoutApartRow.inPlace == Try.prog.inPlace 6)) = true := by kernel_rfl
theorem fact10 : ((Rows.layoutApartRow.unfollowed == Try.prog.unfollowed 6)) = true := by kernel_rfl
theorem fact11 : ((Rows.layoutApartRow.recurses == Try.prog.recurses 6)) = true := by kernel_rfl
theorem fact12 : ((Rows.layoutApartRow.named == Try.prog.varsNamed 6)) = true := by kernel_rfl
theorem fact13 : ((Rows.layoutApartRow.maps == (Try.f6.params.toList ++ Rows.layoutApartSpec.plain.varTypes Try.prog).any (Try.prog.mapsRec ·))) = true := by kernel_rfl
theorem fact14 : ((Rows.layoutApartRow.ifaces == (Try.f6.params.toList ++ Rows.layoutApartSpec.plain.varTypes Try.prog).any (Try.prog.ifacesRec ·))) = true := by kernel_rfl
theorem fact15 : ((Rows.layoutApartRow.mapsOut == Try.prog.mapsAmong Try.f6.resultTypes.toList)) = true := by kernel_rfl
theorem fact16 : ((Rows.layoutApartRow.loops == (Try.f6.params.toList ++ Rows.layoutApartSpec.plain.varTypes Try.prog).any (Try.prog.loopsFrom ·))) = true := by kernel_rfl
theorem fact17 : ((Rows.layoutApartRow.wideKeys == (Try.f6.params.toList ++ Rows.layoutApartSpec.plain.varTypes Try.prog ++ Try.f6.resultTypes.toList).any (Try.prog.wideKeysFrom ·))) = true := by kernel_rfl
theorem fact18 : (Rows.layoutApartSpec.vars.all (Try.prog.varReadable ·)) = true := by kernel_rfl
theorem fact19 : (Try.f6.resultTypes.all (fun t => Try.prog.readableRec t && decide (t < Try.prog.types.size))) = true := by kernel_rfl
theorem fact20 : ((Rows.layoutApartRow.ifacesOut == Try.f6.resultTypes.toList.any (Try.prog.ifacesRec ·))) = true := by kernel_rfl
theorem fact21 : ((Rows.layoutApartRow.loopsOut == Try.f6.resultTypes.toList.any (Try.prog.loopsFrom ·))) = true := by kernel_rfl
theorem fact22 : ((Rows.layoutApartRow.plainKeys == Try.prog.plainKeys)) = true := by kernel_rfl
theorem fact23 : (Rows.layoutApartRow.shortTexts.isNone) = true := by kernel_rfl
theorem fact24 : (Try.prog.stopsHeard) = true := by kernel_rfl
theorem fact25 : (Try.prog.mayEnter) = true := head_enter
theorem fact26 : ((Rows.layoutApartRow.lifted == Try.prog.liftsFinal)) = true := by rw [head_finals]; rfl
theorem fact27 : ((Try.prog.make == some Rows.layoutApartRow.make)) = true := by rw [head_make]; rfl
theorem fact28 : ((Rows.layoutApartRow.kinds == (if Rows.layoutApartRow.domain.isEmpty then [] else Try.f6.params.toList.map fun t => match Try.prog.underlying t with | some (.int k) => some k | _ => none))) = true := by kernel_rfl
theorem fact29 : ((Rows.layoutApartRow.pinned == Rows.layoutApartRow.pinnedBy)) = true := by kernel_rfl
theorem fact30 : ((Rows.layoutApartRow.veiled == (Try.f6.params.toList ++ Rows.layoutApartSpec.plain.varTypes Try.prog ++ Try.f6.resultTypes.toList).any (Try.prog.veiledRec ·))) = true := by kernel_rfl
theorem fact31 : (Rows.layoutApartRow.veiledFits Try.prog Try.f6.params.toList (Try.f6.params.toList ++ Rows.layoutApartSpec.plain.varTypes Try.prog ++ Try.f6.resultTypes.toList)) = true := by kernel_rfl
theorem facts : joinedFacts Try.prog 6 Try.f6 Rows.layoutApartSpec Rows.layoutApartRow = true := by
  simp only [joinedFacts, Bool.and_eq_true]
  exact ⟨⟨⟨⟨⟨⟨⟨⟨⟨⟨⟨⟨⟨⟨⟨⟨⟨⟨⟨⟨⟨⟨⟨⟨⟨⟨⟨⟨⟨⟨⟨fact0, fact1⟩, fact2⟩, fact3⟩, fact4⟩, fact5⟩, fact6⟩, fact7⟩, fact8⟩, fact9⟩, fact10⟩, fact11⟩, fact12⟩, fact13⟩, fact14⟩, fact15⟩, fact16⟩, fact17⟩, fact18⟩, fact19⟩, fact20⟩, fact21⟩, fact22⟩, fact23⟩, fact24⟩, fact25⟩, fact26⟩, fact27⟩, fact28⟩, fact29⟩, fact30⟩, fact31⟩
theorem hfn : Try.prog.funcNamed Rows.layoutApartRow.func = some 6 := by kernel_rfl
end Go.Proofs.Yteeamlidmkpohaa.layoutApart
