/-
  WalOpens holds: it answers true for every input, and its arguments read as they did. No condition.
-/
import Derived.Test.YtcafahcmalfepaaKLawWalOpens
import Derived.Test.YtcafahcmalfepaaMg
import Derived.Lib.SmallJoins
namespace Go.Proofs.Ytcafahcmalfepaa
open Go.ChangeShapes Go.WideShapes Go.ChangeAt Go.RowKit Go.Joins
theorem walOpens_own : ownKnob Try.prog.godebug = none := by kernel_rfl
set_option maxRecDepth 100000 in
theorem walOpens_lifted (os : Os) (started : os.Started) (H : Type) (enc : TypeId × Value → H) :
    ReturnsInHanded {} Try.checked os 8 .any (Rows.walOpensSpec.pre6 enc Try.prog Try.f8 Rows.walOpensRow.domain false) (Rows.walOpensSpec.post enc Try.prog Try.f8 false true false false) := by
  refine law_lifted_sized (C := Try.checked) walOpens_own started (by kernel_rfl) Try.func8
    (ChangeSpec.witness6 (enc := enc) (C := Try.checked) false ⟨#[], #[.agg #[.int .i64 0, .slice none 0 0, .slice none 0 0, .bool false, .int .i64 0]], []⟩ 20 (by kernel_rfl) (by kernel_rfl) (by kernel_rfl) (by kernel_rfl))
    (by kernel_rfl) (by kernel_rfl) rfl Try.underlying4 rfl ?_ ?_
  · intro ds h
    match ds, h with
    | [x0], _ => rfl
  · intro W base args ds p hval hsz hA hlt
    have hA' : DataW.TrodAll enc Try.prog W 0 (fun _ => true) true Try.f8.params.toList args.toList ds p := hA
    have hval' : ∀ (j : Nat) t v, Try.f8.params[j]? = some t → args[j]? = some v → Value.okWide Try.prog W .any base t v := hval
    have hsz' : ∀ (j : Nat) t d, Try.f8.params[j]? = some t → ds[j]? = some d → InReach Try.prog t d := hsz
    rw [Try.params8] at hA' hval' hsz'
    obtain ⟨v0, d0, rfl, rfl, h0⟩ := trodAll_one hA'
    obtain ⟨_, r0, d, rfl, k0⟩ := rd_struct Try.underlying42 reads_disk (hval' 0 42 v0 rfl rfl) h0 (hsz' 0 42 d0 rfl rfl)
    exact law_top (lawOpens17 d k0) W _ (TRel.cons r0 TRel.nil)

theorem walOpens_holds : Rows.WalOpensSaid :=
  OpenClaim.holds_of_wide 8 Try.f8 rfl rfl rfl rfl rfl rfl rfl ⟨rfl, rfl, rfl, rfl, rfl⟩ rfl rfl rfl rfl rfl (by kernel_rfl) Try.func8 (by kernel_rfl)
    (of_decide_eq_true (by kernel_rfl)) (by unfold Func.isWrapper; first | (rw [if_pos (by decide +kernel)]; kernel_rfl) | (rw [if_neg (by decide +kernel)]; exact ⟨rfl, rfl⟩))
    (fun os started H enc _ => walOpens_lifted os started H enc)
#print axioms walOpens_holds
end Go.Proofs.Ytcafahcmalfepaa
