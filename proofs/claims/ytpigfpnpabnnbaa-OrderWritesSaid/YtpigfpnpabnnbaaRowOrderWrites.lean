/-
  OrderWrites holds: it answers true for every input, and its arguments read as they did. No condition.
-/
import Derived.Test.YtpigfpnpabnnbaaRdO
import Derived.Test.YtpigfpnpabnnbaaPi
import Derived.Test.YtpigfpnpabnnbaaLawOrderWrites
import Derived.Lib.SmallJoins
namespace Go.Proofs.Ytpigfpnpabnnbaa
open Go.ChangeShapes Go.WideShapes Go.ChangeAt Go.RowKit Go.Deep
theorem reads_texts : Reads Try.prog 28 fun cl => ∃ l : List Bytes, cl = [textsA l] ∧ (∀ t ∈ l, t.length ≤ reachBytes) ∧ l.length * 16 ≤ reachBytes :=
  Reads.mono (reads_slice Try.underlying28 (k := 1) (bytes := 16) (by kernel_rfl) (by kernel_rfl) (by omega) (reads_str Try.underlying9)) fun cl => by
    rintro ⟨l, rfl, hl, hn⟩
    obtain ⟨b, rfl, hb⟩ := list_of (f := textC) (Q := fun s : Bytes => s.length ≤ reachBytes) hl
    exact ⟨b, rfl, hb, by simpa using hn⟩
def rplE : List (Nat × (List AV → Prop)) :=
  [(1, fun cl => ∃ n, cl = [.int .i64 n] ∧ (Lit.int .i64 n).wf = true), (1, fun cl => ∃ n, cl = [.int .i64 n] ∧ (Lit.int .i64 n).wf = true), (1, fun cl => ∃ n, cl = [.int .i64 n] ∧ (Lit.int .i64 n).wf = true),
   (1, fun cl => ∃ s : Bytes, cl = [.str s] ∧ s.length ≤ reachBytes), (1, fun cl => ∃ n, cl = [.int .i64 n] ∧ (Lit.int .i64 n).wf = true),
   (1, fun cl => ∃ l : List Bytes, cl = [textsA l] ∧ (∀ t ∈ l, t.length ≤ reachBytes) ∧ l.length * 16 ≤ reachBytes)]
set_option maxRecDepth 20000 in
theorem reads_rpl : Reads Try.prog 52 fun cl => ∃ o : Rpl, .agg cl = encR o ∧ wideR o :=
  Reads.mono (reads_struct (Es := rplE) Try.underlying52
    ⟨rfl, by kernel_rfl, reads_int Try.underlying3, rfl, by kernel_rfl, reads_int Try.underlying3, rfl, by kernel_rfl, reads_int Try.underlying33, rfl, by kernel_rfl, reads_str Try.underlying9,
     rfl, by kernel_rfl, reads_int Try.underlying3, rfl, by kernel_rfl, reads_texts, trivial⟩ (by kernel_rfl)) fun cl => by
    rintro ⟨_, _, rfl, ⟨a, rfl, ha⟩, _, _, rfl, ⟨b, rfl, hb⟩, _, _, rfl, ⟨e, rfl, he⟩, _, _, rfl, ⟨s, rfl, hs⟩, _, _, rfl, ⟨x, rfl, hx⟩, _, _, rfl, ⟨l, rfl, hl, hn⟩, rfl⟩
    unfold reachBytes at hs hl hn
    exact ⟨⟨a, b, e, s, x, l⟩, rfl, wf64 ha, wf64 hb, wf64 he, wf64 hx, by show s.length ≤ _; omega, fun t ht => by have := hl t ht; omega, by show l.length ≤ _; omega⟩
end Go.Proofs.Ytpigfpnpabnnbaa
namespace Go.Proofs.Ytpigfpnpabnnbaa
open Go.ChangeShapes Go.WideShapes Go.ChangeAt Go.RowKit Go.Joins
theorem orderWrites_own : ownKnob Try.prog.godebug = none := by kernel_rfl
set_option maxRecDepth 100000 in
theorem orderWrites_lifted (os : Os) (started : os.Started) (H : Type) (enc : TypeId × Value → H) :
    ReturnsInHanded {} Try.checked os 10 .any (Rows.orderWritesSpec.pre6 enc Try.prog Try.f10 Rows.orderWritesRow.domain false) (Rows.orderWritesSpec.post enc Try.prog Try.f10 false true false false) := by
  refine law_lifted_sized (C := Try.checked) orderWrites_own started (by kernel_rfl) Try.func10
    (ChangeSpec.witness6 (enc := enc) (C := Try.checked) false ⟨#[], #[.slice none 0 0, .agg #[.int .i64 0, .int .i64 0, .int .i64 0, .string ⟨#[]⟩, .string ⟨#[]⟩, .int .i64 0, .int .i64 0, .int .i64 0], .agg #[.int .i64 0, .int .i64 0, .int .i64 0, .string ⟨#[]⟩, .int .i64 0, .slice none 0 0]], []⟩ 20 (by kernel_rfl) (by kernel_rfl) (by kernel_rfl) (by kernel_rfl))
    (by kernel_rfl) (by kernel_rfl) rfl Try.underlying4 rfl ?_ ?_
  · intro ds h
    match ds, h with
    | [x0, x1, x2], _ => rfl
  · intro W base args ds p hval hsz hA hlt
    have hA' : DataW.TrodAll enc Try.prog W 0 (fun _ => true) true Try.f10.params.toList args.toList ds p := hA
    have hval' : ∀ (j : Nat) t v, Try.f10.params[j]? = some t → args[j]? = some v → Value.okWide Try.prog W .any base t v := hval
    have hsz' : ∀ (j : Nat) t d, Try.f10.params[j]? = some t → ds[j]? = some d → InReach Try.prog t d := hsz
    rw [Try.params10] at hA' hval' hsz'
    obtain ⟨v0, v1, v2, d0, d1, d2, p0, p1, p2, rfl, rfl, rfl, h0, h1, h2⟩ := trodAll_three hA'
    obtain ⟨_, r0, b, e0, k0⟩ := rd_slice Try.underlying23 reads_bytes' (hval' 0 23 v0 rfl rfl) h0 (hsz' 0 23 d0 rfl rfl)
    cases e0
    obtain ⟨_, r1, o, e1, k1⟩ := rd_struct Try.underlying48 reads_ord (hval' 1 48 v1 rfl rfl) h1 (hsz' 1 48 d1 rfl rfl)
    rw [e1] at r1
    obtain ⟨_, r2, r, e2, k2⟩ := rd_struct Try.underlying52 reads_rpl (hval' 2 52 v2 rfl rfl) h2 (hsz' 2 52 d2 rfl rfl)
    rw [e2] at r2
    exact law_top (writes12_spec b o r k0 k1 k2) W _ (TRel.cons r0 (TRel.cons r1 (TRel.cons r2 TRel.nil)))

theorem orderWrites_holds : Rows.OrderWritesSaid :=
  OpenClaim.holds_of_wide 10 Try.f10 rfl rfl rfl rfl rfl rfl rfl ⟨rfl, rfl, rfl, rfl, rfl⟩ rfl rfl rfl rfl rfl (by kernel_rfl) Try.func10 (by kernel_rfl)
    (of_decide_eq_true (by kernel_rfl)) (by unfold Func.isWrapper; first | (rw [if_pos (by decide +kernel)]; kernel_rfl) | (rw [if_neg (by decide +kernel)]; exact ⟨rfl, rfl⟩))
    (fun os started H enc _ => orderWrites_lifted os started H enc)
#print axioms orderWrites_holds
end Go.Proofs.Ytpigfpnpabnnbaa
