/-
  An order, and a row of bytes, as arguments.
-/
import Derived.Test.YtpigfpnpabnnbaaRd
import Derived.Test.YtpigfpnpabnnbaaOr
namespace Go.Proofs.Ytpigfpnpabnnbaa
open Go.ChangeShapes Go.WideShapes Go.ChangeAt Go.RowKit Go.Deep
def ordE : List (Nat × (List AV → Prop)) :=
  [(1, fun cl => ∃ n, cl = [.int .i64 n] ∧ (Lit.int .i64 n).wf = true), (1, fun cl => ∃ n, cl = [.int .i64 n] ∧ (Lit.int .i64 n).wf = true), (1, fun cl => ∃ n, cl = [.int .i64 n] ∧ (Lit.int .i64 n).wf = true),
   (1, fun cl => ∃ s : Bytes, cl = [.str s] ∧ s.length ≤ reachBytes), (1, fun cl => ∃ s : Bytes, cl = [.str s] ∧ s.length ≤ reachBytes),
   (1, fun cl => ∃ n, cl = [.int .i64 n] ∧ (Lit.int .i64 n).wf = true), (1, fun cl => ∃ n, cl = [.int .i64 n] ∧ (Lit.int .i64 n).wf = true), (1, fun cl => ∃ n, cl = [.int .i64 n] ∧ (Lit.int .i64 n).wf = true)]
def wideO (o : Ord) : Prop := I64 o.a ∧ I64 o.b ∧ I64 o.kind ∧ I64 o.x ∧ I64 o.y ∧ I64 o.z ∧ o.s.length ≤ reachBytes ∧ o.t.length ≤ reachBytes
set_option maxRecDepth 20000 in
theorem reads_ord : Reads Try.prog 48 fun cl => ∃ o : Ord, .agg cl = encO o ∧ wideO o :=
  Reads.mono (reads_struct (Es := ordE) Try.underlying48
    ⟨rfl, by kernel_rfl, reads_int Try.underlying3, rfl, by kernel_rfl, reads_int Try.underlying3, rfl, by kernel_rfl, reads_int Try.underlying3, rfl, by kernel_rfl, reads_str Try.underlying9, rfl, by kernel_rfl, reads_str Try.underlying9,
     rfl, by kernel_rfl, reads_int Try.underlying3, rfl, by kernel_rfl, reads_int Try.underlying3, rfl, by kernel_rfl, reads_int Try.underlying3, trivial⟩ (by kernel_rfl)) fun cl => by
    rintro ⟨_, _, rfl, ⟨a, rfl, ha⟩, _, _, rfl, ⟨b, rfl, hb⟩, _, _, rfl, ⟨k, rfl, hk⟩, _, _, rfl, ⟨s, rfl, hs⟩, _, _, rfl, ⟨t, rfl, ht⟩, _, _, rfl, ⟨x, rfl, hx⟩, _, _, rfl, ⟨y, rfl, hy⟩, _, _, rfl, ⟨z, rfl, hz⟩, rfl⟩
    exact ⟨⟨a, b, k, s, t, x, y, z⟩, rfl, wf64 ha, wf64 hb, wf64 hk, wf64 hx, wf64 hy, wf64 hz, hs, ht⟩
theorem reads_bytes' : Reads Try.prog 23 fun cl => ∃ b : Bytes, cl = [bytesA b] ∧ b.length ≤ reachBytes := reads_bytes Try.underlying23 Try.underlying5 (by kernel_rfl) (by kernel_rfl)
end Go.Proofs.Ytpigfpnpabnnbaa
