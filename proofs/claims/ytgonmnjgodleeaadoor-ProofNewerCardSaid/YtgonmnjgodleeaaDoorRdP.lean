/-
  Sizes, votes, tallies, as arguments.
-/
import Derived.Test.YtgonmnjgodleeaaDoorRd
import Derived.Test.YtgonmnjgodleeaaDoorRr
import Derived.OpenShut
namespace Go.Proofs.YtgonmnjgodleeaaDoor
open Go.ChangeShapes Go.WideShapes Go.ChangeAt Go.RowKit Go.Deep
def intE (cl : List AV) : Prop := ∃ n, cl = [.int .i64 n] ∧ (Lit.int .i64 n).wf = true
def strE (cl : List AV) : Prop := ∃ s : Bytes, cl = [.str s] ∧ s.length ≤ reachBytes
def boolE (cl : List AV) : Prop := ∃ b, cl = [.bool b]
def wideA (a : Acc) : Prop := I64 a.by_ ∧ I64 a.view ∧ a.value.length ≤ reachBytes
def wideVs (l : List Acc) : Prop := (∀ a ∈ l, wideA a) ∧ l.length * 32 ≤ reachBytes
def szC (s : Sz) : List AV := [.int .i64 s.f, .int .i64 s.t]
set_option maxRecDepth 20000 in
theorem reads_acc : Reads Tryd.prog 35 fun cl => ∃ a : Acc, cl = accC a ∧ wideA a :=
  Reads.mono (reads_struct (Es := [(1, intE), (1, intE), (1, strE)]) Tryd.underlying35
    ⟨rfl, by kernel_rfl, reads_int Tryd.underlying3, rfl, by kernel_rfl, reads_int Tryd.underlying3, rfl, by kernel_rfl, reads_str Tryd.underlying9, trivial⟩ (by kernel_rfl)) fun cl => by
    rintro ⟨_, _, rfl, ⟨a, rfl, ha⟩, _, _, rfl, ⟨b, rfl, hb⟩, _, _, rfl, ⟨s, rfl, hs⟩, rfl⟩
    exact ⟨⟨a, b, s⟩, rfl, wf64 ha, wf64 hb, hs⟩
theorem reads_votes : Reads Tryd.prog 24 fun cl => ∃ l : List Acc, cl = [votesA l] ∧ wideVs l :=
  Reads.mono (reads_slice Tryd.underlying24 (k := 3) (bytes := 32) (by kernel_rfl) (by kernel_rfl) (by omega) reads_acc) fun cl => by
    rintro ⟨l, rfl, hl, hn⟩
    obtain ⟨b, rfl, hb⟩ := list_of hl
    exact ⟨b, rfl, hb, by simpa using hn⟩
set_option maxRecDepth 20000 in
theorem reads_size : Reads Tryd.prog 23 fun cl => ∃ s : Sz, cl = szC s ∧ I64 s.f ∧ I64 s.t :=
  Reads.mono (reads_struct (Es := [(1, intE), (1, intE)]) Tryd.underlying23
    ⟨rfl, by kernel_rfl, reads_int Tryd.underlying3, rfl, by kernel_rfl, reads_int Tryd.underlying3, trivial⟩ (by kernel_rfl)) fun cl => by
    rintro ⟨_, _, rfl, ⟨a, rfl, ha⟩, _, _, rfl, ⟨b, rfl, hb⟩, rfl⟩
    exact ⟨⟨a, b⟩, rfl, wf64 ha, wf64 hb⟩
set_option maxRecDepth 20000 in
theorem reads_tally : Reads Tryd.prog 26 fun cl => ∃ l : List Acc, cl = [votesA l] ∧ wideVs l :=
  Reads.mono (reads_struct (Es := [(1, fun cl => ∃ l : List Acc, cl = [votesA l] ∧ wideVs l)]) Tryd.underlying26
    ⟨rfl, by kernel_rfl, reads_votes, trivial⟩ (by kernel_rfl)) fun cl => by
    rintro ⟨_, _, rfl, ⟨l, rfl, hl⟩, rfl⟩
    exact ⟨l, rfl, hl⟩
end Go.Proofs.YtgonmnjgodleeaaDoor
