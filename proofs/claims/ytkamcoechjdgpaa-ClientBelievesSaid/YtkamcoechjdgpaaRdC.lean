/-
  Words, casts, as arguments.
-/
import Derived.Test.YtkamcoechjdgpaaRd
import Derived.Test.YtkamcoechjdgpaaCi
import Derived.OpenShut
namespace Go.Proofs.Ytkamcoechjdgpaa
open Go.ChangeShapes Go.WideShapes Go.ChangeAt Go.RowKit Go.Deep
def intE (cl : List AV) : Prop := ∃ n, cl = [.int .i64 n] ∧ (Lit.int .i64 n).wf = true
def strE (cl : List AV) : Prop := ∃ s : Bytes, cl = [.str s] ∧ s.length ≤ reachBytes
def boolE (cl : List AV) : Prop := ∃ b, cl = [.bool b]
def szC (s : Sz) : List AV := [.int .i64 s.f, .int .i64 s.t]
def ordC (o : Ord) : List AV := [.int .i64 o.a, .int .i64 o.b, .int .i64 o.kind, .str o.s, .str o.t, .int .i64 o.x, .int .i64 o.y, .int .i64 o.z]
def textsE (cl : List AV) : Prop := ∃ l : List Bytes, cl = [textsA l]
def boolsE (cl : List AV) : Prop := ∃ l : List Bool, cl = [.sl 1 (l.map fun b => [AV.bool b]) .no] ∧ l.length ≤ reachBytes
def sizeE (cl : List AV) : Prop := ∃ s : Sz, cl = szC s
def ordE (cl : List AV) : Prop := ∃ o : Ord, cl = ordC o
def rplE (cl : List AV) : Prop := ∃ r : Rpl, cl = rplC r
theorem reads_texts : Reads Try.prog 41 textsE :=
  Reads.mono (reads_slice Try.underlying41 (k := 1) (bytes := 16) (by kernel_rfl) (by kernel_rfl) (by omega) (reads_str Try.underlying9)) fun cl => by
    rintro ⟨l, rfl, hl, hn⟩
    obtain ⟨b, rfl, _⟩ := list_of (f := textC) (Q := fun _ => True) fun x hx => by obtain ⟨c, rfl, _⟩ := hl x hx; exact ⟨c, rfl, trivial⟩
    exact ⟨b, rfl⟩
theorem reads_bools : Reads Try.prog 24 boolsE :=
  Reads.mono (reads_slice Try.underlying24 (k := 1) (bytes := 1) (by kernel_rfl) (by kernel_rfl) (by omega) (reads_bool Try.underlying4)) fun cl => by
    rintro ⟨l, rfl, hl, hn⟩
    obtain ⟨b, rfl, _⟩ := list_of (f := fun b : Bool => [AV.bool b]) (Q := fun _ => True) fun x hx => by obtain ⟨c, rfl⟩ := hl x hx; exact ⟨c, rfl, trivial⟩
    exact ⟨b, rfl, by simpa using hn⟩
set_option maxRecDepth 20000 in
theorem reads_size : Reads Try.prog 23 sizeE :=
  Reads.mono (reads_struct (Es := [(1, intE), (1, intE)]) Try.underlying23
    ⟨rfl, by kernel_rfl, reads_int Try.underlying3, rfl, by kernel_rfl, reads_int Try.underlying3, trivial⟩ (by kernel_rfl)) fun cl => by
    rintro ⟨_, _, rfl, ⟨a, rfl, ha⟩, _, _, rfl, ⟨b, rfl, hb⟩, rfl⟩
    exact ⟨⟨a, b⟩, rfl⟩
set_option maxRecDepth 20000 in
theorem reads_ord : Reads Try.prog 29 ordE :=
  Reads.mono (reads_struct (Es := [(1, intE), (1, intE), (1, intE), (1, strE), (1, strE), (1, intE), (1, intE), (1, intE)]) Try.underlying29
    ⟨rfl, by kernel_rfl, reads_int Try.underlying3, rfl, by kernel_rfl, reads_int Try.underlying3, rfl, by kernel_rfl, reads_int Try.underlying3, rfl, by kernel_rfl, reads_str Try.underlying9, rfl, by kernel_rfl, reads_str Try.underlying9, rfl, by kernel_rfl, reads_int Try.underlying3, rfl, by kernel_rfl, reads_int Try.underlying3, rfl, by kernel_rfl, reads_int Try.underlying3, trivial⟩ (by kernel_rfl)) fun cl => by
    rintro ⟨_, _, rfl, ⟨a, rfl, _⟩, _, _, rfl, ⟨b, rfl, _⟩, _, _, rfl, ⟨k, rfl, _⟩, _, _, rfl, ⟨s, rfl, _⟩, _, _, rfl, ⟨t, rfl, _⟩, _, _, rfl, ⟨x, rfl, _⟩, _, _, rfl, ⟨y, rfl, _⟩, _, _, rfl, ⟨z, rfl, _⟩, rfl⟩
    exact ⟨⟨a, b, k, s, t, x, y, z⟩, rfl⟩
set_option maxRecDepth 20000 in
theorem reads_rpl : Reads Try.prog 43 rplE :=
  Reads.mono (reads_struct (Es := [(1, intE), (1, intE), (1, intE), (1, strE), (1, intE), (1, textsE)]) Try.underlying43
    ⟨rfl, by kernel_rfl, reads_int Try.underlying3, rfl, by kernel_rfl, reads_int Try.underlying3, rfl, by kernel_rfl, reads_int Try.underlying34, rfl, by kernel_rfl, reads_str Try.underlying9, rfl, by kernel_rfl, reads_int Try.underlying3, rfl, by kernel_rfl, reads_texts, trivial⟩ (by kernel_rfl)) fun cl => by
    rintro ⟨_, _, rfl, ⟨a, rfl, _⟩, _, _, rfl, ⟨b, rfl, _⟩, _, _, rfl, ⟨e, rfl, _⟩, _, _, rfl, ⟨s, rfl, _⟩, _, _, rfl, ⟨x, rfl, _⟩, _, _, rfl, ⟨l, rfl⟩, rfl⟩
    exact ⟨⟨a, b, e, s, x, l⟩, rfl⟩
set_option maxRecDepth 20000 in
theorem reads_wd : Reads Try.prog 45 fun cl => ∃ w : Wd, cl = wdC w ∧ True :=
  Reads.mono (reads_struct (Es := [(1, intE), (1, intE), (8, ordE), (6, rplE)]) Try.underlying45
    ⟨rfl, by kernel_rfl, reads_int Try.underlying3, rfl, by kernel_rfl, reads_int Try.underlying3, rfl, by kernel_rfl, reads_ord, rfl, by kernel_rfl, reads_rpl, trivial⟩ (by kernel_rfl)) fun cl => by
    rintro ⟨_, _, rfl, ⟨a, rfl, _⟩, _, _, rfl, ⟨b, rfl, _⟩, _, _, rfl, ⟨o, rfl⟩, _, _, rfl, ⟨x, rfl⟩, rfl⟩
    exact ⟨⟨a, b, o, x⟩, rfl, trivial⟩
theorem reads_wds : Reads Try.prog 27 fun cl => ∃ l : List Wd, cl = [wdsA l] ∧ True :=
  Reads.mono (reads_slice Try.underlying27 (k := 16) (bytes := 168) (by kernel_rfl) (by kernel_rfl) (by omega) reads_wd) fun cl => by
    rintro ⟨l, rfl, hl, hn⟩
    obtain ⟨b, rfl, _⟩ := list_of hl
    exact ⟨b, rfl, trivial⟩
set_option maxRecDepth 20000 in
theorem reads_cast : Reads Try.prog 26 fun cl => ∃ (s : Sz) (id : Int) (bad : List Bool), cl = [.int .i64 s.f, .int .i64 s.t, .int .i64 id, .sl 1 (bad.map fun b => [AV.bool b]) .no] ∧ bad.length ≤ reachBytes :=
  Reads.mono (reads_struct (Es := [(2, sizeE), (1, intE), (1, boolsE)]) Try.underlying26
    ⟨rfl, by kernel_rfl, reads_size, rfl, by kernel_rfl, reads_int Try.underlying3, rfl, by kernel_rfl, reads_bools, trivial⟩ (by kernel_rfl)) fun cl => by
    rintro ⟨_, _, rfl, ⟨s, rfl⟩, _, _, rfl, ⟨a, rfl, _⟩, _, _, rfl, ⟨l, rfl, hl⟩, rfl⟩
    exact ⟨s, a, l, rfl, hl⟩
end Go.Proofs.Ytkamcoechjdgpaa
