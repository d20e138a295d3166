/-
  proof.Text of the live question's row: its text.
-/
import Derived.Shelf.Strings.Builder1
import Derived.Test.YtgonmnjgodleeaaDoorBr
namespace Go.Proofs.YtgonmnjgodleeaaDoor
open Go.RowKit
def laysB_ren : Go.Shelf.Ren := ⟨fun | 166 => 34 | 169 => 36 | 240 => 39 | 276 => 42 | n => n, fun | 0 => 0 | 3 => 3 | 4 => 4 | 5 => 5 | 9 => 9 | 20 => 20 | 37 => 60 | 70 => 59 | 72 => 62 | 75 => 64 | 80 => 68 | 127 => 74 | 164 => 77 | n => n, fun | n => n⟩
theorem lays166 : Go.Proofs.Lays.n166 Tryd.prog laysB_ren := {
  mixed := by kernel_rfl
  f166 := Tryd.func34.trans (congrArg some (by kernel_rfl))
  f240 := Tryd.func39.trans (congrArg some (by kernel_rfl))
  f276 := Tryd.func42.trans (congrArg some (by kernel_rfl))
  t0 := Tryd.underlying0
  a0 := Tryd.isAgg0
  z0 := Tryd.sizeOf0
  v0 := Tryd.zeroValue0
  t3 := Tryd.underlying3
  a3 := Tryd.isAgg3
  z3 := Tryd.sizeOf3
  v3 := Tryd.zeroValue3
  t4 := Tryd.underlying4
  a4 := Tryd.isAgg4
  z4 := Tryd.sizeOf4
  v4 := Tryd.zeroValue4
  t9 := Tryd.underlying9
  a9 := Tryd.isAgg9
  z9 := Tryd.sizeOf9
  v9 := Tryd.zeroValue9
  t20 := Tryd.underlying20
  a20 := Tryd.isAgg20
  z20 := Tryd.sizeOf20
  v20 := Tryd.zeroValue20
  t37 := Tryd.underlying60
  a37 := Tryd.isAgg60
  z37 := Tryd.sizeOf60
  v37 := Tryd.zeroValue60
  t70 := Tryd.underlying59
  a70 := Tryd.isAgg59
  z70 := Tryd.sizeOf59
  v70 := Tryd.zeroValue59
  t72 := Tryd.underlying62
  a72 := Tryd.isAgg62
  z72 := Tryd.sizeOf62
  v72 := Tryd.zeroValue62
  t75 := Tryd.underlying64
  a75 := Tryd.isAgg64
  z75 := Tryd.sizeOf64
  v75 := Tryd.zeroValue64
  t164 := Tryd.underlying77
  a164 := Tryd.isAgg77
  z164 := Tryd.sizeOf77
  v164 := Tryd.zeroValue77 }
theorem lays169 : Go.Proofs.Lays.n169 Tryd.prog laysB_ren := {
  mixed := by kernel_rfl
  f169 := Tryd.func36.trans (congrArg some (by kernel_rfl))
  t0 := Tryd.underlying0
  a0 := Tryd.isAgg0
  z0 := Tryd.sizeOf0
  v0 := Tryd.zeroValue0
  t3 := Tryd.underlying3
  a3 := Tryd.isAgg3
  z3 := Tryd.sizeOf3
  v3 := Tryd.zeroValue3
  t9 := Tryd.underlying9
  a9 := Tryd.isAgg9
  z9 := Tryd.sizeOf9
  v9 := Tryd.zeroValue9
  t37 := Tryd.underlying60
  a37 := Tryd.isAgg60
  z37 := Tryd.sizeOf60
  v37 := Tryd.zeroValue60
  t70 := Tryd.underlying59
  a70 := Tryd.isAgg59
  z70 := Tryd.sizeOf59
  v70 := Tryd.zeroValue59
  t72 := Tryd.underlying62
  a72 := Tryd.isAgg62
  z72 := Tryd.sizeOf62
  v72 := Tryd.zeroValue62
  t127 := Tryd.underlying74
  a127 := Tryd.isAgg74
  z127 := Tryd.sizeOf74
  v127 := Tryd.zeroValue74 }
theorem laysX : Go.Proofs.Builder.Extra Tryd.prog laysB_ren := {
  sizeBuilder := by kernel_rfl
  liesBuilder := by kernel_rfl
  t5 := Tryd.underlying5
  a5 := Tryd.isAgg5
  z5 := Tryd.sizeOf5
  v5 := Tryd.zeroValue5
  infoByte := by kernel_rfl
  cellsByte := by kernel_rfl
  sizeByte := by kernel_rfl
  neB5 := by decide }
theorem write_any (B b : Nat) (bs : List Value) (s : ByteArray) (w : World) (h : Lib.IsBuilder 62 5 B b bs w) (hlen : bs.length + s.size ≤ 140737488355328) (hBw : B ≤ w.heap.size) :
    Calls Tryd.prog 34 #[.pointer (some ⟨b, 0, none⟩), .string s] w fun e w' => e = .returned (.tuple #[.int .i64 s.size, .nilIface]) ∧ (Lib.BuilderAt 62 5 B b (.pointer (some ⟨b, 0, none⟩)) (bs ++ Lib.strCells s) w' ∧ Below B w w') := Any.Builder_WriteString lays166 laysX B b bs s w h hlen hBw
theorem string_any (B b : Nat) (l : List UInt8) (w : World) (h : Lib.IsBuilder 62 5 B b (Lib.byteCells l) w) (h0 : l ≠ []) :
    Calls Tryd.prog 36 #[.pointer (some ⟨b, 0, none⟩)] w fun e w' => e = .returned (.string ⟨l.toArray⟩) ∧ Below B w w' := Any.Builder_String lays169 laysX B b l w h h0
theorem itoa0 (w : World) : Calls Tryd.prog 35 #[.int .i64 0] w fun e w' => e = .returned (.string ⟨#[48]⟩) ∧ w' = w := by
  go_enter Tryd.func35, Tryd.ntmps35
  go_wp2_with go_in
  go_ret
  exact ⟨rfl, rfl⟩
theorem itoa2 (w : World) : Calls Tryd.prog 35 #[.int .i64 2] w fun e w' => e = .returned (.string ⟨#[50]⟩) ∧ w' = w := by
  go_enter Tryd.func35, Tryd.ntmps35
  go_wp2_with go_in
  go_ret
  exact ⟨rfl, rfl⟩
theorem itoa3 (w : World) : Calls Tryd.prog 35 #[.int .i64 3] w fun e w' => e = .returned (.string ⟨#[51]⟩) ∧ w' = w := by
  go_enter Tryd.func35, Tryd.ntmps35
  go_wp2_with go_in
  go_ret
  exact ⟨rfl, rfl⟩
end Go.Proofs.YtgonmnjgodleeaaDoor
namespace Go.Proofs.YtgonmnjgodleeaaDoor
open Go.RowKit
def txt (k : Nat) : List UInt8 := match k with | 0 => [48, 32] | 1 => [48, 32, 48, 44] | 2 => [48, 32, 48, 44, 50, 44] | _ => [48, 32, 48, 44, 50, 44, 51, 44]
def rowV : List Value := [.int .i64 0, .int .i64 0, .string ⟨#[97]⟩, .int .i64 2, .int .i64 0, .string ⟨#[97]⟩, .int .i64 3, .int .i64 0, .string ⟨#[97]⟩]
abbrev BAt (B b : Nat) (bs : List Value) (w : World) : Prop := Lib.BuilderAt 62 5 B b (.pointer (some ⟨b, 0, none⟩)) bs w
theorem BAt.below {B b : Nat} {bs : List Value} {w w' : World} (h : BAt B b bs w) (hb : Below w.heap.size w w') : BAt B b bs w' := by
  obtain ⟨h1, v, h2, h3, h4⟩ := h
  refine ⟨h1, v, (hb.block b (Array.getElem?_eq_some_iff.1 h2).1).trans h2, ⟨h3.1, ?_⟩, h4⟩
  rcases h3.2 with hn | ⟨g, cap, cur, e, hB, hg, rest⟩
  · exact .inl hn
  · exact .inr ⟨g, cap, cur, e, hB, (hb.block g (Array.getElem?_eq_some_iff.1 hg).1).trans hg, rest⟩
theorem ba_app (a b : List UInt8) : (⟨a.toArray⟩ ++ ⟨b.toArray⟩ : ByteArray) = ⟨(a ++ b).toArray⟩ := by
  apply ByteArray.ext; simp [ByteArray.data_append]
theorem ba1 : (⟨#[48]⟩ ++ ⟨#[32]⟩ : ByteArray) = ⟨[48, 32].toArray⟩ := ba_app [48] [32]
theorem bcell_app (a b : List UInt8) : Lib.byteCells a ++ Lib.strCells ⟨b.toArray⟩ = Lib.byteCells (a ++ b) := by simp [Lib.byteCells, Lib.strCells]
set_option maxRecDepth 20000 in
theorem pof_any (w : World) (b o cap : Nat) (c1 : w.cell? ⟨b, o + 1, none⟩ = some (.int .i64 0)) (c2 : w.cell? ⟨b, o + 2, none⟩ = some (.string ⟨#[97]⟩)) :
    Calls Tryd.prog 18 #[.slice (some ⟨b, o, none⟩) 3 cap] w fun e w' => e = .returned (.tuple #[.int .i64 0, .string ⟨#[97]⟩, .bool true]) ∧ w' = w.drew := by
  have mixed : Tryd.prog.follows .mixedOrders = true := follows_ok
  go_enter Tryd.func18, Tryd.ntmps18
  go_wp2_with fail
  go_region_o
  all_goals (go_wp2_with fail; go_ret3; exact ⟨rfl, rfl⟩)
set_option maxRecDepth 20000 in
set_option maxHeartbeats 1000000 in
theorem text_any (w : World) (b o cap : Nat) (hb : b < w.heap.size) (hc : ∀ j v, rowV[j]? = some v → w.cell? ⟨b, o + j, none⟩ = some v) (hcap : 3 ≤ cap) (hm : cap ≤ maxLen) :
    Calls Tryd.prog 22 #[.slice (some ⟨b, o, none⟩) 3 cap] w fun e w' => e = .returned (.string ⟨#[48, 32, 48, 44, 50, 44, 51, 44, 32, 97]⟩) ∧ Below w.heap.size w w' := by
  have c0 := hc 0 _ rfl; have c1 := hc 1 _ rfl; have c2 := hc 2 _ rfl; have c3 := hc 3 _ rfl; have c4 := hc 4 _ rfl; have c5 := hc 5 _ rfl; have c6 := hc 6 _ rfl; have c7 := hc 7 _ rfl; have c8 := hc 8 _ rfl
  rw [Nat.add_zero] at c0
  go_enter Tryd.func22, Tryd.ntmps22
  go_wp2_with (first | (go_at_call 35; refine (itoa0 _).mono ?_; rintro e w' ⟨rfl, rfl⟩) | (go_at_call 18; refine (pof_any w b o cap c1 c2).mono ?_; rintro e w' ⟨rfl, rfl⟩) | fail)
  rw [ba1]
  refine (write_any w.heap.size w.heap.size (Lib.byteCells []) ⟨[48, 32].toArray⟩ (w.alloc (.cells #[.pointer none, .slice none 0 0] 62)).drew (Lib.fresh_isBuilder _ _ w) (by decide) (Nat.le_of_lt (by show w.heap.size < (w.heap.push _).size; simp))).mono ?_
  rintro e w1 ⟨rfl, hat, hbl⟩
  rw [bcell_app] at hat
  have hB1 : Below w.heap.size w w1 := (below_new _ _).trans ((Below.drew (Below.refl _ _)).trans hbl)
  have hat : BAt w.heap.size w.heap.size (Lib.byteCells (txt 0)) w1 := hat
  go_wp2_with fail
  go_loopw [23] (fun i wr => ∃ k : Nat, k ≤ 3 ∧ i = .int .i64 k ∧ BAt w.heap.size w.heap.size (Lib.byteCells (txt k)) wr ∧ Below w.heap.size w wr) (fun i _ => 3 - (intOf i).toNat)
  case atStart => exact ⟨0, by omega, rfl, hat, hB1⟩
  case round =>
    obtain ⟨k, hk, rfl, ht, hbw⟩ := hrel
    clear hat hbl hB1
    have d : ∀ j v, rowV[j]? = some v → wr.cell? ⟨b, o + j, none⟩ = some v := fun j v hv => (hbw.cell (p := ⟨b, o + j, none⟩) hb).trans (hc j v hv)
    clear c0 c1 c2 c3 c4 c5 c6 c7 c8 hc
    have c0 := d 0 _ rfl; have c1 := d 1 _ rfl; have c2 := d 2 _ rfl; have c3 := d 3 _ rfl; have c4 := d 4 _ rfl; have c5 := d 5 _ rfl; have c6 := d 6 _ rfl; have c7 := d 7 _ rfl; have c8 := d 8 _ rfl
    rw [Nat.add_zero] at c0
    clear d
    have hw2 := hbw.size
    match k, hk with
    | 0, _ =>
      go_wp2_with (first | (go_at_call 35; refine (itoa0 _).mono ?_; rintro e w' ⟨rfl, rfl⟩) | fail)
      rw [show (⟨#[48]⟩ ++ ⟨#[44]⟩ : ByteArray) = ⟨[48, 44].toArray⟩ from ba_app [48] [44]]
      refine Calls.mono (write_any w.heap.size w.heap.size (Lib.byteCells (txt 0)) ⟨[48, 44].toArray⟩ _ (.inr (ht.below (below_new wr _))) (by decide) (Nat.le_trans hw2 (by simp))) ?_
      rintro e w2 ⟨rfl, hat, hbl⟩
      rw [bcell_app] at hat
      go_wp2_with fail
      go_roundw
      case rel => exact ⟨1, by omega, by go_num, hat, hbw.trans (((below_new wr _).mono hw2).trans hbl)⟩
      case measure => simp [intOf]
    | 1, _ =>
      go_wp2_with (first | (go_at_call 35; refine (itoa2 _).mono ?_; rintro e w' ⟨rfl, rfl⟩) | fail)
      rw [show (⟨#[50]⟩ ++ ⟨#[44]⟩ : ByteArray) = ⟨[50, 44].toArray⟩ from ba_app [50] [44]]
      refine Calls.mono (write_any w.heap.size w.heap.size (Lib.byteCells (txt 1)) ⟨[50, 44].toArray⟩ _ (.inr (ht.below (below_new wr _))) (by decide) (Nat.le_trans hw2 (by simp))) ?_
      rintro e w2 ⟨rfl, hat, hbl⟩
      rw [bcell_app] at hat
      go_wp2_with fail
      go_roundw
      case rel => exact ⟨2, by omega, by go_num, hat, hbw.trans (((below_new wr _).mono hw2).trans hbl)⟩
      case measure => simp [intOf]
    | 2, _ =>
      go_wp2_with (first | (go_at_call 35; refine (itoa3 _).mono ?_; rintro e w' ⟨rfl, rfl⟩) | fail)
      rw [show (⟨#[51]⟩ ++ ⟨#[44]⟩ : ByteArray) = ⟨[51, 44].toArray⟩ from ba_app [51] [44]]
      refine Calls.mono (write_any w.heap.size w.heap.size (Lib.byteCells (txt 2)) ⟨[51, 44].toArray⟩ _ (.inr (ht.below (below_new wr _))) (by decide) (Nat.le_trans hw2 (by simp))) ?_
      rintro e w2 ⟨rfl, hat, hbl⟩
      rw [bcell_app] at hat
      go_wp2_with fail
      go_roundw
      case rel => exact ⟨3, by omega, by go_num, hat, hbw.trans (((below_new wr _).mono hw2).trans hbl)⟩
      case measure => simp [intOf]
    | 3, _ =>
      go_wp2_with fail
      refine (string_any w.heap.size w.heap.size (txt 3) _ (.inr ht) (by simp [txt])).mono ?_
      rintro e w2 ⟨rfl, hbl⟩
      go_wp2_with fail
      go_ret
      refine ⟨?_, hbw.trans hbl⟩
      rw [show (⟨#[32]⟩ : ByteArray) = ⟨[32].toArray⟩ from rfl, show (⟨#[97]⟩ : ByteArray) = ⟨[97].toArray⟩ from rfl, ba_app, ba_app]
      rfl
    | k + 4, hk => omega
end Go.Proofs.YtgonmnjgodleeaaDoor
