/-
  Disks: joined and Read of the document's; Blow of both.
-/
import Derived.Test.YthboeilpeggpoaaDiskA
namespace Go.Proofs.Ythboeilpeggpoaa
open Go.RowKit
/-- A disk with another fuse, up or down. -/
def Dk.at_ (d : Dk) (down : Bool) (fuse : Int) : Dk := ⟨d.cap, d.A1, d.s, d.c1, d.A2, d.l, d.c2, down, fuse⟩
theorem Dk.ok.at_ {d : Dk} {Z : Nat → Prop} {w : World} (h : d.ok Z w) (down : Bool) {fuse : Int} (hf : -9223372036854775808 ≤ fuse ∧ fuse ≤ 9223372036854775807) : (d.at_ down fuse).ok Z w := ⟨h.s1, h.s2, h.g1, h.m1, h.g2, h.m2, h.i1, hf⟩
theorem joined_any (A1 A2 : Option Addr) (b1 b2 : Bytes) (n1 n2 c1 c2 : Nat) (h1 : b1.length = n1) (h2 : b2.length = n2) (z1 : n1 ≤ 2000000) (z2 : n2 ≤ 2000000) (w : World) (s1 : Sl byteR 1 w.heap.size w A1 b1) (s2 : Sl byteR 1 w.heap.size w A2 b2) :
    Calls Try.prog 58 #[.slice A1 n1 c1, .slice A2 n2 c2] w (RetB w (b1 ++ b2)) := by
  have hl1 : (([] : Bytes).length + b1.length) * 1 ≤ 140737488355328 := by simp; omega
  have hl2 : ([] : Bytes).length + b1.length ≤ maxLen := by simp [maxLen]; omega
  have hl3 : (([] ++ b1).length + b2.length) * 1 ≤ 140737488355328 := by simp; omega
  have hl4 : ([] ++ b1).length + b2.length ≤ maxLen := by simp [maxLen]; omega
  have S1 := hid s1; have S2 := hid s2; have H1 := hid h1; have H2 := hid h2; have HL1 := hid hl1; have HL2 := hid hl2; have HL3 := hid hl3; have HL4 := hid hl4; clear s1 s2 h1 h2 hl1 hl2 hl3 hl4
  go_enter Try.func58, Try.ntmps58
  go_wp2_with (first
    | (at_builtin; refine wpl_app0 (W := w) (R := byteR) (B := 0) rfl (.tmp 6) (.tmp 7) _ rfl tabB _ [] b1 rfl (Own.made w (Nat.le_refl _)) (Nat.zero_le _) (below_new _ _) A1 n1 c1 (b1.map byteV) rfl H1.out ((sl_bytes S1.out H1.out).alloc _) (cs_map _ _ _) (bytes_oneCell _) HL1.out HL2.out ?_; intro v0 w0 hown0 hbl0 _)
    | (at_builtin; refine wpl_app0 (W := w) (R := byteR) (B := 0) rfl (.tmp 9) (.tmp 10) _ rfl tabB _ ([] ++ b1) b2 rfl hown0 (Nat.zero_le _) hbl0 A2 n2 c2 (b2.map byteV) rfl H2.out (sl_bytes (S2.out.below hbl0) H2.out) (cs_map _ _ _) (bytes_oneCell _) HL3.out HL4.out ?_; intro v1 w1 hown1 hbl1 _))
  go_ret
  exact ⟨_, rfl, by simpa using hown1, hbl1⟩
theorem rread_any (d : Dk) {Z : Nat → Prop} (hs : d.sm) (w : World) (hd : d.ok Z w) : Calls Try.prog 29 #[d.v] w (RetR w (readS d.dd)) := by
  have S1 := hid hd.s1.bsl; have S2 := hid hd.s2.bsl; have G := hid hd; clear hd
  obtain ⟨z1, z2⟩ := hs
  cases hdn : d.down with
  | true =>
    have hr : readS d.dd = ([], 11) := if_pos hdn
    rw [hr]
    unfold Dk.v
    go_enter Try.func29, Try.ntmps29
    go_wp2
    go_ret2
    exact ⟨_, rfl, Own.nil _, below_new _ _⟩
  | false =>
    have hr : readS d.dd = (d.s ++ d.l, 0) := if_neg (by simp [Dk.dd, hdn])
    rw [hr]
    clear hr
    have r1 := fun (o : Obj) => S1.out.call (below_new w o)
    have r2 := fun (o : Obj) => S2.out.call (below_new w o)
    have R1 := hid r1; have R2 := hid r2; clear r1 r2
    have z1' : d.s.length ≤ 2000000 := by omega
    have z2' : d.l.length ≤ 2000000 := by omega
    unfold Dk.v
    go_enter Try.func29, Try.ntmps29
    go_wp2_with (go_at_call 58; refine (joined_any d.A1 d.A2 d.s d.l _ _ d.c1 d.c2 rfl rfl z1' z2' _ (R1.out _) (R2.out _)).mono ?_; rintro e w2 ⟨v, rfl, hown, hbl⟩)
    go_ret2
    exact ⟨_, rfl, hown.low (by simp), below_then (below_new _ _) hbl⟩
theorem blow_any (d : Dk) {Z : Nat → Prop} (n : Int) (hn : -9223372036854775808 ≤ n ∧ n ≤ 9223372036854775807) (w : World) (hd : d.ok Z w) : Calls Try.prog 30 #[d.v, .int .i64 n] w (RetD1 Z w (blowS d.dd n)) := by
  have G := hid hd; clear hd
  have HN := hid hn; clear hn
  cases hdn : d.down with
  | true =>
    have hr : blowS d.dd n = (d.at_ true d.fuse).dd := by simp [blowS, Dk.dd, Dk.at_, hdn]
    rw [hr]
    clear hr
    rw [show d.v = .agg d.cells.toArray from rfl]
    unfold Dk.cells
    go_enter Try.func30, Try.ntmps30
    go_wp2
    exact bodyPost_ret (results_cell rfl (b := w.heap.size + 1) (o := 0) (d.at_ true d.fuse).cells rfl (range_new (by simp)) Try.underlying24 rfl (by kernel_rfl)) rfl ⟨d.at_ true d.fuse, rfl, rfl, (G.out.at_ true G.out.i2).below (below_alloc (below_new _ _) _), below_alloc (below_new _ _) _⟩
  | false =>
    have hr : blowS d.dd n = (d.at_ false n).dd := by simp [blowS, Dk.dd, Dk.at_, hdn]
    rw [hr]
    clear hr
    rw [show d.v = .agg d.cells.toArray from rfl]
    unfold Dk.cells
    go_enter Try.func30, Try.ntmps30
    go_wp2
    exact bodyPost_ret (results_cell rfl (b := w.heap.size + 1) (o := 0) (d.at_ false n).cells rfl (range_new (by simp)) Try.underlying24 rfl (by kernel_rfl)) rfl ⟨d.at_ false n, rfl, rfl, (G.out.at_ false HN.out).below (below_alloc (below_new _ _) _), below_alloc (below_new _ _) _⟩
theorem rblow_any (d : Dk) {Z : Nat → Prop} (n : Int) (hn : -9223372036854775808 ≤ n ∧ n ≤ 9223372036854775807) (w : World) (hd : d.ok Z w) : Calls Try.prog 31 #[d.v, .int .i64 n] w (RetD1 Z w (blowS d.dd n)) := by
  have G := hid hd; clear hd
  have HN := hid hn; clear hn
  cases hdn : d.down with
  | true =>
    have hr : blowS d.dd n = (d.at_ true d.fuse).dd := by simp [blowS, Dk.dd, Dk.at_, hdn]
    rw [hr]
    clear hr
    rw [show d.v = .agg d.cells.toArray from rfl]
    unfold Dk.cells
    go_enter Try.func31, Try.ntmps31
    go_wp2
    exact bodyPost_ret (results_cell rfl (b := w.heap.size + 1) (o := 0) (d.at_ true d.fuse).cells rfl (range_new (by simp)) Try.underlying30 rfl (by kernel_rfl)) rfl ⟨d.at_ true d.fuse, rfl, rfl, (G.out.at_ true G.out.i2).below (below_alloc (below_new _ _) _), below_alloc (below_new _ _) _⟩
  | false =>
    have hr : blowS d.dd n = (d.at_ false n).dd := by simp [blowS, Dk.dd, Dk.at_, hdn]
    rw [hr]
    clear hr
    rw [show d.v = .agg d.cells.toArray from rfl]
    unfold Dk.cells
    go_enter Try.func31, Try.ntmps31
    go_wp2
    exact bodyPost_ret (results_cell rfl (b := w.heap.size + 1) (o := 0) (d.at_ false n).cells rfl (range_new (by simp)) Try.underlying30 rfl (by kernel_rfl)) rfl ⟨d.at_ false n, rfl, rfl, (G.out.at_ false HN.out).below (below_alloc (below_new _ _) _), below_alloc (below_new _ _) _⟩
end Go.Proofs.Ythboeilpeggpoaa
