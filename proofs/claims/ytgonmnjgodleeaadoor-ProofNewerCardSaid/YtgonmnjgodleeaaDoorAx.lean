/-
  The shadow of a run: operators, lengths, slices, rows built. Nothing here speaks of the program.
-/
import Derived.Test.YtgonmnjgodleeaaDoorAq
import Derived.IntWalk
namespace Go.Proofs.YtgonmnjgodleeaaDoor
open Go.RowKit
section
variable {P : Program} {T : TabT} {c : Cx}
theorem aarith_ok {op : BinOp} {k : IntKind} {a b : Int} {r : ARes} (hr : aarith op k a b = some r) (hp : r.p) (w : World) :
    r.d = none ∧ ∃ q, (match op with | .add | .sub | .mul => Op.intArith op k a b | .quo | .rem => Op.intDiv op k a b | .and | .or | .xor | .andNot => Op.intBits op k a b | _ => Op.intCmp op a b : Sem Value).run P w = .ok q w ∧ RV c q r.v := by
  unfold aarith at hr
  split at hr
  · split at hr
    · rename_i hk; subst hk; cases hr
      exact ⟨rfl, _, by simp [Op.intArith, IntWalk.i64_in _ hp], .int _ _⟩
    · cases hr; exact ⟨rfl, _, by simp [Op.intArith], .int _ _⟩
  · split at hr
    · rename_i hk; subst hk; cases hr
      exact ⟨rfl, _, by simp [Op.intArith, IntWalk.i64_in _ hp], .int _ _⟩
    · cases hr; exact ⟨rfl, _, by simp [Op.intArith], .int _ _⟩
  · split at hr
    · rename_i hk; subst hk; cases hr
      exact ⟨rfl, _, by simp [Op.intArith, IntWalk.i64_in _ hp], .int _ _⟩
    · cases hr; exact ⟨rfl, _, by simp [Op.intArith], .int _ _⟩
  · split at hr
    · rename_i hk; subst hk; cases hr
      exact ⟨rfl, _, by simp [Op.intDiv, hp.1, IntWalk.i64_in _ hp.2], .int _ _⟩
    · cases hr; exact ⟨rfl, _, by simp [Op.intDiv, show b ≠ 0 from hp], .int _ _⟩
  · cases hr; exact ⟨rfl, _, by simp [Op.intDiv, show b ≠ 0 from hp], .int _ _⟩
  · cases hr; exact ⟨rfl, .int k (bits .and k a b), rfl, .int _ _⟩
  · cases hr; exact ⟨rfl, .int k (bits .or k a b), rfl, .int _ _⟩
  · cases hr; exact ⟨rfl, .int k (bits .xor k a b), rfl, .int _ _⟩
  · cases hr; exact ⟨rfl, .int k (bits .andNot k a b), rfl, .int _ _⟩
  · cases hr
theorem ashift_ok {op : BinOp} {k : IntKind} {a b : Int} {r : ARes} (hr : ashift op k a b = some r) (hp : r.p) (w : World) :
    r.d = none ∧ ∃ q, (Op.shift op k a k b).run P w = .ok q w ∧ RV c q r.v ∧ (op = .shl ∨ op = .shr) := by
  unfold ashift at hr
  split at hr
  · cases hr
    have h : ¬ b < 0 := by have := hp; simp at this; omega
    exact ⟨rfl, .int k (k.wrap (a * 2 ^ min b.toNat k.bits)), by simp [Op.shift, h], .int _ _, .inl rfl⟩
  · cases hr
    have h : ¬ b < 0 := by have := hp; simp at this; omega
    exact ⟨rfl, .int k (a.fdiv (2 ^ min b.toNat k.bits)), by simp [Op.shift, h], .int _ _, .inr rfl⟩
  · cases hr
theorem run_iface_nil (d : Nat) (t : TypeId) {ms : Array (String × TypeId)} (hd : P.underlying t = some (.interface ms)) (tt : TypeId) (vv : Value) (w : World) : (Op.equalIn (d + 1) t (.iface tt vv) .nilIface).run P w = .ok false w := by
  simp [Op.equalIn, run_underlying hd]
theorem run_sl_nil (d : Nat) (t : TypeId) {el : Nat} (hd : P.underlying t = some (.slice el)) (a : Addr) (n cap : Nat) (w : World) : (Op.equalIn (d + 1) t (.slice (some a) n cap) (.slice none 0 0)).run P w = .ok false w := by
  simp [Op.equalIn, run_underlying hd]
theorem run_nil_nil (d : Nat) (t : TypeId) {ms : Array (String × TypeId)} (hd : P.underlying t = some (.interface ms)) (w : World) : (Op.equalIn (d + 1) t .nilIface .nilIface).run P w = .ok true w := by
  simp [Op.equalIn, run_underlying hd]
theorem run_guard_nil (op : BinOp) (t : TypeId) (x y : Operand) (h : (isc x || isc y) = true) (w : World) : (eqGuard op t x y .nilIface .nilIface).run P w = .ok () w := by
  cases x <;> cases y <;> first | (cases h; done) | (cases op <;> simp [eqGuard])
theorem abin_ok {op : BinOp} {t : Nat} {ti : TI} (ht : TIok P t ti) {x y : Operand} {v u : Value} {a b : AV} (hv : RV c v a) (hu : RV c u b) {r : ARes} (hr : abin op ti (isc x || isc y) a b = some r) (hp : r.p) :
    r.d = none ∧ ∃ q, (do eqGuard op t x y v u; binOp op t v u : Sem Value).run P c.w = .ok q c.w ∧ RV c q r.v := by
  unfold abin at hr
  split at hr
  · rename_i k a k' b
    split at hr
    · rename_i q hq
      cases hr
      obtain ⟨h1, u, h2, h3, h4⟩ := ashift_ok (P := P) (c := c) hq hp c.w
      cases hv; cases hu
      refine ⟨h1, u, ?_, h3⟩
      have hg : (eqGuard op t x y (.int k a) (.int k' b)).run P c.w = .ok () c.w := by cases op <;> simp [eqGuard]
      rcases h4 with rfl | rfl
      · simp [Sem.run_bind, hg, binOp]; exact h2
      · simp [Sem.run_bind, hg, binOp]; exact h2
    split at hr
    · rename_i hk; subst hk
      cases hv; cases hu
      have hg : (eqGuard op t x y (.int k a) (.int k b)).run P c.w = .ok () c.w := by cases op <;> simp [eqGuard]
      split at hr
      · rename_i q hq
        cases hr
        refine ⟨rfl, .bool q, ?_, .bool _⟩
        have hcm := acmp_ok (P := P) op a b hq c.w
        have hbo : (binOp op t (.int k a) (.int k b)).run P c.w = .ok (.bool q) c.w := by
          unfold acmp at hq
          split at hq <;> first | cases hq; done | skip
          all_goals (simp only [binOp, ne_eq, not_true_eq_false, if_false]; exact hcm)
        simp [Sem.run_bind, hg, hbo]
      · obtain ⟨h1, q, h2, h3⟩ := aarith_ok (P := P) (c := c) hr hp c.w
        refine ⟨h1, q, ?_, h3⟩
        have hbo : (binOp op t (.int k a) (.int k b)).run P c.w = .ok q c.w := by
          unfold aarith at hr
          split at hr <;> first | cases hr; done | skip
          all_goals (simp only [binOp, ne_eq, not_true_eq_false, if_false]; exact h2)
        simp [Sem.run_bind, hg, hbo]
    · cases hr
  · rename_i a b
    cases hv with
    | str s1 _ h1 =>
      cases hu with
      | str s2 _ h2 =>
        subst h1 h2
        have hg : (eqGuard op t x y (.string s1) (.string s2)).run P c.w = .ok () c.w := by cases op <;> simp [eqGuard]
        split at hr <;> first | cases hr; done | skip
        · cases hr
          exact ⟨rfl, _, by simp [Sem.run_bind, hg, binOp, Op.stringOp, str_beq], .bool _⟩
        · cases hr
          exact ⟨rfl, _, by simp [Sem.run_bind, hg, binOp, Op.stringOp, str_beq], .bool _⟩
        · cases hr
          have hn : ¬ ((s1.size + s2.size : Nat) : Int) > IntKind.i64.max := by
            have : ((s1.data.toList.length + s2.data.toList.length : Nat) : Int) ≤ 9223372036854775807 := hp
            have e : IntKind.i64.max = 9223372036854775807 := by decide
            simp at this
            rw [e]; omega
          exact ⟨rfl, .string (s1 ++ s2), by simp only [Sem.run_bind, hg, Result.andThen_ok, binOp, Op.stringOp, if_neg hn, Sem.run_pure], .str _ _ (by simp)⟩
        · cases hr
          exact ⟨rfl, _, by simp [Sem.run_bind, hg, binOp, Op.stringOp]; rfl, by rw [← ByteArray.toList_eq, ← ByteArray.toList_eq]; exact .bool _⟩
  · cases hv; cases hu
    obtain ⟨d, hd, hso⟩ := ht.desc
    unfold sortOk at hso
    split at hr <;> first | cases hr; done | skip
    · rename_i hs; rw [hs] at hso; subst hso; cases hr
      exact ⟨rfl, _, by simp [Sem.run_bind, eqGuard, binOp, run_equal_bool c.w t _ _ hd], .bool _⟩
    · rename_i hs; rw [hs] at hso; subst hso; cases hr
      exact ⟨rfl, _, by simp [Sem.run_bind, eqGuard, binOp, run_equal_bool c.w t _ _ hd], .bool _⟩
  · cases hv with
    | agg vs xs h1 h2 h3 =>
      cases hu with
      | agg us ys g1 g2 g3 =>
        split at hr <;> first | cases hr; done | skip
        · rename_i s ss hs
          simp only [Option.map_eq_some_iff] at hr
          obtain ⟨q, hq, rfl⟩ := hr
          obtain ⟨w1, w2⟩ := agg_eq (ht.eq (by rw [hs]; simp)) h1 g1 h3 g3 (by rw [hs]; exact hq) c.w
          exact ⟨rfl, .bool q, by simp only [Sem.run_bind, run_eqGuard_agg c.w _ t x y vs us w1, Result.andThen_ok, run_eql_struct, w2], .bool _⟩
        · rename_i s ss hs
          simp only [Option.map_eq_some_iff] at hr
          obtain ⟨q, hq, rfl⟩ := hr
          obtain ⟨w1, w2⟩ := agg_eq (ht.eq (by rw [hs]; simp)) h1 g1 h3 g3 (by rw [hs]; exact hq) c.w
          exact ⟨rfl, .bool (!q), by simp only [Sem.run_bind, run_eqGuard_agg c.w _ t x y vs us w1, Result.andThen_ok, run_neq_struct, w2], .bool _⟩
  · cases hv with
    | iface tt vv aa ha =>
      cases hu
      obtain ⟨d, hd, hso⟩ := ht.desc
      unfold sortOk at hso
      split at hr <;> first | cases hr; done | skip
      · rename_i hs; rw [hs] at hso; obtain ⟨ms, rfl⟩ := hso; cases hr
        have he := fun tt => run_iface_nil 9999 t hd tt vv c.w
        exact ⟨rfl, .bool false, by simp [Sem.run_bind, eqGuard, binOp, Op.equal, Op.maxDepth, he], .bool _⟩
      · rename_i hs; rw [hs] at hso; obtain ⟨ms, rfl⟩ := hso; cases hr
        have he := fun tt => run_iface_nil 9999 t hd tt vv c.w
        exact ⟨rfl, .bool true, by simp [Sem.run_bind, eqGuard, binOp, Op.equal, Op.maxDepth, he], .bool _⟩
  · cases hv with
    | msl _ _ _ _ _ b o' h1 h2 h3 h4 h5 h6 =>
      cases hu
      obtain ⟨d, hd, hso⟩ := ht.desc
      unfold sortOk at hso
      split at hr <;> first | cases hr; done | skip
      · rename_i hs; rw [hs] at hso; subst hso; cases hr
        have he := fun a n cap => run_sl_nil 9999 t hd a n cap c.w
        exact ⟨rfl, .bool false, by simp [Sem.run_bind, eqGuard, binOp, Op.equal, Op.maxDepth, he], .bool _⟩
      · rename_i hs; rw [hs] at hso; subst hso; cases hr
        have he := fun a n cap => run_sl_nil 9999 t hd a n cap c.w
        exact ⟨rfl, .bool true, by simp [Sem.run_bind, eqGuard, binOp, Op.equal, Op.maxDepth, he], .bool _⟩
  · split at hr
    · cases hr
    · rename_i hl0
      cases hv with
      | sl _ _ _ A m cap b o vs h1 h2 h3 h4 h5 h6 h7 h8 =>
        cases hu
        obtain rfl := h4 (fun e => hl0 (by rw [e]; rfl))
        obtain ⟨d, hd, hso⟩ := ht.desc
        unfold sortOk at hso
        split at hr <;> first | cases hr; done | skip
        · rename_i hs; rw [hs] at hso; subst hso; cases hr
          have he := fun a n cap => run_sl_nil 9999 t hd a n cap c.w
          exact ⟨rfl, .bool false, by simp [Sem.run_bind, eqGuard, binOp, Op.equal, Op.maxDepth, he], .bool _⟩
        · rename_i hs; rw [hs] at hso; subst hso; cases hr
          have he := fun a n cap => run_sl_nil 9999 t hd a n cap c.w
          exact ⟨rfl, .bool true, by simp [Sem.run_bind, eqGuard, binOp, Op.equal, Op.maxDepth, he], .bool _⟩
  · cases hv; cases hu
    obtain ⟨d, hd, hso⟩ := ht.desc
    unfold sortOk at hso
    split at hr <;> first | cases hr; done | skip
    · rename_i hs hk; rw [hs] at hso; obtain ⟨ms, rfl⟩ := hso; cases hr
      have he := run_nil_nil 9999 t hd c.w
      exact ⟨rfl, .bool true, by simp [Sem.run_bind, run_guard_nil _ t x y hk, binOp, Op.equal, Op.maxDepth, he], .bool _⟩
    · rename_i hs hk; rw [hs] at hso; obtain ⟨ms, rfl⟩ := hso; cases hr
      have he := run_nil_nil 9999 t hd c.w
      exact ⟨rfl, .bool false, by simp [Sem.run_bind, run_guard_nil _ t x y hk, binOp, Op.equal, Op.maxDepth, he], .bool _⟩
  · cases hr
theorem alen_ok {t : Nat} {ti : TI} (ht : TIok P t ti) {v : Value} {x : AV} (hv : RV c v x) {r : ARes} (hr : alen ti x = some r) (ty : TypeId) : r.d = none ∧ ∃ q, (Builtin.len_ #[t] ty #[v]).run P c.w = .ok q c.w ∧ RV c q r.v := by
  obtain ⟨d, hd, hso⟩ := ht.desc
  unfold sortOk at hso
  unfold alen at hr
  split at hr <;> first | cases hr; done | skip
  all_goals (split at hr <;> first | cases hr; done | skip)
  all_goals (rename_i hs; rw [hs] at hso; subst hso; cases hr)
  · cases hv with
    | sl _ _ _ A n cap b o vs hn => subst hn; exact ⟨rfl, _, by simp [Builtin.len_, Sem.run_bind, run_underlying hd, goInt], .int _ _⟩
  · cases hv with
    | psl _ _ A n cap b o vs hn => subst hn; exact ⟨rfl, _, by simp [Builtin.len_, Sem.run_bind, run_underlying hd, goInt], .int _ _⟩
  · cases hv; exact ⟨rfl, _, by simp [Builtin.len_, Sem.run_bind, run_underlying hd, goInt], .int _ _⟩
  · cases hv; exact ⟨rfl, _, by simp [Builtin.len_, Sem.run_bind, run_underlying hd, goInt], .int _ _⟩
  · cases hv with
    | str s _ h => subst h; exact ⟨rfl, .int .i64 s.size, by simp [Builtin.len_, Sem.run_bind, run_underlying hd, goInt], by simp; exact .int _ _⟩
end
end Go.Proofs.YtgonmnjgodleeaaDoor
