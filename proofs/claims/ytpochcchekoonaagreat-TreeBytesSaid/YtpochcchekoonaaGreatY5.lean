/-
  Plain facts on encodings of trees: what was read can be written; what is written is bytes, and short. For every input TreeBytes returns true.
-/
import Derived.Test.YtpochcchekoonaaGreatY3
import Derived.Test.YtpochcchekoonaaGreatOc
import Derived.Test.YtpochcchekoonaaGreatY4
import Derived.Test.YtpochcchekoonaaGreatOe
import Derived.Test.YtpochcchekoonaaGreatA8
import Derived.Test.YtpochcchekoonaaGreatAk
namespace Go.Proofs.YtpochcchekoonaaGreat
open Go.Rf Go.RowKit
set_option linter.unusedVariables false
set_option linter.unusedSimpArgs false
--BEGIN
/-! ### what was read can be written -/
theorem dI_in {s : DS} (h : Bys s.bs) : InI64 (dI s).1 := back_range (rdU_ok h).1
theorem strOf_size {l : List Int} : (strOf l).size = l.length := by simp [strOf, ByteArray.size]
theorem dT_in {s : DS} (h : Bys s.bs) : (dT s).1.size ≤ s.bs.length := by
  unfold dT
  simp only [strOf_size]
  exact (rdR_bys h).2.2.2
def Al {α : Type} (el : DS → α × DS) (P : α → Prop) (B : Nat) : Prop := ∀ s, Bys s.bs → s.bs.length ≤ B → P (el s).1
theorem dGo_al {α : Type} {el : DS → α × DS} {P : α → Prop} {B : Nat} (hk : Kp el) (h : Al el P B) : ∀ k s, Bys s.bs → s.bs.length ≤ B → (∀ x ∈ (dGo el k s).1, P x) ∧ (dGo el k s).1.length ≤ k
  | 0, s, hs, hl => ⟨by simp [dGo], by simp [dGo]⟩
  | k + 1, s, hs, hl => by
    rw [dGo]
    split
    · exact ⟨by simp, by simp⟩
    · have hq := hk s hs
      obtain ⟨h1, h2⟩ := dGo_al hk h k (el s).2 hq.bys (Nat.le_trans hq.len hl)
      refine ⟨fun x hx => ?_, by simp only [List.length_cons]; omega⟩
      rcases List.mem_cons.1 hx with rfl | hx
      · exact h s hs hl
      · exact h1 x hx
theorem dLst_al {α : Type} {el : DS → α × DS} {P : α → Prop} {B : Nat} {m : Int} (hm : m ≤ B) (hk : Kp el) (h : Al el P B) : Al (dLst m el) (fun l => (∀ x ∈ l, P x) ∧ l.length ≤ B) B := fun s hs hl => by
  have hq := dI_kp s hs
  obtain ⟨h1, h2⟩ := dGo_al hk h (dI s).1.toNat (dBad m (dI s)) (dBad_kp (m := m) hq.bys).bys (Nat.le_trans hq.len hl)
  refine ⟨h1, ?_⟩
  by_cases hb : (dI s).1 < 0 ∨ m < (dI s).1
  · have : (dBad m (dI s)).bad = true := by simp only [dBad, decide_eq_true hb, Bool.or_true]
    show (dGo el (dI s).1.toNat (dBad m (dI s))).1.length ≤ B
    rw [dGo_bad this]
    simp
  · exact Nat.le_trans h2 (by omega)
theorem dVal_al {B : Nat} {m : Int} (hm : m ≤ B) (hB : B ≤ 10000000000) : ∀ f, Al (dVal m f) EW B
  | 0 => fun s hs hl => (numV_ev (by simp [InI64])).ew
  | f + 1 => fun s hs hl => by
    have k1 := dI_kp s hs
    have k2 := dI_kp _ k1.bys
    have k3 := dT_kp _ k2.bys
    have l1 := k1.len
    have l2 := k2.len
    have l3 := k3.len
    refine .mk (dI_in hs) (dI_in k1.bys) ?_ ?_
    · show (dT (dI (dI s).2).2).1.size ≤ 10000000000
      have := dT_in k2.bys
      omega
    · exact (dLst_al hm (dVal_kp m f) (dVal_al hm hB f) _ k3.bys (by omega)).1
theorem dNd_al {B : Nat} {m : Int} (hm : m ≤ B) (hB : B ≤ 10000000000) : Al (dNd m) NdW B := fun s hs hl => by
  rw [dNd_F]
  obtain ⟨F, hF⟩ : ∃ F : Nat, F = 131072 := ⟨_, rfl⟩
  rw [← hF]
  have a := dI_kp s hs
  have b := dT_kp _ a.bys
  have c := dI_kp _ b.bys
  have d := dI_kp _ c.bys
  have e := dLst_kp (m := m) dI_kp _ d.bys
  have f := dLst_kp (m := m) dT_kp _ e.bys
  have g := dLst_kp (m := m) (dVal_kp m F) _ f.bys
  have h := dLst_kp (m := m) dI_kp _ g.bys
  have l1 := a.len
  have l2 := b.len
  have l3 := c.len
  have l4 := d.len
  have l5 := e.len
  have l6 := f.len
  have l7 := g.len
  have l8 := h.len
  have hI : Al dI InI64 B := fun s hs _ => dI_in hs
  have hT : Al dT (fun s => s.size ≤ 10000000000) B := fun s hs hl => by have := dT_in hs; omega
  have q5 := dLst_al hm dI_kp hI _ d.bys (by omega)
  have q6 := dLst_al hm dT_kp hT _ e.bys (by omega)
  have q7 := dLst_al hm (dVal_kp m F) (dVal_al hm hB F) _ f.bys (by omega)
  have q8 := dLst_al hm dI_kp hI _ g.bys (by omega)
  have q9 := dVal_al hm hB F _ h.bys (by omega)
  exact ⟨dI_in hs, hT _ a.bys (by omega), dI_in b.bys, dI_in c.bys, q5.1, q8.1, Nat.le_trans q5.2 (by omega), Nat.le_trans q6.2 (by omega), Nat.le_trans q7.2 (by omega), Nat.le_trans q8.2 (by omega), q6.1, q7.1, q9⟩
/-- what Decode answers: an error and nothing, or a tree with this encoding, which can be written -/
theorem decE_cases {b : List Int} (hB : Bys b) (hl : b.length ≤ 10000000000) : decE b = ([], 2) ∨ (decE b).2 = 0 ∧ ttT (decE b).1 = b ∧ (∀ x ∈ (decE b).1, NdW x) ∧ (decE b).1.length ≤ b.length := by
  unfold decE
  rcases hd : decT b with _ | t
  · exact .inl rfl
  · refine .inr ⟨rfl, decT_one hB hd, ?_⟩
    have : t = (dTr b).1 := by
      unfold decT at hd
      split at hd
      · cases hd
      · exact (Option.some.inj hd).symm
    subst this
    exact dLst_al (m := b.length) (B := b.length) (Int.le_refl _) (dNd_kp _) (dNd_al (Int.le_refl _) hl) ⟨b, 0, false⟩ hB (Nat.le_refl _)
/-! ### what is written is bytes -/
theorem flat_bys {α : Type} {enc : α → List Int} (h : ∀ x, Bys (enc x)) (l : List α) : Bys (l.flatMap enc) := fun b hb => by
  obtain ⟨x, _, hx⟩ := List.mem_flatMap.1 hb
  exact h x b hx
theorem lsE_bys {α : Type} {enc : α → List Int} (h : ∀ x, Bys (enc x)) (l : List α) : Bys (lsE enc l) := (iv_bys _).append (flat_bys h l)
theorem sb_bys (s : ByteArray) : Bys (sb s) := fun b hb => by
  unfold sb at hb
  obtain ⟨c, _, rfl⟩ := List.mem_map.1 hb
  have := c.toNat_lt
  omega
theorem txt_bys (s : ByteArray) : Bys (txt s) := raw_bys (sb_bys s)
theorem tvV_bys : ∀ v : V, Bys (tvV v)
  | ⟨k, n, s, ks⟩ => by
    rw [tvV_ls]
    refine (iv_bys _).append ((iv_bys _).append ((txt_bys _).append ((iv_bys _).append ?_)))
    intro b hb
    obtain ⟨x, hx, hb⟩ := List.mem_flatMap.1 hb
    have : SizeOf.sizeOf x < SizeOf.sizeOf ks := List.sizeOf_lt_of_mem hx
    exact tvV_bys x b hb
theorem tnN_bys (x : Nd) : Bys (tnN x) := (iv_bys _).append ((txt_bys _).append ((iv_bys _).append ((iv_bys _).append ((lsE_bys iv_bys _).append ((lsE_bys txt_bys _).append ((lsE_bys tvV_bys _).append ((lsE_bys iv_bys _).append (tvV_bys _))))))))
theorem ttT_bys (t : List Nd) : Bys (ttT t) := lsE_bys tnN_bys t
/-! ### and short -/
theorem flat_le {α : Type} {enc : α → List Int} {B : Nat} : ∀ (l : List α), (∀ x ∈ l, (enc x).length ≤ B) → (l.flatMap enc).length ≤ l.length * B
  | [], _ => by simp
  | x :: l, h => by
    simp only [List.flatMap_cons, List.length_append, List.length_cons, Nat.add_mul, Nat.one_mul]
    have h1 := h x (by simp)
    have h2 := flat_le l (fun y hy => h y (by simp [hy]))
    omega
theorem iv_le {n : Int} (h : InI64 n) : (iv n).length ≤ 10 := iv_len h.1 h.2
theorem txt_le {s : ByteArray} (h : s.size ≤ 1000) : (txt s).length ≤ 1010 := by
  unfold txt raw
  rw [List.length_append, sb_len]
  have := uv_len s.size (by omega)
  omega
mutual
theorem tvV_le : ∀ v : V, EV v → vsz v ≤ 1000000 → (tvV v).length ≤ 1040 * vsz v
  | ⟨k, n, s, ks⟩, h, hz => by
    have h1 := iv_le h.kind
    have h2 := iv_le h.n
    have h3 := txt_le h.s
    simp only [vsz] at hz ⊢
    have h4 := tvs_le ks h.kids (by omega)
    have h5 := vszs_len ks
    have h6 : (iv (ks.length : Nat)).length ≤ 10 := iv_le (by unfold InI64; omega)
    have h7 : (raw (sb s)).length ≤ 1010 := h3
    simp only at h1 h2 h7
    simp only [tvV, List.length_append]
    omega
theorem tvs_le : ∀ l : List V, (∀ x ∈ l, EV x) → vszs l ≤ 1000000 → (tvs l).length ≤ 1040 * vszs l
  | [], _, _ => by simp [tvs]
  | v :: l, h, hz => by
    simp only [vszs] at hz ⊢
    have h1 := tvV_le v (h v (by simp)) (by omega)
    have h2 := tvs_le l (fun x hx => h x (by simp [hx])) (by omega)
    simp only [tvs, List.length_append]
    omega
end
theorem tnN_le {m : Nat} {x : Nd} (hg : NdG m x) (hm : m ≤ 100) : (tnN x).length ≤ 300000000 := by
  have hok := hg.ok
  have he := hg.e
  have a1 := hg.lw
  have a2 := hg.ll
  have a3 := hg.lv
  have a4 := hg.lk
  have v1 : ∀ v : V, EV v ∧ vsz v ≤ 2000 → (tvV v).length ≤ 2080000 := fun v hv => by
    have := tvV_le v hv.1 (by omega)
    omega
  have b1 := flat_le (enc := iv) (B := 10) x.ws (fun n hn => iv_le (hok.ws n hn))
  have b2 := flat_le (enc := txt) (B := 1010) x.labs (fun s hs => txt_le (he.labs s hs))
  have b3 := flat_le (enc := tvV) (B := 2080000) x.vals (fun v hv => v1 v (he.vals v hv))
  have b4 := flat_le (enc := iv) (B := 10) x.kids (fun n hn => iv_le (hok.kids n hn))
  have b5 := v1 x.val he.val
  have c1 := iv_le hok.kind
  have c2 := txt_le he.name
  have c3 := iv_le hok.lo
  have c4 := iv_le hok.hi
  have d1 : (iv (x.ws.length : Nat)).length ≤ 10 := iv_le (by unfold InI64; omega)
  have d2 : (iv (x.labs.length : Nat)).length ≤ 10 := iv_le (by unfold InI64; omega)
  have d3 : (iv (x.vals.length : Nat)).length ≤ 10 := iv_le (by unfold InI64; omega)
  have d4 : (iv (x.kids.length : Nat)).length ≤ 10 := iv_le (by unfold InI64; omega)
  have e1 : x.ws.length * 10 ≤ 110 * 10 := Nat.mul_le_mul_right _ (by omega)
  have e2 : x.labs.length * 1010 ≤ 110 * 1010 := Nat.mul_le_mul_right _ (by omega)
  have e3 : x.vals.length * 2080000 ≤ 110 * 2080000 := Nat.mul_le_mul_right _ (by omega)
  have e4 : x.kids.length * 10 ≤ 110 * 10 := Nat.mul_le_mul_right _ (by omega)
  unfold tnN lsE
  simp only [List.length_append]
  omega
theorem ttT_le {m : Nat} {t : List Nd} (hg : ∀ x ∈ t, NdG m x) (hm : m ≤ 100) (hl : t.length ≤ 14) : (ttT t).length ≤ 5000000000 := by
  have h1 := flat_le (enc := tnN) (B := 300000000) t (fun x hx => tnN_le (hg x hx) hm)
  have h2 : (iv (t.length : Nat)).length ≤ 10 := iv_le (by unfold InI64; omega)
  unfold ttT lsE
  rw [List.length_append]
  have : t.length * 300000000 ≤ 14 * 300000000 := Nat.mul_le_mul_right _ hl
  omega
--END
end Go.Proofs.YtpochcchekoonaaGreat
namespace Go.Rf
open Go.RowKit
set_option linter.unusedVariables false
section
variable {P : Program} {n : Nat} {f : Env} {w : World} {d : Nat} {ty : TypeId} {ps : String} {af : Array Edge} {gd : Option (Nat × Bool)} {t t2 : Nat} {x y : Operand}
theorem r_ptrNil {a : Addr} [T : PtrT P t] (hx : ev n f x = .pointer (some a)) (hy : ev n f y = .pointer none) : (execOp (ev n f) ⟨some d, .binOp .eql t x y t2, ty, ps, af, gd⟩).run P w = .ok (.value (.bool false)) w := by
  obtain ⟨e, hu⟩ := T.u
  have := equal_ptrNil (P := P) (w := w) (a := a) hu
  simp [execOp, eqGuard, binOp, hx, hy, this]
end
end Go.Rf
namespace Go.Proofs.YtpochcchekoonaaGreat
open Go.Rf Go.RowKit
set_option linter.unusedVariables false
set_option linter.unusedSimpArgs false
def bR (w : World) (bs : List Int) (cs : List Value) : Prop := ∃ v, cs = [v] ∧ Src w v bs.length (bs.map (.int .u8))
attribute [local irreducible] Code.wp wpList Exit.then Exit.inBlock bodyPost A Calls execOp Addr.add
set_option maxHeartbeats 32000000 in
theorem treeBytes_walk (x : Value) (l : List Int) (at_ how n c : Int) (y : Value) (raw : List Int) (u : World) (hx : Src u x l.length (l.map (.int .i64))) (hl : ∀ n ∈ l, InI64 n) (hat : InI64 at_) (hhow : InI64 how) (hn : InI64 n) (hc : 0 ≤ c ∧ c < 256) (hy : Src u y raw.length (raw.map (.int .u8))) (hraw : Bys raw) :
    Calls Tryz.prog 4 #[x, .int .i64 at_, .int .i64 how, .int .i64 n, .int .u8 c, y] u fun e u' => e = .returned (.bool true) ∧ Fr [] u u' := by
  obtain ⟨ax, cx, rfl, _⟩ := id hx
  obtain ⟨ay, cy, rfl, _⟩ := id hy
  refine enter Tryz.func4 rfl Tryz.ntmps4 rfl ?_
  refine rx ?_
  refine s_call (treeP l hl _ u hx) rfl ?_
  rintro _ u1 ⟨t0, sn0, rfl, hns0, _, hg0, hlen0, hf1⟩
  refine ⟨_, rfl, ?_⟩
  refine rx ?_
  refine s_call (spoiltT t0 0 (by omega) hg0 (by omega) at_ how n hat hhow hn sn0 u1 hns0) rfl ?_
  rintro _ u2 ⟨t, sn, rfl, hns, hlx, hg, hf2⟩
  refine ⟨_, rfl, ?_⟩
  have hlen : t.length ≤ 14 := by omega
  obtain ⟨an, cn, rfl, _⟩ := hns.slice
  have hok : ∀ x ∈ t, NdOk x := fun x hx => (hg x hx).ok
  have he : ∀ x ∈ t, NdE x := fun x hx => (hg x hx).e
  have hnw : ∀ x ∈ t, NdW x := fun x hx => NdW.of (hok x hx) (he x hx)
  have htl := ttT_le hg (by omega) hlen
  have htb := ttT_bys t
  have hdec : decE (ttT t) = (t, 0) := by unfold decE; rw [decT_rt hok he (by omega)]
  have htpos : 0 < (ttT t).length := by
    unfold ttT lsE
    rw [List.length_append]
    have := iv_pos (t.length : Nat)
    omega
  have hhead : ∃ rest, ttT t = iv (t.length : Nat) ++ rest := ⟨_, rfl⟩
  refine s_alloc rfl (fun u3 hb3 hf3 hs3 => ?_)
  refine s_storeAggB (cs := [.slice an t.length cn]) rfl rfl hb3 (by simp [Value.oneCell']) rfl rfl (fun u4 hb4 hf4 hs4 => ?_)
  obtain ⟨tb, htbe⟩ : ∃ y, y = u2.heap.size := ⟨_, rfl⟩
  rw [← htbe] at hb4 hf4 ⊢
  have hf24 : Fr [] u2 u4 := hf3.trans hf4 (by simp; omega)
  have hF4 := (hf1.trans0 hf2).trans0 hf24
  have hn4 := hns.tr0 hf24
  clear hb3
  refine rx ?_
  refine s_call (encP t hnw (by omega) (by omega) _ u4 hn4) rfl ?_
  rintro _ u5 ⟨bv, rfl, hob, hf5, hbk⟩
  refine ⟨_, rfl, ?_⟩
  obtain ⟨ab, cb, rfl⟩ := hob.slice
  have hb5 := hb4.tr0 hf5
  have hn5 := hn4.tr0 hf5
  have hF5 := hF4.trans0 hf5
  refine rx ?_
  refine s_call (decP _ (ttT t) u5 hob.src htb (by omega)) rfl ?_
  rintro _ u6 ⟨sd, rfl, hnd, hf6⟩
  refine ⟨_, rfl, ?_⟩
  rw [hdec] at hnd ⊢
  simp only at hnd ⊢
  obtain ⟨ad, cd, rfl, _⟩ := hnd.slice
  refine rx ?_
  refine s_alloc rfl (fun u7 hb7 hf7 hs7 => ?_)
  refine s_storeAggB (cs := [.slice ad t.length cd]) rfl rfl hb7 (by simp [Value.oneCell']) rfl rfl (fun u8 hb8 hf8 hs8 => ?_)
  have hf68 : Fr [] u6 u8 := hf7.trans hf8 (by simp)
  have hf58 := hf6.trans0 hf68
  have hF8 := hF5.trans0 hf58
  have hb48 := hb5.tr0 hf58
  have hn8 := hn5.tr0 hf58
  have hnd8 := hnd.tr0 hf68
  have hob8 := hob.tr0 hf58
  obtain ⟨db, hdbe⟩ : ∃ y, y = u6.heap.size := ⟨_, rfl⟩
  rw [← hdbe] at hb8 ⊢
  clear hb7 hb4 hb5
  refine rx ?_
  refine s_call (wRead _ (ttT t) u8 hob8.src htb (by omega)) rfl ?_
  rintro _ u9 ⟨rp, rv, rfl, hr9, hf9, hrg, _, _⟩
  refine ⟨_, rfl, ?_⟩
  refine rx ?_
  (refine d_begin (fun y => Fr [] u8 y) (by kernel_rfl) rfl ?_)
  have hS0 : Fr [] u8 u9.drew := hf9.trans0 (Fr.drew _ _)
  ((first | refine d_tx 0 hS0 ?_ | refine d_ty 0 hS0 ?_ | refine d_tn 0 hS0 ?_); (first | refine d_tx 1 hS0 ?_ | refine d_ty 1 hS0 ?_ | refine d_tn 1 hS0 ?_); (first | refine d_tx 2 hS0 ?_ | refine d_ty 2 hS0 ?_ | refine d_tn 2 hS0 ?_))
  (apply d_yes (i := 3); exact rfl; exact rfl; kernel_rfl; kernel_rfl; kernel_rfl; (intro u hu; exact (r_loadC rfl (Cells.ofBlk (hb8.tr0 hu)) (by rfl))); exact hS0)
  (apply d_yes (i := 4); exact rfl; exact rfl; kernel_rfl; kernel_rfl; kernel_rfl; (intro u hu; exact (r_loadC rfl (Cells.ofBlk (hb48.tr0 hu)) (by rfl))); exact hS0)
  refine d_one (i := 5) rfl (by kernel_rfl) ?_
  refine rx ?_
  refine s_call (equalC t t _ _ u9.drew (hnd8.tr0 hS0) (hn8.tr0 hS0) (by omega) (fun x hx => ⟨Nat.le_trans (hok x hx).lw (by decide), Nat.le_trans (hok x hx).ll (by decide), Nat.le_trans (hok x hx).lk (by decide)⟩)) rfl ?_
  rintro _ z1 ⟨p, rfl, hp, hz1⟩
  refine ⟨_, rfl, ?_⟩
  obtain rfl : p = true := hp.2 rfl
  have hS1 := hS0.trans0 hz1
  refine wpList_nil (q_held hS1 ?_)
  ((first | refine d_tx 6 hS1 ?_ | refine d_ty 6 hS1 ?_ | refine d_tn 6 hS1 ?_); (first | refine d_tx 7 hS1 ?_ | refine d_ty 7 hS1 ?_ | refine d_tn 7 hS1 ?_); (first | refine d_tx 8 hS1 ?_ | refine d_ty 8 hS1 ?_ | refine d_tn 8 hS1 ?_); (first | refine d_tx 9 hS1 ?_ | refine d_ty 9 hS1 ?_ | refine d_tn 9 hS1 ?_))
  (apply d_yes (i := 10); exact rfl; exact rfl; kernel_rfl; kernel_rfl; kernel_rfl; (intro u hu; exact (r_loadC rfl (Cells.ofBlk (hb48.tr0 hu)) (by rfl))); exact hS1)
  refine d_one (i := 11) rfl (by kernel_rfl) ?_
  refine rx ?_
  refine s_call (refEncP t hok he (by omega) (by omega) _ z1 (hn8.tr0 hS1)) rfl ?_
  rintro _ z2 ⟨ev, rfl, hO⟩
  refine ⟨_, rfl, ?_⟩
  have hS2 := hS1.trans0 hO.2.1
  refine wpList_nil (q_held hS2 ?_)
  refine d_one (i := 12) rfl (by kernel_rfl) ?_
  refine rx ?_
  refine s_call (sameBytes _ ev (ttT t) (ttT t) z2 (hob8.tr0 hS2).src hO.1.src (by omega)) rfl ?_
  rintro _ z3 ⟨rfl, hz3⟩
  refine ⟨_, rfl, ?_⟩
  rw [decide_eq_true rfl]
  have hS3 := hS2.trans0 hz3
  refine wpList_nil (q_held hS3 ?_)
  ((first | refine d_tx 13 hS3 ?_ | refine d_ty 13 hS3 ?_ | refine d_tn 13 hS3 ?_); (first | refine d_tx 14 hS3 ?_ | refine d_ty 14 hS3 ?_ | refine d_tn 14 hS3 ?_); (first | refine d_tx 15 hS3 ?_ | refine d_ty 15 hS3 ?_ | refine d_tn 15 hS3 ?_); (first | refine d_tx 16 hS3 ?_ | refine d_ty 16 hS3 ?_ | refine d_tn 16 hS3 ?_); (first | refine d_tx 17 hS3 ?_ | refine d_ty 17 hS3 ?_ | refine d_tn 17 hS3 ?_); (first | refine d_tx 18 hS3 ?_ | refine d_ty 18 hS3 ?_ | refine d_tn 18 hS3 ?_); (first | refine d_tx 19 hS3 ?_ | refine d_ty 19 hS3 ?_ | refine d_tn 19 hS3 ?_); (first | refine d_tx 20 hS3 ?_ | refine d_ty 20 hS3 ?_ | refine d_tn 20 hS3 ?_); (first | refine d_tx 21 hS3 ?_ | refine d_ty 21 hS3 ?_ | refine d_tn 21 hS3 ?_))
  (apply d_yes (i := 22); exact rfl; exact rfl; kernel_rfl; kernel_rfl; kernel_rfl; (intro u hu; exact (r_ptrNil rfl rfl)); exact hS3)
  ((first | refine d_tx 23 hS3 ?_ | refine d_ty 23 hS3 ?_ | refine d_tn 23 hS3 ?_); (first | refine d_tx 24 hS3 ?_ | refine d_ty 24 hS3 ?_ | refine d_tn 24 hS3 ?_); (first | refine d_tx 25 hS3 ?_ | refine d_ty 25 hS3 ?_ | refine d_tn 25 hS3 ?_))
  ((first | refine d_tx 27 hS3 ?_ | refine d_ty 27 hS3 ?_ | refine d_tn 27 hS3 ?_); (first | refine d_tx 28 hS3 ?_ | refine d_ty 28 hS3 ?_ | refine d_tn 28 hS3 ?_); (first | refine d_tx 29 hS3 ?_ | refine d_ty 29 hS3 ?_ | refine d_tn 29 hS3 ?_))
  refine d_one (i := 26) rfl (by kernel_rfl) ?_
  have hG3 : Fr [] u9 z3 := (((Fr.drew [] u9).trans0 hz1).trans0 hO.2.1).trans0 hz3
  refine rx ?_
  refine s_call (rInt rp rv (ttT t) 0 z3 (hr9.tr0 hG3)) rfl ?_
  rintro _ z4 ⟨rfl, rv', _, hz4, _⟩
  refine ⟨_, rfl, ?_⟩
  have hrd : (rdI (ttT t) 0).1 = (t.length : Nat) := by
    obtain ⟨rest, hh⟩ := hhead
    rw [hh, rdI_iv (by omega) (by omega)]
  rw [hrd]
  have hS4 : Fr [] u8 z4 := hS3.trans hz4 (fun b hb => .inr (by simp at hb; omega))
  refine wpList_nil (q_held hS4 ?_)
  ((first | refine d_tx 30 hS4 ?_ | refine d_ty 30 hS4 ?_ | refine d_tn 30 hS4 ?_); (first | refine d_tx 31 hS4 ?_ | refine d_ty 31 hS4 ?_ | refine d_tn 31 hS4 ?_))
  (refine d_done (by kernel_rfl) ?_)
  have hob4 := hob8.tr0 hS4
  have hF4z := hF8.trans0 hS4
  have hy4 := hy.tr0 hF4z
  clear hb8 hb48 hnd8 hn8 hnd hn5 hn4 hns hns0 hr9 hO
  obtain ⟨E0, hE0⟩ : ∃ E, E = ttT t := ⟨_, rfl⟩
  rw [← hE0] at hob4 htl htb htpos
  rw [← hE0]
  refine rx ?_
  refine s_call (around at_ E0.length z4 hat.1 hat.2 (by omega)) rfl ?_
  rintro _ _ ⟨rfl, rfl⟩
  refine ⟨_, rfl, ?_⟩
  obtain ⟨k, hk⟩ : ∃ m : Nat, arnd at_ E0.length = (m : Int) := ⟨(arnd at_ E0.length).toNat, by have := arnd_range (a := at_) (m := E0.length) (by omega); omega⟩
  have hkE : k < E0.length := by have := arnd_range (a := at_) (m := E0.length) (by omega); omega
  rw [hk]
  have hcb : E0.length ≤ cb := by obtain ⟨_, _, e, h, _⟩ := hob4.src; injection e with _ _ e3; omega
  refine rx ?_
  refine s_build0 (fun z5 ho5 hz5 hs5 => ?_)
  refine rx ?_
  refine s_append ho5 rfl (hob4.tr0 hz5).src rfl (by simp) (ints_one _ _) (by unfold maxLen; omega) (by omega) (fun vE z6 ho6 hz6 hk6 _ => ?_)
  have hg6 : Fr [] z4 z6 := hz5.trans hz6 (by simp [blks, Value.ownBlock])
  have hkE6 : ∀ b ∈ blks vE, z4.heap.size ≤ b := fun b hb => by
    rcases hk6 b hb with h | h
    · simp [blks, Value.ownBlock] at h; omega
    · have := hz5.size; omega
  rw [Nat.zero_add, List.nil_append] at ho6
  obtain ⟨aE, cE, rfl⟩ := ho6.slice
  obtain ⟨adE, haE⟩ : ∃ ad, aE = some ad := own_some ho6 (by omega)
  refine rx ?_
  refine s_index1 rfl rfl rfl hkE haE ?_
  refine s_storeOwn (j := k) ho6 haE hkE rfl rfl rfl (fun z7 ho7 hz7 _ => ?_)
  have hg7 : Fr [] z4 z7 := hg6.trans hz7 (fun b hb => .inr (hkE6 b hb))
  have ho7' : Own z7 5 1 (.slice aE E0.length cE) E0.length ((E0.set k c).map (.int .u8)) := by rw [List.map_set]; exact ho7
  have hEl : (E0.set k c).length = E0.length := List.length_set
  have hEb : Bys (E0.set k c) := fun b hb => by
    rcases List.mem_or_eq_of_mem_set hb with h | h
    · exact htb b h
    · rw [h]; exact hc
  generalize E0.set k c = E at ho7' hEl hEb
  clear ho7 ho6 ho5 hk6
  have hltE := ho7'.lt
  refine rx ?_
  refine c_cut (fun g z => ∃ bl, g 20 = .slice (some ⟨bl, 0, none⟩) 4 4 ∧ Sl z [] (bR z) [E, E0.take k, raw.take 40, E ++ [c]] (.slice (some ⟨bl, 0, none⟩) 4 4) ∧ Fr [] z4 z) ?_ ?_
  · (refine d_begin (fun y => Fr [] z4 y) (by kernel_rfl) rfl ?_)
    have hT : Fr [] z4 z7.drew := hg7.trans0 (Fr.drew _ _)
    have hU : Fr [] z7 z7.drew := Fr.drew _ _
    ((first | refine d_tx 0 hT ?_ | refine d_ty 0 hT ?_ | refine d_tn 0 hT ?_); (first | refine d_tx 1 hT ?_ | refine d_ty 1 hT ?_ | refine d_tn 1 hT ?_); (first | refine d_tx 2 hT ?_ | refine d_ty 2 hT ?_ | refine d_tn 2 hT ?_))
    (apply d_take (i := 3); exact rfl; kernel_rfl; kernel_rfl; kernel_rfl; (intro u hu; exact (r_sliceTo (k := k) rfl rfl (by omega))); exact hT)
    ((first | refine d_tx 4 hT ?_ | refine d_ty 4 hT ?_ | refine d_tn 4 hT ?_))
    ((first | refine d_tx 6 hT ?_ | refine d_ty 6 hT ?_ | refine d_tn 6 hT ?_); (first | refine d_tx 7 hT ?_ | refine d_ty 7 hT ?_ | refine d_tn 7 hT ?_))
    refine d_two (i := 5) (j := 8) rfl rfl (by kernel_rfl) ?oa ?ob
    case' oa =>
      refine s_call (few _ raw 40 _ (hy4.tr0 hT) (by omega)) rfl ?_
      rintro _ zz ⟨vF, rfl, hoF, hfF, hkF⟩
      refine ⟨_, rfl, ?_⟩
      have hkF7 : ∀ b ∈ blks vF, z7.heap.size ≤ b := fun b hb => Nat.le_trans hU.size (hkF b hb)
      replace hT := hT.trans0 hfF
      replace hU := hU.trans0 hfF
      refine wpList_nil (q_held hT ?_)
      refine d_one (i := 8) rfl (by kernel_rfl) ?_
      refine s_build1 (v := .int .u8 c) rfl rfl (fun zz hoB hfB hsB => ?_)
      replace hT := hT.trans0 hfB
      replace hU := hU.trans0 hfB
      replace hoF := hoF.tr0 hfB
      refine wpList_nil (q_held hT ?_)
    case' ob =>
      refine s_build1 (v := .int .u8 c) rfl rfl (fun zz hoB hfB hsB => ?_)
      replace hT := hT.trans0 hfB
      replace hU := hU.trans0 hfB
      refine wpList_nil (q_held hT ?_)
      refine d_one (i := 5) rfl (by kernel_rfl) ?_
      refine s_call (few _ raw 40 _ (hy4.tr0 hT) (by omega)) rfl ?_
      rintro _ zz ⟨vF, rfl, hoF, hfF, hkF⟩
      refine ⟨_, rfl, ?_⟩
      have hkF7 : ∀ b ∈ blks vF, z7.heap.size ≤ b := fun b hb => Nat.le_trans hU.size (hkF b hb)
      replace hT := hT.trans0 hfF
      replace hU := hU.trans0 hfF
      replace hoB := hoB.tr0 hfF
      refine wpList_nil (q_held hT ?_)
    all_goals
      obtain ⟨aF, cF, rfl⟩ := hoF.slice
      refine d_one (i := 9) rfl (by kernel_rfl) ?_
      refine s_appendK (ho7'.tr0 hU) rfl hoB.src rfl rfl (by simp [Value.oneCell']) (by unfold maxLen; omega) (by omega) (fun vA zA hoA hfA hkA hsA => ?_)
      replace hT := hT.trans hfA (fun b hb => .inr (hkE6 b hb))
      replace hoF := hoF.tr hfA (fun b hb hm => by have := hkF7 b hb; have := hltE b hm; omega)
      obtain ⟨aA, cA, rfl⟩ := hoA.slice
      refine wpList_nil (q_held hT ?_)
      refine d_one (i := 10) rfl (by kernel_rfl) ?_
      refine s_buildS [.slice aE E0.length cE, .slice ab k cb, .slice aF (raw.take 40).length cF, .slice aA (E0.length + 1) cA] rfl rfl rfl rfl (fun zB hoL hfL hsL => ?_)
      replace hT := hT.trans0 hfL
      refine wpList_nil (q_held hT ?_)
      (refine d_one (i := 11) rfl (by kernel_rfl) ?_; refine rx ?_; refine q_held hT ?_)
      (refine d_done (by kernel_rfl) ?_)
      refine q_cut ⟨_, rfl, ⟨_, hoL.src, fun _ _ _ _ _ => by simp, ?_⟩, hT⟩
      have r1 : bR zB E [.slice aE E0.length cE] := ⟨_, rfl, by rw [hEl]; exact hsA.tr0 hfL⟩
      have r2 : bR zB (E0.take k) [.slice ab k cb] := ⟨_, rfl, by
        have := Src.to (size := 1) (hob4.tr0 hT).src (show k ≤ E0.length by omega)
        rw [Nat.mul_one] at this
        rw [List.length_take, Nat.min_eq_left (by omega), List.map_take]
        exact this⟩
      have r3 : bR zB (raw.take 40) [.slice aF (raw.take 40).length cF] := ⟨_, rfl, (hoF.tr0 hfL).src⟩
      have r4 : bR zB (E ++ [c]) [.slice aA (E0.length + 1) cA] := ⟨_, rfl, by
        rw [List.length_append, hEl, List.map_append]
        exact (hoA.tr0 hfL).src⟩
      exact .cons r1 (.cons r2 (.cons r3 (Rws.one r4)))
  have hls : ∀ b ∈ [E, E0.take k, raw.take 40, E ++ [c]], Bys b ∧ b.length ≤ 10000000000 := fun b hb => by
    simp only [List.mem_cons, List.not_mem_nil, or_false] at hb
    rcases hb with rfl | rfl | rfl | rfl
    · exact ⟨hEb, by omega⟩
    · exact ⟨htb.take _, by rw [List.length_take]; omega⟩
    · exact ⟨hraw.take _, by rw [List.length_take]; omega⟩
    · refine ⟨hEb.append (fun b hb => ?_), by rw [List.length_append]; simp only [List.length_cons, List.length_nil]; omega⟩
      simp at hb; subst hb; exact hc
  have hl4 : [E, E0.take k, raw.take 40, E ++ [c]].length = 4 := rfl
  generalize [E, E0.take k, raw.take 40, E ++ [c]] = ls at hls hl4
  rintro g zF ⟨bl, q20, hsl, hgF⟩
  rw [eq_upd q20]
  have hFF := hF4z.trans0 hgF
  clear ho7' hltE hob4 hy4
  refine rx ?_
  refine c_loopK 24 [21, 22, 23] (σ := Nat) (fun i g z => g 21 = .int .i64 (i : Nat) ∧ i ≤ 4 ∧ Fr [] zF z) (fun i => 4 - i) 0 ⟨rfl, by omega, Fr.refl _ _⟩ ?_
  rintro i g z ⟨q21, hi, hfz⟩
  rw [eq_upd q21]
  have hFz := hFF.trans0 hfz
  by_cases hi4 : i < 4
  case neg =>
    refine rx ?_
    refine s_call (livesP z) rfl ?_
    rintro _ z9 ⟨rfl, hz9⟩
    refine ⟨_, rfl, ?_⟩
    refine rx ?_
    (apply ret1; exact rfl; (conv => lhs; whnf))
    exact ⟨rfl, hFz.trans0 hz9⟩
  have hil : i < ls.length := by omega
  have hlsz : Sl z [] (bR zF) ls (.slice (some ⟨bl, 0, none⟩) 4 4) := hsl.tr0 hfz
  obtain ⟨adl, cs, e2, ⟨vb, rfl, hvb⟩, hcx⟩ := Sl.at (k := 1) hlsz (fun x cs h => by obtain ⟨v, rfl, _⟩ := h; rfl) hil
  cases e2
  have hbi := hls _ (List.getElem_mem hil)
  have hcases := decE_cases hbi.1 hbi.2
  have hvbF := hvb
  have hcellL : ∀ w, Fr [] z w → w.cell? (Addr.add ⟨bl, 0, none⟩ (i * 1)) = some vb := fun w hw => (hcx.tr0 hw).get0 rfl
  generalize ls[i] = b at hbi hcases hvbF
  refine rx ?_
  refine s_load rfl (hcellL z (Fr.refl _ _)) ?_
  refine rx ?_
  refine s_call (decP vb b z (hvbF.tr0 hfz) hbi.1 (by omega)) rfl ?_
  rintro _ y1 ⟨sn1, rfl, hnd1, hfy1⟩
  refine ⟨_, rfl, ?_⟩
  obtain ⟨a1, c1, rfl, _⟩ := hnd1.slice
  refine rx ?_
  refine s_alloc rfl (fun y2 hb2 hfy2 hsy2 => ?_)
  refine s_storeAggB (cs := [.slice a1 (decE b).1.length c1]) rfl rfl hb2 (by simp [Value.oneCell']) rfl rfl (fun y3 hb3 hfy3 hsy3 => ?_)
  have hf13 : Fr [] y1 y3 := hfy2.trans hfy3 (by simp)
  have hzy3 : Fr [] z y3 := hfy1.trans0 hf13
  obtain ⟨nb, hnbe⟩ : ∃ q, q = y1.heap.size := ⟨_, rfl⟩
  rw [← hnbe] at hb3 ⊢
  have hnd3 := hnd1.tr0 hf13
  clear hb2 hnd1
  rcases hcases with hcs | ⟨h0, htt, hnw1, hln1⟩
  · rw [hcs] at hb3 ⊢
    simp only [List.length_nil] at hb3 ⊢
    refine rx ?_
    (refine d_begin (fun y => Fr [] y3 y) (by kernel_rfl) rfl ?_)
    have hS : Fr [] y3 y3.drew := Fr.drew _ _
    ((first | refine d_tx 0 hS ?_ | refine d_ty 0 hS ?_ | refine d_tn 0 hS ?_); (first | refine d_tx 1 hS ?_ | refine d_ty 1 hS ?_ | refine d_tn 1 hS ?_); (first | refine d_tx 2 hS ?_ | refine d_ty 2 hS ?_ | refine d_tn 2 hS ?_); (first | refine d_tx 3 hS ?_ | refine d_ty 3 hS ?_ | refine d_tn 3 hS ?_); (first | refine d_tx 4 hS ?_ | refine d_ty 4 hS ?_ | refine d_tn 4 hS ?_); (first | refine d_tx 5 hS ?_ | refine d_ty 5 hS ?_ | refine d_tn 5 hS ?_); (first | refine d_tx 6 hS ?_ | refine d_ty 6 hS ?_ | refine d_tn 6 hS ?_); (first | refine d_tx 7 hS ?_ | refine d_ty 7 hS ?_ | refine d_tn 7 hS ?_); (first | refine d_tx 8 hS ?_ | refine d_ty 8 hS ?_ | refine d_tn 8 hS ?_); (first | refine d_tx 9 hS ?_ | refine d_ty 9 hS ?_ | refine d_tn 9 hS ?_); (first | refine d_tx 10 hS ?_ | refine d_ty 10 hS ?_ | refine d_tn 10 hS ?_); (first | refine d_tx 11 hS ?_ | refine d_ty 11 hS ?_ | refine d_tn 11 hS ?_); (first | refine d_tx 12 hS ?_ | refine d_ty 12 hS ?_ | refine d_tn 12 hS ?_); (first | refine d_tx 13 hS ?_ | refine d_ty 13 hS ?_ | refine d_tn 13 hS ?_); (first | refine d_tx 14 hS ?_ | refine d_ty 14 hS ?_ | refine d_tn 14 hS ?_); (first | refine d_tx 15 hS ?_ | refine d_ty 15 hS ?_ | refine d_tn 15 hS ?_); (first | refine d_tx 16 hS ?_ | refine d_ty 16 hS ?_ | refine d_tn 16 hS ?_); (first | refine d_tx 17 hS ?_ | refine d_ty 17 hS ?_ | refine d_tn 17 hS ?_); (first | refine d_tx 18 hS ?_ | refine d_ty 18 hS ?_ | refine d_tn 18 hS ?_); (first | refine d_tx 19 hS ?_ | refine d_ty 19 hS ?_ | refine d_tn 19 hS ?_); (first | refine d_tx 20 hS ?_ | refine d_ty 20 hS ?_ | refine d_tn 20 hS ?_); (first | refine d_tx 21 hS ?_ | refine d_ty 21 hS ?_ | refine d_tn 21 hS ?_); (first | refine d_tx 22 hS ?_ | refine d_ty 22 hS ?_ | refine d_tn 22 hS ?_); (first | refine d_tx 23 hS ?_ | refine d_ty 23 hS ?_ | refine d_tn 23 hS ?_); (first | refine d_tx 24 hS ?_ | refine d_ty 24 hS ?_ | refine d_tn 24 hS ?_); (first | refine d_tx 25 hS ?_ | refine d_ty 25 hS ?_ | refine d_tn 25 hS ?_))
    (refine d_done (by kernel_rfl) ?_)
    refine rx ?_
    refine q_roundK (i + 1) (by (repeat (first | exact Keep.mrg _ _ _ _ | (refine Keep.hi rfl ?_) | (refine Keep.one rfl ?_) | exact Keep.all rfl | (refine Keep.inn rfl ?_) | (refine Keep.set rfl ?_)))) ⟨rfl, by omega, (hfz.trans0 hzy3).trans0 hS⟩ (by omega)
  · rw [h0]
    refine rx ?_
    (refine d_begin (fun y => Fr [] y3 y) (by kernel_rfl) rfl ?_)
    have hS : Fr [] y3 y3.drew := Fr.drew _ _
    ((first | refine d_tx 0 hS ?_ | refine d_ty 0 hS ?_ | refine d_tn 0 hS ?_); (first | refine d_tx 1 hS ?_ | refine d_ty 1 hS ?_ | refine d_tn 1 hS ?_); (first | refine d_tx 2 hS ?_ | refine d_ty 2 hS ?_ | refine d_tn 2 hS ?_); (first | refine d_tx 3 hS ?_ | refine d_ty 3 hS ?_ | refine d_tn 3 hS ?_); (first | refine d_tx 4 hS ?_ | refine d_ty 4 hS ?_ | refine d_tn 4 hS ?_); (first | refine d_tx 5 hS ?_ | refine d_ty 5 hS ?_ | refine d_tn 5 hS ?_); (first | refine d_tx 6 hS ?_ | refine d_ty 6 hS ?_ | refine d_tn 6 hS ?_); (first | refine d_tx 7 hS ?_ | refine d_ty 7 hS ?_ | refine d_tn 7 hS ?_); (first | refine d_tx 8 hS ?_ | refine d_ty 8 hS ?_ | refine d_tn 8 hS ?_); (first | refine d_tx 9 hS ?_ | refine d_ty 9 hS ?_ | refine d_tn 9 hS ?_); (first | refine d_tx 10 hS ?_ | refine d_ty 10 hS ?_ | refine d_tn 10 hS ?_); (first | refine d_tx 11 hS ?_ | refine d_ty 11 hS ?_ | refine d_tn 11 hS ?_); (first | refine d_tx 12 hS ?_ | refine d_ty 12 hS ?_ | refine d_tn 12 hS ?_); (first | refine d_tx 13 hS ?_ | refine d_ty 13 hS ?_ | refine d_tn 13 hS ?_); (first | refine d_tx 14 hS ?_ | refine d_ty 14 hS ?_ | refine d_tn 14 hS ?_); (first | refine d_tx 15 hS ?_ | refine d_ty 15 hS ?_ | refine d_tn 15 hS ?_))
    (apply d_yes (i := 16); exact rfl; exact rfl; kernel_rfl; kernel_rfl; kernel_rfl; (intro u hu; exact (r_loadC rfl (Cells.ofBlk (hb3.tr0 hu)) (by rfl))); exact hS)
    ((first | refine d_tx 18 hS ?_ | refine d_ty 18 hS ?_ | refine d_tn 18 hS ?_); (first | refine d_tx 19 hS ?_ | refine d_ty 19 hS ?_ | refine d_tn 19 hS ?_); (first | refine d_tx 20 hS ?_ | refine d_ty 20 hS ?_ | refine d_tn 20 hS ?_))
    (apply d_yes (i := 21); exact rfl; exact rfl; kernel_rfl; kernel_rfl; kernel_rfl; (intro u hu; exact (r_load rfl (hcellL _ (hzy3.trans0 hu)))); exact hS)
    refine d_one (i := 17) rfl (by kernel_rfl) ?_
    refine rx ?_
    refine s_call (encP (decE b).1 hnw1 (by omega) (by rw [htt]; omega) _ y3.drew (hnd3.tr0 hS)) rfl ?_
    rintro _ y4 ⟨ve, rfl, hoe, hfy4, _⟩
    refine ⟨_, rfl, ?_⟩
    rw [htt] at hoe
    have hS4 := hS.trans0 hfy4
    refine wpList_nil (q_held hS4 ?_)
    refine d_one (i := 22) rfl (by kernel_rfl) ?_
    refine rx ?_
    refine s_call (sameBytes ve vb b b y4 hoe.src ((hvbF.tr0 hfz).tr0 (hzy3.trans0 hS4)) (by omega)) rfl ?_
    rintro _ y5 ⟨rfl, hfy5⟩
    refine ⟨_, rfl, ?_⟩
    rw [decide_eq_true rfl]
    have hS5 := hS4.trans0 hfy5
    refine wpList_nil (q_held hS5 ?_)
    ((first | refine d_tx 23 hS5 ?_ | refine d_ty 23 hS5 ?_ | refine d_tn 23 hS5 ?_); (first | refine d_tx 24 hS5 ?_ | refine d_ty 24 hS5 ?_ | refine d_tn 24 hS5 ?_); (first | refine d_tx 25 hS5 ?_ | refine d_ty 25 hS5 ?_ | refine d_tn 25 hS5 ?_))
    (refine d_done (by kernel_rfl) ?_)
    refine rx ?_
    refine q_roundK (i + 1) (by (repeat (first | exact Keep.mrg _ _ _ _ | (refine Keep.hi rfl ?_) | (refine Keep.one rfl ?_) | exact Keep.all rfl | (refine Keep.inn rfl ?_) | (refine Keep.set rfl ?_)))) ⟨rfl, by omega, (hfz.trans0 hzy3).trans0 hS5⟩ (by omega)
end Go.Proofs.YtpochcchekoonaaGreat
