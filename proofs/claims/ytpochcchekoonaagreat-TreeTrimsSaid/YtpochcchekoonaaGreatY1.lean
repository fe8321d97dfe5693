/-
  The plain law of encodings of trees: reading what was written, and one encoding. Package tree: writeValue, writeNode, Encode, encodeNode.
-/
import Derived.Test.YtpochcchekoonaaGreatO1
import Derived.Test.YtpochcchekoonaaGreatPz
import Derived.Test.YtpochcchekoonaaGreatWr
namespace Go.Proofs.YtpochcchekoonaaGreat
open Go.Rf Go.RowKit
set_option linter.unusedVariables false
set_option linter.unusedSimpArgs false
--BEGIN
/-! ### what is written -/
mutual
def tvV : V → List Int
  | ⟨k, n, s, ks⟩ => iv k ++ (iv n ++ (raw (sb s) ++ (iv (ks.length : Nat) ++ tvs ks)))
def tvs : List V → List Int
  | [] => []
  | v :: l => tvV v ++ tvs l
end
theorem tvV_eq (v : V) : tvV v = iv v.kind ++ (iv v.n ++ (raw (sb v.s) ++ (iv (v.kids.length : Nat) ++ tvs v.kids))) := by cases v; simp only [tvV]
theorem tvs_flat (l : List V) : tvs l = l.flatMap tvV := by
  induction l with
  | nil => rfl
  | cons v l ih => simp [tvs, ih]
def txt (s : ByteArray) : List Int := raw (sb s)
/-- a list: its length, and the elements -/
def lsE {α : Type} (enc : α → List Int) (l : List α) : List Int := iv (l.length : Nat) ++ l.flatMap enc
theorem tvV_ls (v : V) : tvV v = iv v.kind ++ (iv v.n ++ (txt v.s ++ lsE tvV v.kids)) := by rw [tvV_eq, tvs_flat]; rfl
def tnN (x : Nd) : List Int := iv x.kind ++ (txt x.name ++ (iv x.lo ++ (iv x.hi ++ (lsE iv x.ws ++ (lsE txt x.labs ++ (lsE tvV x.vals ++ (lsE iv x.kids ++ tvV x.val)))))))
def ttT (t : List Nd) : List Int := lsE tnN t

/-! ### what is read -/
structure DS where
  bs : List Int
  e : Int
  bad : Bool
def dI (s : DS) : Int × DS := ((rdI s.bs s.e).1, ⟨(rdI s.bs s.e).2.1, (rdI s.bs s.e).2.2, s.bad⟩)
def dT (s : DS) : ByteArray × DS := (strOf (rdR s.bs s.e).1, ⟨(rdR s.bs s.e).2.1, (rdR s.bs s.e).2.2, s.bad⟩)
def dGo {α : Type} (el : DS → α × DS) : Nat → DS → List α × DS
  | 0, s => ([], s)
  | k + 1, s => if s.bad = true then ([], s) else ((el s).1 :: (dGo el k (el s).2).1, (dGo el k (el s).2).2)
def dBad (m : Int) (r : Int × DS) : DS := ⟨r.2.bs, r.2.e, r.2.bad || decide (r.1 < 0 ∨ m < r.1)⟩
def dLst {α : Type} (m : Int) (el : DS → α × DS) (s : DS) : List α × DS := dGo el (dI s).1.toNat (dBad m (dI s))
def dVal (m : Int) : Nat → DS → V × DS
  | 0, s => (numV 0, ⟨s.bs, s.e, true⟩)
  | f + 1, s => (⟨(dI s).1, (dI (dI s).2).1, (dT (dI (dI s).2).2).1, (dLst m (dVal m f) (dT (dI (dI s).2).2).2).1⟩, (dLst m (dVal m f) (dT (dI (dI s).2).2).2).2)
def dNd (m : Int) (s : DS) : Nd × DS :=
  let a := dI s
  let b := dT a.2
  let c := dI b.2
  let d := dI c.2
  let e := dLst m dI d.2
  let f := dLst m dT e.2
  let g := dLst m (dVal m 131072) f.2
  let h := dLst m dI g.2
  let i := dVal m 131072 h.2
  (⟨a.1, b.1, c.1, d.1, e.1, f.1, g.1, h.1, i.1⟩, i.2)
def dTr (b : List Int) : List Nd × DS := dLst b.length (dNd b.length) ⟨b, 0, false⟩
/-- what Decode answers -/
def decT (b : List Int) : Option (List Nd) := if (dTr b).2.bad = true ∨ rdEnd (dTr b).2.bs (dTr b).2.e ≠ 0 then none else some (dTr b).1

/-! ### reading keeps bounds -/
structure DK (s s' : DS) : Prop where
  bys : Bys s'.bs
  len : s'.bs.length ≤ s.bs.length
def Kp {α : Type} (el : DS → α × DS) : Prop := ∀ s, Bys s.bs → DK s (el s).2
theorem DK.refl {s : DS} (h : Bys s.bs) : DK s s := ⟨h, Nat.le_refl _⟩
theorem DK.trans {a b c : DS} (h : DK a b) (k : DK b c) : DK a c := ⟨k.bys, Nat.le_trans k.len h.len⟩

/-! ### one encoding -/
def One {α : Type} (el : DS → α × DS) (enc : α → List Int) : Prop := ∀ s, Bys s.bs → (el s).2.e = 0 → (el s).2.bad = false → s.e = 0 ∧ s.bad = false ∧ s.bs = enc (el s).1 ++ (el s).2.bs

/-! ### reading what was written -/
def RT {α : Type} (el : DS → α × DS) (enc : α → List Int) (x : α) : Prop := ∀ rest, el ⟨enc x ++ rest, 0, false⟩ = (x, ⟨rest, 0, false⟩)
theorem dI_rt {n : Int} (h : InI64 n) : RT dI iv n := fun rest => by
  unfold dI
  simp only [rdI_iv h.1 h.2]
theorem dT_rt {s : ByteArray} (h : s.size ≤ 1000000000000) : RT dT txt s := fun rest => by
  unfold dT txt
  simp only [rdR_raw (bs := sb s) (by rw [sb_len]; omega), sb_strOf]
theorem dGo_rt {α : Type} {el : DS → α × DS} {enc : α → List Int} : ∀ (l : List α) (rest : List Int), (∀ x ∈ l, RT el enc x) → dGo el l.length ⟨l.flatMap enc ++ rest, 0, false⟩ = (l, ⟨rest, 0, false⟩)
  | [], rest, h => rfl
  | x :: l, rest, h => by
    rw [List.length_cons, dGo, if_neg (by simp), List.flatMap_cons, List.append_assoc, h x (by simp) _]
    simp only
    rw [dGo_rt l rest (fun y hy => h y (by simp [hy]))]
theorem dLst_rt {α : Type} {m : Int} {el : DS → α × DS} {enc : α → List Int} {l : List α} (h : ∀ x ∈ l, RT el enc x) (hl : (l.length : Int) ≤ m) (hl2 : l.length ≤ 1000000000000) : RT (dLst m el) (lsE enc) l := fun rest => by
  unfold dLst lsE
  rw [List.append_assoc, dI_rt (show InI64 (l.length : Nat) by unfold InI64; omega) _]
  simp only [dBad, Bool.false_or, Int.toNat_natCast]
  rw [decide_eq_false (by omega)]
  exact dGo_rt l rest h
theorem vszs_len (l : List V) : l.length ≤ vszs l := by
  induction l with
  | nil => simp
  | cons y l ih => simp only [vszs, List.length_cons]; have : 1 ≤ vsz y := by rw [vsz_eq]; omega
                   omega
theorem dVal_rt {m : Int} : ∀ (f : Nat) (v : V), EV v → vsz v ≤ f → (vsz v : Int) ≤ m → vsz v ≤ 1000000000 → RT (dVal m f) tvV v
  | 0, v, _, h, _, _ => by rw [vsz_eq] at h; omega
  | f + 1, v, hv, h, hm, hb => fun rest => by
    rw [tvV_ls]
    rw [vsz_eq] at h hm hb
    have hl := vszs_len v.kids
    have hk : ∀ x ∈ v.kids, RT (dVal m f) tvV x := fun x hx => by
      have := vszs_mem hx
      exact dVal_rt f x (hv.kids x hx) (by omega) (by omega) (by omega)
    simp only [dVal, List.append_assoc]
    rw [dI_rt hv.kind _]
    simp only
    rw [dI_rt hv.n _]
    simp only
    rw [dT_rt (by have := hv.s; omega) _]
    simp only
    rw [dLst_rt hk (by omega) (by omega) rest]
    obtain ⟨k, n, s, ks⟩ := v
    rfl
theorem iv_pos (n : Int) : 0 < (iv n).length := uv_pos _
theorem flat_len {α : Type} {enc : α → List Int} {l : List α} (h : ∀ x ∈ l, 0 < (enc x).length) : l.length ≤ (l.flatMap enc).length := by
  induction l with
  | nil => simp
  | cons x l ih =>
    simp only [List.flatMap_cons, List.length_append, List.length_cons]
    have := h x (by simp)
    have := ih (fun y hy => h y (by simp [hy]))
    omega
theorem tvV_pos (v : V) : 0 < (tvV v).length := by
  rw [tvV_ls, List.length_append]
  have := iv_pos v.kind
  omega
mutual
theorem tvV_len : ∀ v : V, vsz v ≤ (tvV v).length
  | ⟨k, n, s, ks⟩ => by
    have h1 := tvs_len ks
    have h2 := iv_pos k
    simp only [vsz, tvV, List.length_append]
    omega
theorem tvs_len : ∀ l : List V, vszs l ≤ (tvs l).length
  | [] => by simp [vszs]
  | v :: l => by
    have h1 := tvV_len v
    have h2 := tvs_len l
    simp only [vszs, tvs, List.length_append]
    omega
end
theorem lsE_len {α : Type} {enc : α → List Int} {l : List α} (h : ∀ x ∈ l, 0 < (enc x).length) : l.length ≤ (lsE enc l).length := by
  unfold lsE
  rw [List.length_append]
  have := flat_len h
  omega
theorem txt_pos (s : ByteArray) : 0 < (txt s).length := by
  unfold txt raw
  rw [List.length_append]
  have := uv_pos (sb s).length
  omega
theorem dNd_rt {m : Int} {x : Nd} (hok : NdOk x) (he : NdE x) (hm : ((tnN x).length : Int) ≤ m) : RT (dNd m) tnN x := fun rest => by
  have hlen : (tnN x).length = (iv x.kind).length + ((txt x.name).length + ((iv x.lo).length + ((iv x.hi).length + ((lsE iv x.ws).length + ((lsE txt x.labs).length + ((lsE tvV x.vals).length + ((lsE iv x.kids).length + (tvV x.val).length))))))) := by
    unfold tnN; simp only [List.length_append]
  have l1 := lsE_len (enc := iv) (l := x.ws) (fun n _ => iv_pos n)
  have l2 := lsE_len (enc := txt) (l := x.labs) (fun n _ => txt_pos n)
  have l3 := lsE_len (enc := tvV) (l := x.vals) (fun n _ => tvV_pos n)
  have l4 := lsE_len (enc := iv) (l := x.kids) (fun n _ => iv_pos n)
  have l5 := tvV_len x.val
  have hvl : ∀ v ∈ x.vals, (vsz v : Int) ≤ m := fun v hv => by
    have h1 := tvV_len v
    have h2 : (tvV v).length ≤ (x.vals.flatMap tvV).length := by
      generalize x.vals = l at hv
      induction l with
      | nil => simp at hv
      | cons y l ih =>
        simp only [List.flatMap_cons, List.length_append]
        rcases List.mem_cons.1 hv with rfl | h
        · omega
        · have := ih h; omega
    have h3 : (x.vals.flatMap tvV).length ≤ (lsE tvV x.vals).length := by unfold lsE; rw [List.length_append]; omega
    omega
  have a1 := hok.lw
  have a2 := hok.ll
  have a3 := hok.lv
  have a4 := hok.lk
  have r5 := dLst_rt (m := m) (el := dI) (enc := iv) (l := x.ws) (fun n hn => dI_rt (hok.ws n hn)) (by omega) (by omega)
  have r6 := dLst_rt (m := m) (el := dT) (enc := txt) (l := x.labs) (fun s hs => dT_rt (by have := he.labs s hs; omega)) (by omega) (by omega)
  have r7 := dLst_rt (m := m) (el := dVal m 131072) (enc := tvV) (l := x.vals) (fun v hv => dVal_rt 131072 v (he.vals v hv).1 (by have := (he.vals v hv).2; omega) (hvl v hv) (by have := (he.vals v hv).2; omega)) (by omega) (by omega)
  have r8 := dLst_rt (m := m) (el := dI) (enc := iv) (l := x.kids) (fun n hn => dI_rt (hok.kids n hn)) (by omega) (by omega)
  have r9 := dVal_rt (m := m) 131072 x.val he.val.1 (by have := he.val.2; omega) (by omega) (by have := he.val.2; omega)
  unfold tnN
  simp only [dNd, List.append_assoc]
  simp only [dI_rt hok.kind _, dT_rt (show x.name.size ≤ 1000000000000 by have := he.name; omega) _, dI_rt hok.lo _, dI_rt hok.hi _, r5 _, r6 _, r7 _, r8 _, r9 _]
--END
end Go.Proofs.YtpochcchekoonaaGreat
namespace Go.Proofs.YtpochcchekoonaaGreat
open Go.Rf Go.RowKit
set_option linter.unusedVariables false
set_option linter.unusedSimpArgs false
theorem flat_take {α : Type} (f : α → List Int) {l : List α} {i : Nat} (h : i < l.length) : (l.take (i + 1)).flatMap f = (l.take i).flatMap f ++ f l[i] := by
  rw [List.take_succ_eq_append_getElem h, List.flatMap_append]; simp
theorem flat_take_len {α : Type} (f : α → List Int) (l : List α) (i : Nat) : ((l.take i).flatMap f).length ≤ (l.flatMap f).length := by
  conv => rhs; rw [← List.take_append_drop i l, List.flatMap_append, List.length_append]
  omega
/-- what writing needs of a value -/
inductive EW : V → Prop
  | mk {v : V} : InI64 v.kind → InI64 v.n → v.s.size ≤ 10000000000 → (∀ x ∈ v.kids, EW x) → EW v
theorem EW.kind {v : V} (h : EW v) : InI64 v.kind := by cases h; assumption
theorem EW.n {v : V} (h : EW v) : InI64 v.n := by cases h; assumption
theorem EW.s {v : V} (h : EW v) : v.s.size ≤ 10000000000 := by cases h; assumption
theorem EW.kids {v : V} (h : EW v) : ∀ x ∈ v.kids, EW x := by cases h; assumption
theorem EV.ew {v : V} (h : EV v) : EW v := by
  induction h with
  | mk h1 h2 h3 _ ih => exact .mk h1 h2 (by omega) ih
structure NdW (x : Nd) : Prop where
  kind : InI64 x.kind
  name : x.name.size ≤ 10000000000
  lo : InI64 x.lo
  hi : InI64 x.hi
  ws : ∀ n ∈ x.ws, InI64 n
  kids : ∀ n ∈ x.kids, InI64 n
  lw : x.ws.length ≤ 100000000000
  ll : x.labs.length ≤ 100000000000
  lv : x.vals.length ≤ 100000000000
  lk : x.kids.length ≤ 100000000000
  labs : ∀ s ∈ x.labs, s.size ≤ 10000000000
  vals : ∀ v ∈ x.vals, EW v
  val : EW x.val
theorem NdW.of {x : Nd} (h : NdOk x) (e : NdE x) : NdW x :=
  ⟨h.kind, Nat.le_trans e.name (by decide), h.lo, h.hi, h.ws, h.kids, Nat.le_trans h.lw (by decide), Nat.le_trans h.ll (by decide), Nat.le_trans h.lv (by decide), Nat.le_trans h.lk (by decide), fun s hs => Nat.le_trans (e.labs s hs) (by decide), fun v hv => (e.vals v hv).1.ew, e.val.1.ew⟩
attribute [local irreducible] Code.wp wpList Exit.then Exit.inBlock bodyPost A Calls execOp Addr.add
/-- a writer's steps since a world -/
structure WI (w0 : World) (p : Nat) (vw : Value) (w : World) (v : Value) (bs : List Int) : Prop where
  is : IsW w p v bs
  fr : Fr (p :: blks vw) w0 w
  kp : ∀ k ∈ blks v, k ∈ blks vw ∨ w0.heap.size ≤ k
section
variable {w0 w w1 w2 : World} {p : Nat} {vw v : Value} {bs bs' : List Int}
theorem WI.of (h : IsW w0 p vw bs) : WI w0 p vw w0 vw bs := ⟨h, Fr.refl _ _, fun _ h => .inl h⟩
theorem WI.tr0 (h : WI w0 p vw w v bs) (hf : Fr [] w w1) : WI w0 p vw w1 v bs := ⟨⟨h.is.1.tr0 hf, h.is.2.tr0 hf⟩, h.fr.trans0 hf, h.kp⟩
theorem WI.off (h : WI w0 p vw w v bs) : ∀ k ∈ p :: blks v, k ∈ p :: blks vw ∨ w0.heap.size ≤ k := fun k hk => by
  rcases List.mem_cons.1 hk with h' | h'
  · left; simp [h']
  · rcases h.kp k h' with h2 | h2
    · left; simp [h2]
    · exact .inr h2
theorem WI.step (h : WI w0 p vw w v bs) (hs : WStep p w v bs' w2) : ∃ v2, WI w0 p vw w2 v2 bs' ∧ Fr (p :: blks v) w w2 := by
  obtain ⟨v2, h1, h2, h3⟩ := hs
  refine ⟨v2, ⟨h1, h.fr.trans h2 h.off, fun k hk => ?_⟩, h2⟩
  rcases h3 k hk with h' | h'
  · exact h.kp k h'
  · exact .inr (Nat.le_trans h.fr.size h')
theorem WI.to (h : WI w0 p vw w v bs) : WStep p w0 vw bs w := ⟨v, h.is, h.fr, h.kp⟩
theorem IsW.keep {b t : Nat} {l : List Value} (hw : IsW w p v bs) (hb : Blk w b l t) (ht : 5 ≠ t) (ht2 : 95 ≠ t) : b ∉ p :: blks v := fun h => by
  rcases List.mem_cons.1 h with h | h
  · subst h; exact hw.1.ne hb ht2 rfl
  · exact (hw.2.ne hb ht) b h rfl
end
set_option maxHeartbeats 4000000 in
theorem wVal (v : V) (hv : EW v) (p : Nat) (vw : Value) (bs : List Int) (sl : Value) (w : World) (hw : IsW w p vw bs) (hs : VS w (p :: blks vw) v.kids sl) (hl : bs.length + (tvV v).length ≤ 90000000000) :
    Calls Tryz.prog 96 #[.pointer (some ⟨p, 0, none⟩), .agg (vc v sl).toArray] w fun e w' => e = .returned (.tuple #[]) ∧ WStep p w vw (bs ++ tvV v) w' := by
  have H : ∀ x ∈ v.kids, ∀ (p : Nat) (vw : Value) (bs : List Int) (sx : Value) (u : World), IsW u p vw bs → VS u (p :: blks vw) x.kids sx → bs.length + (tvV x).length ≤ 90000000000 →
      Calls Tryz.prog 96 #[.pointer (some ⟨p, 0, none⟩), .agg (vc x sx).toArray] u fun e u' => e = .returned (.tuple #[]) ∧ WStep p u vw (bs ++ tvV x) u' := fun x hx p vw bs sx u h1 h2 h3 => wVal x (hv.kids x hx) p vw bs sx u h1 h2 h3
  have hE := tvV_eq v
  have hlen : (tvV v).length = (iv v.kind).length + ((iv v.n).length + ((raw (sb v.s)).length + ((iv (v.kids.length : Nat)).length + (tvs v.kids).length))) := by rw [hE]; simp only [List.length_append]
  have hk1 := hv.kind
  have hk2 := hv.n
  have hk3 := hv.s
  have hb := hs.bound
  obtain ⟨ao, c, rfl, hc⟩ := hs.slice
  refine enter Tryz.func96 rfl Tryz.ntmps96 rfl ?_
  refine rx ?_
  refine s_box rfl rfl (fun w1 hb1 hf1 hs1 => ?_)
  have hb1 : Blk w1 w.heap.size (vc v (.slice ao v.kids.length c)) 33 := hb1
  obtain ⟨N, hN⟩ : ∃ y, y = w.heap.size := ⟨_, rfl⟩
  rw [← hN] at hb1 ⊢
  have hw1 := (WI.of hw).tr0 hf1
  refine rx ?_
  refine s_call (wInt p vw bs v.kind w1 hk1.1 hk1.2 hw1.is (by omega)) rfl ?_
  rintro _ w2 ⟨rfl, hst2⟩
  refine ⟨_, rfl, ?_⟩
  have hb2 := hb1.tr hst2.choose_spec.2.1 (hw1.is.keep hb1 (by decide) (by decide))
  obtain ⟨v2, hw2, hf2⟩ := hw1.step hst2
  refine rx ?_
  refine s_call (wInt p v2 (bs ++ iv v.kind) v.n w2 hk2.1 hk2.2 hw2.is (by simp only [List.length_append]; omega)) rfl ?_
  rintro _ w3 ⟨rfl, hst3⟩
  refine ⟨_, rfl, ?_⟩
  have hb3 := hb2.tr hst3.choose_spec.2.1 (hw2.is.keep hb2 (by decide) (by decide))
  obtain ⟨v3, hw3, hf3⟩ := hw2.step hst3
  refine rx ?_
  refine s_call (wText p v3 (bs ++ iv v.kind ++ iv v.n) v.s w3 hw3.is (by simp only [List.length_append]; omega) (by omega)) rfl ?_
  rintro _ w4 ⟨rfl, hst4⟩
  refine ⟨_, rfl, ?_⟩
  have hb4 := hb3.tr hst4.choose_spec.2.1 (hw3.is.keep hb3 (by decide) (by decide))
  obtain ⟨v4, hw4, hf4⟩ := hw3.step hst4
  refine rx ?_
  refine s_call (wInt p v4 (bs ++ iv v.kind ++ iv v.n ++ raw (sb v.s)) v.kids.length w4 (by omega) (by omega) hw4.is (by simp only [List.length_append]; omega)) rfl ?_
  rintro _ w5 ⟨rfl, hst5⟩
  refine ⟨_, rfl, ?_⟩
  have hb5 := hb4.tr hst5.choose_spec.2.1 (hw4.is.keep hb4 (by decide) (by decide))
  obtain ⟨v5, hw5, hf5⟩ := hw4.step hst5
  clear hst2 hst3 hst4 hst5
  refine rx ?_
  refine c_loopK 6 [5] (σ := Nat × Value) (fun st g z => g 24 = .slice ao v.kids.length c ∧ g 25 = .int .i64 v.kids.length ∧ g 26 = .int .i64 st.1 ∧ st.1 ≤ v.kids.length ∧ WI w p vw z st.2 (bs ++ iv v.kind ++ iv v.n ++ raw (sb v.s) ++ iv (v.kids.length : Nat) ++ (v.kids.take st.1).flatMap tvV)) (fun st => v.kids.length - st.1) (0, v5)
    ⟨rfl, rfl, rfl, Nat.zero_le _, by simpa using hw5⟩ ?_
  rintro ⟨i, vi⟩ g z ⟨h24, h25, h26, hi, hwi⟩
  simp only at h26 hi hwi
  rw [eq_upd h24, eq_upd h25, eq_upd h26]
  by_cases hlt : i < v.kids.length
  case neg =>
    refine rx ?_
    rw [List.take_of_length_le (by omega), ← tvs_flat] at hwi
    refine end0 rfl ⟨rfl, ?_⟩
    rw [hE]
    have := hwi.to
    simpa using this
  have hvz : VS z (p :: blks vi) v.kids (.slice ao v.kids.length c) := hs.turn hwi.fr hwi.off
  obtain ⟨ad, cs, rfl, ⟨sx, rfl, hx⟩, hcx⟩ := hvz.sl.at VR.len hlt
  refine rx ?_
  refine s_alloc rfl (fun z1 hbz1 hfz1 hsz1 => ?_)
  refine s_storeAggB (cs := vc v.kids[i] sx) rfl rfl hbz1 (VR.mem1 (w := z) (S := []) v.kids[i] _ ⟨sx, rfl, hx.mono (by simp)⟩) rfl rfl (fun z2 hbz2 hfz2 hsz2 => ?_)
  have hFz2 : Fr [] z z2 := hfz1.trans hfz2 (by simp)
  have hle1 := flat_take_len tvV v.kids (i + 1)
  rw [flat_take tvV hlt, List.length_append, ← tvs_flat v.kids] at hle1
  have hwi2 := hwi.tr0 hFz2
  refine rx ?_
  refine s_call (H v.kids[i] (by simp) p vi _ sx z2 hwi2.is (hx.tr0 hFz2) (by simp only [List.length_append]; omega)) rfl ?_
  rintro _ z3 ⟨rfl, hst⟩
  refine ⟨_, rfl, ?_⟩
  obtain ⟨v3', hw3', _⟩ := hwi2.step hst
  refine rx ?_
  refine q_roundK (i + 1, v3') (by (repeat (first | exact Keep.mrg _ _ _ _ | (refine Keep.hi rfl ?_) | (refine Keep.one rfl ?_) | exact Keep.all rfl | (refine Keep.inn rfl ?_) | (refine Keep.set rfl ?_)))) ⟨rfl, rfl, rfl, by simp only; omega, by simp only [flat_take tvV hlt]; simpa using hw3'⟩ (by simp only; omega)
termination_by SizeOf.sizeOf v
decreasing_by
  have h1 : SizeOf.sizeOf x < SizeOf.sizeOf v.kids := List.sizeOf_lt_of_mem hx
  have h2 : SizeOf.sizeOf v.kids < SizeOf.sizeOf v := by cases v; simp; omega
  omega
set_option maxHeartbeats 16000000 in
theorem wNode (x : Nd) (hnw : NdW x) (p : Nat) (vw : Value) (bs : List Int) (cs : List Value) (w : World) (hw : IsW w p vw bs) (hx : NdR w (p :: blks vw) x cs) (hl : bs.length + (tnN x).length ≤ 90000000000) :
    Calls Tryz.prog 55 #[.pointer (some ⟨p, 0, none⟩), .agg cs.toArray] w fun e w' => e = .returned (.tuple #[]) ∧ WStep p w vw (bs ++ tnN x) w' := by
  have hlen : (tnN x).length = (iv x.kind).length + ((raw (sb x.name)).length + ((iv x.lo).length + ((iv x.hi).length + (((iv (x.ws.length : Nat)).length + (x.ws.flatMap iv).length) + (((iv (x.labs.length : Nat)).length + (x.labs.flatMap txt).length) + (((iv (x.vals.length : Nat)).length + (x.vals.flatMap tvV).length) + (((iv (x.kids.length : Nat)).length + (x.kids.flatMap iv).length) + (tvV x.val).length))))))) := by
    unfold tnN lsE txt; simp only [List.length_append]
  have a1 := hnw.lw
  have a2 := hnw.ll
  have a3 := hnw.lv
  have a4 := hnw.lk
  have hnm := hnw.name
  obtain ⟨sw, sl, sv, sk, sx, rfl, hsw, hsl, hsv, hsk, hsx⟩ := hx
  obtain ⟨aw, cw, rfl, _⟩ := hsw.slice
  obtain ⟨al, cl, rfl, _⟩ := hsl.slice
  obtain ⟨av, cv, rfl, _⟩ := hsv.slice
  obtain ⟨ak, ck, rfl, _⟩ := hsk.slice
  obtain ⟨ax, cx, rfl, _⟩ := hsx.slice
  refine enter Tryz.func55 rfl Tryz.ntmps55 rfl ?_
  refine rx ?_
  refine s_box (l := nc x (.slice aw x.ws.length cw) (.slice al x.labs.length cl) (.slice av x.vals.length cv) (.slice ak x.kids.length ck) (.slice ax x.val.kids.length cx)) rfl rfl (fun w1 hb1 hf1 hs1 => ?_)
  obtain ⟨N, hN⟩ : ∃ y, y = w.heap.size := ⟨_, rfl⟩
  rw [← hN] at hb1 ⊢
  have hw1 := (WI.of hw).tr0 hf1
  refine rx ?_
  refine s_call (wInt p vw (bs) x.kind w1 hnw.kind.1 hnw.kind.2 hw1.is (by omega)) rfl ?_
  rintro _ w2 ⟨rfl, hst2⟩
  refine ⟨_, rfl, ?_⟩
  have hb2 := hb1.tr hst2.choose_spec.2.1 (hw1.is.keep hb1 (by decide) (by decide))
  obtain ⟨v2, hw2, _⟩ := hw1.step hst2
  clear hst2
  refine rx ?_
  refine s_call (wText p v2 (bs ++ iv x.kind) x.name w2 hw2.is (by simp only [List.length_append]; omega) (by omega)) rfl ?_
  rintro _ w3 ⟨rfl, hst3⟩
  refine ⟨_, rfl, ?_⟩
  have hb3 := hb2.tr hst3.choose_spec.2.1 (hw2.is.keep hb2 (by decide) (by decide))
  obtain ⟨v3, hw3, _⟩ := hw2.step hst3
  clear hst3
  refine rx ?_
  refine s_call (wInt p v3 (bs ++ iv x.kind ++ raw (sb x.name)) x.lo w3 hnw.lo.1 hnw.lo.2 hw3.is (by simp only [List.length_append]; omega)) rfl ?_
  rintro _ w4 ⟨rfl, hst4⟩
  refine ⟨_, rfl, ?_⟩
  have hb4 := hb3.tr hst4.choose_spec.2.1 (hw3.is.keep hb3 (by decide) (by decide))
  obtain ⟨v4, hw4, _⟩ := hw3.step hst4
  clear hst4
  refine rx ?_
  refine s_call (wInt p v4 (bs ++ iv x.kind ++ raw (sb x.name) ++ iv x.lo) x.hi w4 hnw.hi.1 hnw.hi.2 hw4.is (by simp only [List.length_append]; omega)) rfl ?_
  rintro _ w5 ⟨rfl, hst5⟩
  refine ⟨_, rfl, ?_⟩
  have hb5 := hb4.tr hst5.choose_spec.2.1 (hw4.is.keep hb4 (by decide) (by decide))
  obtain ⟨v5, hw5, _⟩ := hw4.step hst5
  clear hst5
  refine rx ?_
  refine s_call (wInt p v5 (bs ++ iv x.kind ++ raw (sb x.name) ++ iv x.lo ++ iv x.hi) (x.ws.length : Nat) w5 (by omega) (by omega) hw5.is (by simp only [List.length_append]; omega)) rfl ?_
  rintro _ w6 ⟨rfl, hst6⟩
  refine ⟨_, rfl, ?_⟩
  have hb6 := hb5.tr hst6.choose_spec.2.1 (hw5.is.keep hb5 (by decide) (by decide))
  obtain ⟨v6, hw6, _⟩ := hw5.step hst6
  clear hst6
  (refine rr ?_; refine wpList_nil ?_; refine q_then ?_; refine wp_seq ?_; refine c_cut (fun g z => g 0 = .pointer (some ⟨p, 0, none⟩) ∧ g 3 = .pointer (some ⟨N, 0, none⟩) ∧ ∃ vn, Blk z N (nc x (.slice aw x.ws.length cw) (.slice al x.labs.length cl) (.slice av x.vals.length cv) (.slice ak x.kids.length ck) (.slice ax x.val.kids.length cx)) 36 ∧ WI w p vw z vn (bs ++ iv x.kind ++ raw (sb x.name) ++ iv x.lo ++ iv x.hi ++ iv (x.ws.length : Nat) ++ x.ws.flatMap iv)) ?_ ?_)
  · refine rx ?_
    refine c_loopK 12 [5] (σ := Nat × Value) (fun st g z => g 34 = .slice aw x.ws.length cw ∧ g 35 = .int .i64 x.ws.length ∧ g 36 = .int .i64 st.1 ∧ st.1 ≤ x.ws.length ∧ Blk z N (nc x (.slice aw x.ws.length cw) (.slice al x.labs.length cl) (.slice av x.vals.length cv) (.slice ak x.kids.length ck) (.slice ax x.val.kids.length cx)) 36 ∧ WI w p vw z st.2 (bs ++ iv x.kind ++ raw (sb x.name) ++ iv x.lo ++ iv x.hi ++ iv (x.ws.length : Nat) ++ (x.ws.take st.1).flatMap iv)) (fun st => x.ws.length - st.1) (0, v6)
      ⟨rfl, rfl, rfl, Nat.zero_le _, hb6, by simpa using hw6⟩ ?_
    rintro ⟨i, vi⟩ g z ⟨h24, h25, h26, hi, hbz, hwi⟩
    simp only at h26 hi hwi
    rw [eq_upd h24, eq_upd h25, eq_upd h26]
    by_cases hlt : i < x.ws.length
    case neg =>
      refine rx ?_
      rw [List.take_of_length_le (by omega)] at hwi
      exact q_cut ⟨rfl, rfl, vi, hbz, hwi⟩
    have hle1 := flat_take_len iv x.ws (i + 1)
    rw [flat_take iv hlt, List.length_append] at hle1
    have hin := hnw.ws
    have hvz := (hsw.mono (T := p :: blks vw ++ p :: blks vi) (fun k hk => by
      rcases List.mem_append.1 hk with h | h
      · exact .inl h
      · exact hwi.off k h)).tr (hwi.fr.mono (fun k hk => .inl (List.mem_append.2 (.inl hk))))
    obtain ⟨ad, rfl, hcell⟩ := Ls.at hvz hlt
    refine rx ?_
    rw [Nat.mul_one]
    refine s_load rfl hcell ?_
    refine rx ?_
    refine s_call (wInt p vi _ x.ws[i] z (hin _ (List.getElem_mem hlt)).1 (hin _ (List.getElem_mem hlt)).2 hwi.is (by simp only [List.length_append]; omega)) rfl ?_
    rintro _ z3 ⟨rfl, hst⟩
    refine ⟨_, rfl, ?_⟩
    have hbz3 := hbz.tr hst.choose_spec.2.1 (hwi.is.keep hbz (by decide) (by decide))
    obtain ⟨v3', hw3', _⟩ := hwi.step hst
    refine rx ?_
    exact q_roundK (i + 1, v3') (by (repeat (first | exact Keep.mrg _ _ _ _ | (refine Keep.hi rfl ?_) | (refine Keep.one rfl ?_) | exact Keep.all rfl | (refine Keep.inn rfl ?_) | (refine Keep.set rfl ?_)))) ⟨rfl, rfl, rfl, by simp only; omega, hbz3, by simp only [flat_take iv hlt]; simpa [txt] using hw3'⟩ (by simp only; omega)
  clear hb6 hw6
  rintro g w6 ⟨g0, g3, v6, hb6, hw6⟩
  rw [eq_upd g0, eq_upd g3]
  refine rx ?_
  refine s_call (wInt p v6 (bs ++ iv x.kind ++ raw (sb x.name) ++ iv x.lo ++ iv x.hi ++ iv (x.ws.length : Nat) ++ x.ws.flatMap iv) (x.labs.length : Nat) w6 (by omega) (by omega) hw6.is (by simp only [List.length_append]; omega)) rfl ?_
  rintro _ w7 ⟨rfl, hst7⟩
  refine ⟨_, rfl, ?_⟩
  have hb7 := hb6.tr hst7.choose_spec.2.1 (hw6.is.keep hb6 (by decide) (by decide))
  obtain ⟨v7, hw7, _⟩ := hw6.step hst7
  clear hst7
  (refine rr ?_; refine wpList_nil ?_; refine q_then ?_; refine wp_seq ?_; refine c_cut (fun g z => g 0 = .pointer (some ⟨p, 0, none⟩) ∧ g 3 = .pointer (some ⟨N, 0, none⟩) ∧ ∃ vn, Blk z N (nc x (.slice aw x.ws.length cw) (.slice al x.labs.length cl) (.slice av x.vals.length cv) (.slice ak x.kids.length ck) (.slice ax x.val.kids.length cx)) 36 ∧ WI w p vw z vn (bs ++ iv x.kind ++ raw (sb x.name) ++ iv x.lo ++ iv x.hi ++ iv (x.ws.length : Nat) ++ x.ws.flatMap iv ++ iv (x.labs.length : Nat) ++ x.labs.flatMap txt)) ?_ ?_)
  · refine rx ?_
    refine c_loopK 12 [7] (σ := Nat × Value) (fun st g z => g 50 = .slice al x.labs.length cl ∧ g 51 = .int .i64 x.labs.length ∧ g 52 = .int .i64 st.1 ∧ st.1 ≤ x.labs.length ∧ Blk z N (nc x (.slice aw x.ws.length cw) (.slice al x.labs.length cl) (.slice av x.vals.length cv) (.slice ak x.kids.length ck) (.slice ax x.val.kids.length cx)) 36 ∧ WI w p vw z st.2 (bs ++ iv x.kind ++ raw (sb x.name) ++ iv x.lo ++ iv x.hi ++ iv (x.ws.length : Nat) ++ x.ws.flatMap iv ++ iv (x.labs.length : Nat) ++ (x.labs.take st.1).flatMap txt)) (fun st => x.labs.length - st.1) (0, v7)
      ⟨rfl, rfl, rfl, Nat.zero_le _, hb7, by simpa using hw7⟩ ?_
    rintro ⟨i, vi⟩ g z ⟨h24, h25, h26, hi, hbz, hwi⟩
    simp only at h26 hi hwi
    rw [eq_upd h24, eq_upd h25, eq_upd h26]
    by_cases hlt : i < x.labs.length
    case neg =>
      refine rx ?_
      rw [List.take_of_length_le (by omega)] at hwi
      exact q_cut ⟨rfl, rfl, vi, hbz, hwi⟩
    have hle1 := flat_take_len txt x.labs (i + 1)
    rw [flat_take txt hlt, List.length_append] at hle1
    have hin := hnw.labs
    have hvz := (hsl.mono (T := p :: blks vw ++ p :: blks vi) (fun k hk => by
      rcases List.mem_append.1 hk with h | h
      · exact .inl h
      · exact hwi.off k h)).tr (hwi.fr.mono (fun k hk => .inl (List.mem_append.2 (.inl hk))))
    obtain ⟨ad, rfl, hcell⟩ := Ls.at hvz hlt
    refine rx ?_
    rw [Nat.mul_one]
    refine s_load rfl hcell ?_
    refine rx ?_
    refine s_call (wText p vi _ x.labs[i] z hwi.is (by simp only [List.length_append]; omega) (by have := hnw.labs _ (List.getElem_mem hlt); omega)) rfl ?_
    rintro _ z3 ⟨rfl, hst⟩
    refine ⟨_, rfl, ?_⟩
    have hbz3 := hbz.tr hst.choose_spec.2.1 (hwi.is.keep hbz (by decide) (by decide))
    obtain ⟨v3', hw3', _⟩ := hwi.step hst
    refine rx ?_
    exact q_roundK (i + 1, v3') (by (repeat (first | exact Keep.mrg _ _ _ _ | (refine Keep.hi rfl ?_) | (refine Keep.one rfl ?_) | exact Keep.all rfl | (refine Keep.inn rfl ?_) | (refine Keep.set rfl ?_)))) ⟨rfl, rfl, rfl, by simp only; omega, hbz3, by simp only [flat_take txt hlt]; simpa [txt] using hw3'⟩ (by simp only; omega)
  clear hb7 hw7
  rintro g w7 ⟨g0, g3, v7, hb7, hw7⟩
  rw [eq_upd g0, eq_upd g3]
  refine rx ?_
  refine s_call (wInt p v7 (bs ++ iv x.kind ++ raw (sb x.name) ++ iv x.lo ++ iv x.hi ++ iv (x.ws.length : Nat) ++ x.ws.flatMap iv ++ iv (x.labs.length : Nat) ++ x.labs.flatMap txt) (x.vals.length : Nat) w7 (by omega) (by omega) hw7.is (by simp only [List.length_append]; omega)) rfl ?_
  rintro _ w8 ⟨rfl, hst8⟩
  refine ⟨_, rfl, ?_⟩
  have hb8 := hb7.tr hst8.choose_spec.2.1 (hw7.is.keep hb7 (by decide) (by decide))
  obtain ⟨v8, hw8, _⟩ := hw7.step hst8
  clear hst8
  (refine rr ?_; refine wpList_nil ?_; refine q_then ?_; refine wp_seq ?_; refine c_cut (fun g z => g 0 = .pointer (some ⟨p, 0, none⟩) ∧ g 3 = .pointer (some ⟨N, 0, none⟩) ∧ ∃ vn, Blk z N (nc x (.slice aw x.ws.length cw) (.slice al x.labs.length cl) (.slice av x.vals.length cv) (.slice ak x.kids.length ck) (.slice ax x.val.kids.length cx)) 36 ∧ WI w p vw z vn (bs ++ iv x.kind ++ raw (sb x.name) ++ iv x.lo ++ iv x.hi ++ iv (x.ws.length : Nat) ++ x.ws.flatMap iv ++ iv (x.labs.length : Nat) ++ x.labs.flatMap txt ++ iv (x.vals.length : Nat) ++ x.vals.flatMap tvV)) ?_ ?_)
  · refine rx ?_
    refine c_loopK 12 [9] (σ := Nat × Value) (fun st g z => g 66 = .slice av x.vals.length cv ∧ g 67 = .int .i64 x.vals.length ∧ g 68 = .int .i64 st.1 ∧ st.1 ≤ x.vals.length ∧ Blk z N (nc x (.slice aw x.ws.length cw) (.slice al x.labs.length cl) (.slice av x.vals.length cv) (.slice ak x.kids.length ck) (.slice ax x.val.kids.length cx)) 36 ∧ WI w p vw z st.2 (bs ++ iv x.kind ++ raw (sb x.name) ++ iv x.lo ++ iv x.hi ++ iv (x.ws.length : Nat) ++ x.ws.flatMap iv ++ iv (x.labs.length : Nat) ++ x.labs.flatMap txt ++ iv (x.vals.length : Nat) ++ (x.vals.take st.1).flatMap tvV)) (fun st => x.vals.length - st.1) (0, v8)
      ⟨rfl, rfl, rfl, Nat.zero_le _, hb8, by simpa using hw8⟩ ?_
    rintro ⟨i, vi⟩ g z ⟨h24, h25, h26, hi, hbz, hwi⟩
    simp only at h26 hi hwi
    rw [eq_upd h24, eq_upd h25, eq_upd h26]
    by_cases hlt : i < x.vals.length
    case neg =>
      refine rx ?_
      rw [List.take_of_length_le (by omega)] at hwi
      exact q_cut ⟨rfl, rfl, vi, hbz, hwi⟩
    have hle1 := flat_take_len tvV x.vals (i + 1)
    rw [flat_take tvV hlt, List.length_append] at hle1
    have hvz : VS z (p :: blks vi) x.vals (.slice av x.vals.length cv) := hsv.turn hwi.fr hwi.off
    obtain ⟨ad, cs, rfl, ⟨sx', rfl, hx'⟩, hcx⟩ := hvz.sl.at VR.len hlt
    refine rx ?_
    refine s_alloc rfl (fun z1 hbz1 hfz1 hsz1 => ?_)
    refine s_storeAggB (cs := vc x.vals[i] sx') rfl rfl hbz1 (VR.mem1 (w := z) (S := []) x.vals[i] _ ⟨sx', rfl, hx'.mono (by simp)⟩) rfl rfl (fun z2 hbz2 hfz2 hsz2 => ?_)
    have hFz2 : Fr [] z z2 := hfz1.trans hfz2 (by simp)
    have hwi2 := hwi.tr0 hFz2
    have hbN2 := hbz.tr0 hFz2
    refine rx ?_
    refine s_call (wVal x.vals[i] (hnw.vals _ (List.getElem_mem hlt)) p vi _ sx' z2 hwi2.is (hx'.tr0 hFz2) (by simp only [List.length_append]; omega)) rfl ?_
    rintro _ z3 ⟨rfl, hst⟩
    refine ⟨_, rfl, ?_⟩
    have hbz3 := hbN2.tr hst.choose_spec.2.1 (hwi2.is.keep hbN2 (by decide) (by decide))
    obtain ⟨v3', hw3', _⟩ := hwi2.step hst
    refine rx ?_
    exact q_roundK (i + 1, v3') (by (repeat (first | exact Keep.mrg _ _ _ _ | (refine Keep.hi rfl ?_) | (refine Keep.one rfl ?_) | exact Keep.all rfl | (refine Keep.inn rfl ?_) | (refine Keep.set rfl ?_)))) ⟨rfl, rfl, rfl, by simp only; omega, hbz3, by simp only [flat_take tvV hlt]; simpa using hw3'⟩ (by simp only; omega)
  clear hb8 hw8
  rintro g w8 ⟨g0, g3, v8, hb8, hw8⟩
  rw [eq_upd g0, eq_upd g3]
  refine rx ?_
  refine s_call (wInt p v8 (bs ++ iv x.kind ++ raw (sb x.name) ++ iv x.lo ++ iv x.hi ++ iv (x.ws.length : Nat) ++ x.ws.flatMap iv ++ iv (x.labs.length : Nat) ++ x.labs.flatMap txt ++ iv (x.vals.length : Nat) ++ x.vals.flatMap tvV) (x.kids.length : Nat) w8 (by omega) (by omega) hw8.is (by simp only [List.length_append]; omega)) rfl ?_
  rintro _ w9 ⟨rfl, hst9⟩
  refine ⟨_, rfl, ?_⟩
  have hb9 := hb8.tr hst9.choose_spec.2.1 (hw8.is.keep hb8 (by decide) (by decide))
  obtain ⟨v9, hw9, _⟩ := hw8.step hst9
  clear hst9
  (refine rr ?_; refine wpList_nil ?_; refine q_then ?_; refine wp_seq ?_; refine c_cut (fun g z => g 0 = .pointer (some ⟨p, 0, none⟩) ∧ g 3 = .pointer (some ⟨N, 0, none⟩) ∧ ∃ vn, Blk z N (nc x (.slice aw x.ws.length cw) (.slice al x.labs.length cl) (.slice av x.vals.length cv) (.slice ak x.kids.length ck) (.slice ax x.val.kids.length cx)) 36 ∧ WI w p vw z vn (bs ++ iv x.kind ++ raw (sb x.name) ++ iv x.lo ++ iv x.hi ++ iv (x.ws.length : Nat) ++ x.ws.flatMap iv ++ iv (x.labs.length : Nat) ++ x.labs.flatMap txt ++ iv (x.vals.length : Nat) ++ x.vals.flatMap tvV ++ iv (x.kids.length : Nat) ++ x.kids.flatMap iv)) ?_ ?_)
  · refine rx ?_
    refine c_loopK 12 [11] (σ := Nat × Value) (fun st g z => g 82 = .slice ak x.kids.length ck ∧ g 83 = .int .i64 x.kids.length ∧ g 84 = .int .i64 st.1 ∧ st.1 ≤ x.kids.length ∧ Blk z N (nc x (.slice aw x.ws.length cw) (.slice al x.labs.length cl) (.slice av x.vals.length cv) (.slice ak x.kids.length ck) (.slice ax x.val.kids.length cx)) 36 ∧ WI w p vw z st.2 (bs ++ iv x.kind ++ raw (sb x.name) ++ iv x.lo ++ iv x.hi ++ iv (x.ws.length : Nat) ++ x.ws.flatMap iv ++ iv (x.labs.length : Nat) ++ x.labs.flatMap txt ++ iv (x.vals.length : Nat) ++ x.vals.flatMap tvV ++ iv (x.kids.length : Nat) ++ (x.kids.take st.1).flatMap iv)) (fun st => x.kids.length - st.1) (0, v9)
      ⟨rfl, rfl, rfl, Nat.zero_le _, hb9, by simpa using hw9⟩ ?_
    rintro ⟨i, vi⟩ g z ⟨h24, h25, h26, hi, hbz, hwi⟩
    simp only at h26 hi hwi
    rw [eq_upd h24, eq_upd h25, eq_upd h26]
    by_cases hlt : i < x.kids.length
    case neg =>
      refine rx ?_
      rw [List.take_of_length_le (by omega)] at hwi
      exact q_cut ⟨rfl, rfl, vi, hbz, hwi⟩
    have hle1 := flat_take_len iv x.kids (i + 1)
    rw [flat_take iv hlt, List.length_append] at hle1
    have hin := hnw.kids
    have hvz := (hsk.mono (T := p :: blks vw ++ p :: blks vi) (fun k hk => by
      rcases List.mem_append.1 hk with h | h
      · exact .inl h
      · exact hwi.off k h)).tr (hwi.fr.mono (fun k hk => .inl (List.mem_append.2 (.inl hk))))
    obtain ⟨ad, rfl, hcell⟩ := Ls.at hvz hlt
    refine rx ?_
    rw [Nat.mul_one]
    refine s_load rfl hcell ?_
    refine rx ?_
    refine s_call (wInt p vi _ x.kids[i] z (hin _ (List.getElem_mem hlt)).1 (hin _ (List.getElem_mem hlt)).2 hwi.is (by simp only [List.length_append]; omega)) rfl ?_
    rintro _ z3 ⟨rfl, hst⟩
    refine ⟨_, rfl, ?_⟩
    have hbz3 := hbz.tr hst.choose_spec.2.1 (hwi.is.keep hbz (by decide) (by decide))
    obtain ⟨v3', hw3', _⟩ := hwi.step hst
    refine rx ?_
    exact q_roundK (i + 1, v3') (by (repeat (first | exact Keep.mrg _ _ _ _ | (refine Keep.hi rfl ?_) | (refine Keep.one rfl ?_) | exact Keep.all rfl | (refine Keep.inn rfl ?_) | (refine Keep.set rfl ?_)))) ⟨rfl, rfl, rfl, by simp only; omega, hbz3, by simp only [flat_take iv hlt]; simpa [txt] using hw3'⟩ (by simp only; omega)
  clear hb9 hw9
  rintro g w9 ⟨g0, g3, v9, hb9, hw9⟩
  rw [eq_upd g0, eq_upd g3]
  have hvz : VS w9 (p :: blks v9) x.val.kids (.slice ax x.val.kids.length cx) := hsx.turn hw9.fr hw9.off
  refine rx ?_
  refine s_call (wVal x.val hnw.val p v9 _ _ w9 hw9.is hvz (by simp only [List.length_append]; omega)) rfl ?_
  rintro _ w10 ⟨rfl, hst⟩
  refine ⟨_, rfl, ?_⟩
  obtain ⟨v10, hw10, _⟩ := hw9.step hst
  refine rx ?_
  refine end0 rfl ⟨rfl, ?_⟩
  have := hw10.to
  unfold tnN lsE
  simpa [txt] using this
end Go.Proofs.YtpochcchekoonaaGreat
