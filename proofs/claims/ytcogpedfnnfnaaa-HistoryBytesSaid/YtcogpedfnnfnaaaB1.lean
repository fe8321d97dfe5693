/-
  The plain law of encodings of values: what is written, what is read. The plain law of encodings of values and histories: reading what was written, and what was read is written so.
-/
import Derived.Test.YtcogpedfnnfnaaaPlain2
import Derived.Test.YtcogpedfnnfnaaaRd
import Derived.Test.YtcogpedfnnfnaaaHf
import Derived.Test.YtcogpedfnnfnaaaHp
namespace Go.Rf
theorem zz_back {u : Nat} : zz (back u) = u := by unfold zz back; split <;> split <;> omega
theorem rdL_inv : ∀ (bs : List Int) (i acc m : Nat) (l : List Int), rdL bs i acc = .ok (m, l) → i ≤ 9 → Bys bs → ∃ q, m = acc + q * 128 ^ i ∧ bs = uv q ++ l ∧ (0 < i → q ≠ 0)
  | [], i, acc, m, l, h, _, _ => by simp [rdL] at h
  | b :: bs, i, acc, m, l, h, hi, hB => by
    have hb := hB b (by simp)
    unfold rdL at h
    split at h
    · cases h
    · rename_i hbad
      split at h
      · simp only [Except.ok.injEq, Prod.mk.injEq] at h
        obtain ⟨rfl, rfl⟩ := h
        refine ⟨(b % 128).toNat, rfl, ?_, by omega⟩
        rw [uv_lt (by omega), List.singleton_append]
        congr 1
        omega
      · have h9 : i ≠ 9 := by omega
        obtain ⟨q, h1, h2, h3⟩ := rdL_inv bs (i + 1) _ m l h (by omega) (fun x hx => hB x (by simp [hx]))
        have hq := h3 (by omega)
        refine ⟨(b % 128).toNat + 128 * q, ?_, ?_, by omega⟩
        · rw [h1, Nat.pow_succ, Nat.add_mul, Nat.add_assoc]
          congr 2
          rw [Nat.mul_comm (128 ^ i) 128, ← Nat.mul_assoc, Nat.mul_comm q 128]
        · rw [uv_ge (by omega), List.cons_append]
          have e1 : ((b % 128).toNat + 128 * q) / 128 = q := by omega
          rw [e1, ← h2]
          congr 1
          omega
theorem rdU_inv {bs : List Int} (hB : Bys bs) (h : (rdU bs 0).2.2 = 0) : bs = uv (rdU bs 0).1 ++ (rdU bs 0).2.1 := by
  unfold rdU at h ⊢
  rw [if_neg (by simp)] at h ⊢
  cases hr : rdL bs 0 0 with
  | error x =>
    rw [hr] at h
    have := rdL_err bs 0 0 x hr
    simp only at h; omega
  | ok r =>
    obtain ⟨m, l⟩ := r
    obtain ⟨q, h1, h2, _⟩ := rdL_inv bs 0 0 m l hr (by omega) hB
    have : m = q := by rw [h1]; simp
    subst this
    exact h2
theorem rdI_inv {bs : List Int} (hB : Bys bs) (h : (rdI bs 0).2.2 = 0) : bs = iv (rdI bs 0).1 ++ (rdI bs 0).2.1 := by
  unfold rdI at h ⊢
  simp only [iv, zz_back]
  exact rdU_inv hB h
theorem rdN_inv {bs : List Int} (hB : Bys bs) (h : (rdN bs 0).2.2 = 0) : bs = uv (rdN bs 0).1 ++ (rdN bs 0).2.1 ∧ (rdN bs 0).1 ≤ (rdN bs 0).2.1.length := by
  unfold rdN at h ⊢
  split
  · rename_i he; rw [if_pos he] at h; exact absurd h he
  · rename_i he; rw [if_neg he] at h
    split
    · rename_i h2; rw [if_pos h2] at h; simp at h
    · exact ⟨rdU_inv hB (by omega), by simp only; omega⟩

theorem rdR_inv {bs : List Int} (hB : Bys bs) (h : (rdR bs 0).2.2 = 0) : bs = raw (rdR bs 0).1 ++ (rdR bs 0).2.1 := by
  obtain ⟨h1, h2⟩ := rdN_inv hB h
  unfold rdR raw
  simp only
  rw [List.length_take, Nat.min_eq_left h2, List.append_assoc, List.take_append_drop]
  exact h1
theorem rdU_stick {bs : List Int} {e : Int} (h : (rdU bs e).2.2 = 0) : e = 0 := by
  unfold rdU at h
  by_cases he : e = 0
  · exact he
  · rw [if_pos he] at h; exact h
theorem rdI_stick {bs : List Int} {e : Int} (h : (rdI bs e).2.2 = 0) : e = 0 := rdU_stick h
theorem rdN_stick {bs : List Int} {e : Int} (h : (rdN bs e).2.2 = 0) : e = 0 := by
  unfold rdN at h
  split at h
  · exact rdU_stick h
  · rename_i h1; exact rdU_stick (Decidable.not_not.1 h1)
theorem rdR_stick {bs : List Int} {e : Int} (h : (rdR bs e).2.2 = 0) : e = 0 := rdN_stick h
theorem rdB_stick {bs : List Int} {e : Int} (h : (rdB bs e).2.2 = 0) : e = 0 := by
  unfold rdB at h
  by_cases he : e = 0
  · exact he
  · rw [if_pos he] at h; exact h
theorem rdB_inv {bs : List Int} (hB : Bys bs) (h : (rdB bs 0).2.2 = 0) : bs = [if (rdB bs 0).1 = true then 1 else 0] ++ (rdB bs 0).2.1 := by
  cases bs with
  | nil => simp [rdB] at h
  | cons b l =>
    have hb := hB b (by simp)
    by_cases h1 : 1 < b
    · have e : rdB (b :: l) 0 = (false, b :: l, 2) := by simp [rdB, h1]
      rw [e] at h; simp at h
    · have e : rdB (b :: l) 0 = (decide (b = 1), l, 0) := by simp [rdB, h1]
      rw [e]
      have : b = 0 ∨ b = 1 := by omega
      rcases this with rfl | rfl <;> simp
theorem size0 (n : Nat) : (⟨#[]⟩ : ByteArray).size ≤ n := Nat.zero_le _
theorem rdI_bys {bs : List Int} {e : Int} (hB : Bys bs) : Bys (rdI bs e).2.1 ∧ (rdI bs e).2.1.length ≤ bs.length := ⟨rdU_bys hB, (rdU_ok hB).2.1⟩
theorem rdR_bys {bs : List Int} {e : Int} (hB : Bys bs) : Bys (rdR bs e).2.1 ∧ (rdR bs e).2.1.length ≤ bs.length ∧ Bys (rdR bs e).1 ∧ (rdR bs e).1.length ≤ bs.length := by
  obtain ⟨h1, h2, ⟨k, h3⟩, h4⟩ := rdN_ok (e := e) hB
  have hb : Bys (rdN bs e).2.1 := by rw [h3]; exact hB.drop k
  unfold rdR
  refine ⟨hb.drop _, ?_, hb.take _, ?_⟩
  · simp only [List.length_drop]; omega
  · simp only [List.length_take]; omega
theorem rdB_bys {bs : List Int} {e : Int} (hB : Bys bs) : Bys (rdB bs e).2.1 ∧ (rdB bs e).2.1.length ≤ bs.length := by
  unfold rdB
  split
  · exact ⟨hB, Nat.le_refl _⟩
  · cases bs with
    | nil => exact ⟨hB, Nat.le_refl _⟩
    | cons b l =>
      simp only
      split
      · exact ⟨hB, Nat.le_refl _⟩
      · exact ⟨fun x hx => hB x (by simp [hx]), by simp⟩
theorem strOf_sb {bs : List Int} (h : Bys bs) : sb (strOf bs) = bs := by
  unfold sb strOf
  simp only [List.map_map]
  conv => rhs; rw [← List.map_id bs]
  apply List.map_congr_left
  intro b hb
  have := h b hb
  simp only [Function.comp, id]
  rw [UInt8.toNat_ofNat']
  omega
theorem strOf_size (bs : List Int) : (strOf bs).size = bs.length := by simp [strOf, ByteArray.size]
theorem sb_strOf (s : ByteArray) : strOf (sb s) = s := by
  unfold sb strOf
  cases s with
  | mk d =>
    congr 1
    apply Array.toList_inj.1
    simp only [List.map_map]
    conv => rhs; rw [← List.map_id d.toList]
    apply List.map_congr_left
    intro b _
    simp
theorem sb_bys (s : ByteArray) : Bys (sb s) := by
  intro b hb
  unfold sb at hb
  obtain ⟨c, _, rfl⟩ := List.mem_map.1 hb
  have := c.toNat_lt
  omega
end Go.Rf
namespace Go.Proofs.Ytcogpedfnnfnaaa
open Go.Rf Go.RowKit
set_option linter.unusedVariables false

/-! ### values -/
mutual
def encV : V → List Int
  | ⟨k, n, s, ks⟩ => iv k ++ (if k = 0 then iv n else if k = 1 then [if n = 1 then 1 else 0] else (if k = 3 then raw (sb s) else []) ++ (iv ks.length ++ encVs ks))
def encVs : List V → List Int
  | [] => []
  | v :: l => encV v ++ encVs l
end
theorem encV_eq (v : V) : encV v = iv v.kind ++ (if v.kind = 0 then iv v.n else if v.kind = 1 then [if v.n = 1 then 1 else 0] else (if v.kind = 3 then raw (sb v.s) else []) ++ (iv v.kids.length ++ encVs v.kids)) := by cases v; simp only [encV]
theorem encVs_append (l m : List V) : encVs (l ++ m) = encVs l ++ encVs m := by
  induction l with
  | nil => simp [encVs]
  | cons v l ih => simp [encVs, ih]
inductive IntV : V → Prop
  | mk {v : V} : InI64 v.n → (∀ x ∈ v.kids, IntV x) → IntV v
theorem IntV.n {v : V} (h : IntV v) : InI64 v.n := by cases h; assumption
theorem IntV.kids {v : V} (h : IntV v) : ∀ x ∈ v.kids, IntV x := by cases h; assumption

def dK (rec : Nat → List Int → Int → V × Bool × Nat × List Int × Int) : Nat → Nat → List Int → Int → List V × Bool × Nat × List Int × Int
  | 0, f, bs, e => ([], true, f, bs, e)
  | m + 1, f, bs, e => if (rec f bs e).2.1 = true then ((rec f bs e).1 :: (dK rec m (rec f bs e).2.2.1 (rec f bs e).2.2.2.1 (rec f bs e).2.2.2.2).1, (dK rec m (rec f bs e).2.2.1 (rec f bs e).2.2.2.1 (rec f bs e).2.2.2.2).2) else ([], false, (rec f bs e).2.2)
def dN (rec : Nat → List Int → Int → V × Bool × Nat × List Int × Int) (k : Int) (s : ByteArray) (f : Nat) (bs : List Int) (e : Int) : V × Bool × Nat × List Int × Int :=
  if (rdI bs e).1 < 0 ∨ 256 < (rdI bs e).1 then (V0, false, f, (rdI bs e).2)
  else (⟨k, 0, s, (dK rec (rdI bs e).1.toNat f (rdI bs e).2.1 (rdI bs e).2.2).1⟩, (dK rec (rdI bs e).1.toNat f (rdI bs e).2.1 (rdI bs e).2.2).2)
def dV : Nat → Nat → List Int → Int → V × Bool × Nat × List Int × Int
  | 0, f, bs, e => (V0, false, f, bs, e)
  | d + 1, f, bs, e =>
    if f = 0 then (V0, false, 0, bs, e)
    else if (rdI bs e).1 = 0 then (⟨0, (rdI (rdI bs e).2.1 (rdI bs e).2.2).1, ⟨#[]⟩, []⟩, true, f - 1, (rdI (rdI bs e).2.1 (rdI bs e).2.2).2)
    else if (rdI bs e).1 = 1 then (⟨1, if (rdB (rdI bs e).2.1 (rdI bs e).2.2).1 = true then 1 else 0, ⟨#[]⟩, []⟩, true, f - 1, (rdB (rdI bs e).2.1 (rdI bs e).2.2).2)
    else if (rdI bs e).1 = 2 then dN (dV d) 2 ⟨#[]⟩ (f - 1) (rdI bs e).2.1 (rdI bs e).2.2
    else if (rdI bs e).1 = 3 then dN (dV d) 3 (strOf (rdR (rdI bs e).2.1 (rdI bs e).2.2).1) (f - 1) (rdR (rdI bs e).2.1 (rdI bs e).2.2).2.1 (rdR (rdI bs e).2.1 (rdI bs e).2.2).2.2
    else (V0, false, f - 1, (rdI bs e).2)

/-- what is read keeps its bounds -/
structure DOk (f : Nat) (bs : List Int) (r : V × Bool × Nat × List Int × Int) : Prop where
  bys : Bys r.2.2.2.1
  len : r.2.2.2.1.length ≤ bs.length
  fuel : r.2.2.1 ≤ f
  val : r.2.1 = true → IntV r.1 ∧ VNm r.1 ∧ vsz r.1 + r.2.2.1 ≤ f
structure KOk (f : Nat) (bs : List Int) (r : List V × Bool × Nat × List Int × Int) : Prop where
  bys : Bys r.2.2.2.1
  len : r.2.2.2.1.length ≤ bs.length
  fuel : r.2.2.1 ≤ f
  val : r.2.1 = true → (∀ x ∈ r.1, IntV x) ∧ (∀ x ∈ r.1, VNm x) ∧ vszs r.1 + r.2.2.1 ≤ f
theorem dK_ok {rec : Nat → List Int → Int → V × Bool × Nat × List Int × Int} (H : ∀ f bs e, Bys bs → bs.length ≤ 1000000000 → DOk f bs (rec f bs e)) : ∀ (m f : Nat) (bs : List Int) (e : Int), Bys bs → bs.length ≤ 1000000000 → KOk f bs (dK rec m f bs e) := by
  intro m
  induction m with
  | zero => intro f bs e hB _; exact ⟨hB, Nat.le_refl _, Nat.le_refl _, fun _ => ⟨by simp [dK], by simp [dK], by simp [dK, vszs]⟩⟩
  | succ m ih =>
    intro f bs e hB hl
    have h := H f bs e hB hl
    rw [dK]
    split
    · rename_i hok
      have h1 := h.len
      have h2 := ih (rec f bs e).2.2.1 (rec f bs e).2.2.2.1 (rec f bs e).2.2.2.2 h.bys (by omega)
      have h3 := h2.len
      have h4 := h2.fuel
      have h5 := h.fuel
      refine ⟨h2.bys, by simp only; omega, by simp only; omega, fun hk => ?_⟩
      obtain ⟨a1, a2, a3⟩ := h.val hok
      obtain ⟨b1, b2, b3⟩ := h2.val hk
      refine ⟨?_, ?_, by simp only [vszs]; omega⟩
      · intro x hx
        rcases List.mem_cons.1 hx with rfl | hx
        · exact a1
        · exact b1 x hx
      · intro x hx
        rcases List.mem_cons.1 hx with rfl | hx
        · exact a2
        · exact b2 x hx
    · exact ⟨h.bys, h.len, h.fuel, fun hk => by simp at hk⟩
theorem intV0 : IntV V0 := .mk (by unfold InI64 V0; simp) (by simp [V0])
theorem nmV0 : VNm V0 := .mk (size0 _) (by simp [V0])
theorem dN_ok {rec : Nat → List Int → Int → V × Bool × Nat × List Int × Int} (H : ∀ f bs e, Bys bs → bs.length ≤ 1000000000 → DOk f bs (rec f bs e)) (k : Int) (s : ByteArray) (hs : s.size ≤ 1000000000) (f f0 : Nat) (hf : f + 1 = f0) (bs bs0 : List Int) (e : Int) (hB : Bys bs) (hl : bs.length ≤ 1000000000) (hl0 : bs.length ≤ bs0.length) : DOk f0 bs0 (dN rec k s f bs e) := by
  have h1 := rdI_bys (e := e) hB
  unfold dN
  split
  · exact ⟨h1.1, by simp only; omega, by simp only; omega, fun h => by simp at h⟩
  · have h2 := dK_ok H (rdI bs e).1.toNat f (rdI bs e).2.1 (rdI bs e).2.2 h1.1 (by omega)
    have h3 := h2.len
    have h4 := h2.fuel
    refine ⟨h2.bys, by simp only; omega, by simp only; omega, fun hk => ?_⟩
    obtain ⟨b1, b2, b3⟩ := h2.val hk
    refine ⟨.mk (by unfold InI64; simp) b1, .mk (by simp only; omega) b2, ?_⟩
    rw [vsz_eq]
    simp only
    omega
theorem dV_ok : ∀ (d f : Nat) (bs : List Int) (e : Int), Bys bs → bs.length ≤ 1000000000 → DOk f bs (dV d f bs e) := by
  intro d
  induction d with
  | zero => intro f bs e hB _; exact ⟨hB, Nat.le_refl _, Nat.le_refl _, fun h => by simp [dV] at h⟩
  | succ d ih =>
    intro f bs e hB hl
    have h1 := rdI_bys (e := e) hB
    rw [dV]
    split
    · exact ⟨hB, Nat.le_refl _, Nat.zero_le _, fun h => by simp at h⟩
    split
    · have h2 := rdI_bys (bs := (rdI bs e).2.1) (e := (rdI bs e).2.2) h1.1
      refine ⟨h2.1, by simp only; omega, by simp only; omega, fun _ => ⟨.mk (back_range (rdU_ok h1.1).1) (by simp), .mk (size0 _) (by simp), ?_⟩⟩
      simp only [vsz, vszs]; omega
    split
    · have h2 := rdB_bys (bs := (rdI bs e).2.1) (e := (rdI bs e).2.2) h1.1
      refine ⟨h2.1, by simp only; omega, by simp only; omega, fun _ => ⟨.mk (by unfold InI64; simp only; split <;> omega) (by simp), .mk (size0 _) (by simp), ?_⟩⟩
      simp only [vsz, vszs]; omega
    split
    · exact dN_ok ih 2 _ (size0 _) (f - 1) f (by omega) _ _ _ h1.1 (by omega) h1.2
    split
    · have h2 := rdR_bys (bs := (rdI bs e).2.1) (e := (rdI bs e).2.2) h1.1
      exact dN_ok ih 3 _ (by rw [strOf_size]; omega) (f - 1) f (by omega) _ _ _ h2.1 (by omega) (by omega)
    · exact ⟨h1.1, h1.2, by simp only; omega, fun h => by simp at h⟩

/-- errors stay, and what was read without one is encoded so -/
def DInv (rec : Nat → List Int → Int → V × Bool × Nat × List Int × Int) : Prop := ∀ f bs e, Bys bs → bs.length ≤ 1000000000 → (rec f bs e).2.1 = true → (rec f bs e).2.2.2.2 = 0 → e = 0 ∧ bs = encV (rec f bs e).1 ++ (rec f bs e).2.2.2.1
theorem dK_inv {rec : Nat → List Int → Int → V × Bool × Nat × List Int × Int} (H : DInv rec) (Ho : ∀ f bs e, Bys bs → bs.length ≤ 1000000000 → DOk f bs (rec f bs e)) : ∀ (m f : Nat) (bs : List Int) (e : Int), Bys bs → bs.length ≤ 1000000000 → (dK rec m f bs e).2.1 = true → (dK rec m f bs e).2.2.2.2 = 0 → e = 0 ∧ bs = encVs (dK rec m f bs e).1 ++ (dK rec m f bs e).2.2.2.1 ∧ (dK rec m f bs e).1.length = m := by
  intro m
  induction m with
  | zero => intro f bs e _ _ _ h; exact ⟨h, by simp [dK, encVs], rfl⟩
  | succ m ih =>
    intro f bs e hB hl
    rw [dK]
    split
    · rename_i hok
      intro h1 h2
      have ho := Ho f bs e hB hl
      have hol := ho.len
      obtain ⟨b1, b2, b3⟩ := ih _ _ _ ho.bys (by omega) h1 h2
      obtain ⟨a1, a2⟩ := H f bs e hB hl hok b1
      refine ⟨a1, ?_, by simp only [List.length_cons, b3]⟩
      simp only [encVs, List.append_assoc]
      rw [← b2]; exact a2
    · intro h; simp at h
theorem dN_inv {rec : Nat → List Int → Int → V × Bool × Nat × List Int × Int} (H : DInv rec) (Ho : ∀ f bs e, Bys bs → bs.length ≤ 1000000000 → DOk f bs (rec f bs e)) (k : Int) (s : ByteArray) (f : Nat) (bs : List Int) (e : Int) (hB : Bys bs) (hl : bs.length ≤ 1000000000) (h1 : (dN rec k s f bs e).2.1 = true) (h2 : (dN rec k s f bs e).2.2.2.2 = 0) :
    e = 0 ∧ bs = (iv (dN rec k s f bs e).1.kids.length ++ encVs (dN rec k s f bs e).1.kids) ++ (dN rec k s f bs e).2.2.2.1 ∧ (dN rec k s f bs e).1.kind = k ∧ (dN rec k s f bs e).1.s = s := by
  have hb := rdI_bys (e := e) hB
  by_cases hn : (rdI bs e).1 < 0 ∨ 256 < (rdI bs e).1
  · unfold dN at h1; rw [if_pos hn] at h1; simp at h1
  have e0 : dN rec k s f bs e = (⟨k, 0, s, (dK rec (rdI bs e).1.toNat f (rdI bs e).2.1 (rdI bs e).2.2).1⟩, (dK rec (rdI bs e).1.toNat f (rdI bs e).2.1 (rdI bs e).2.2).2) := by unfold dN; rw [if_neg hn]
  rw [e0] at h1 h2 ⊢
  simp only at h1 h2 ⊢
  obtain ⟨c1, c2, c3⟩ := dK_inv H Ho _ _ _ _ hb.1 (by omega) h1 h2
  have he := rdI_stick c1
  subst he
  refine ⟨by trivial, ?_, by trivial, by trivial⟩
  have hi := rdI_inv hB c1
  rw [c3]
  have : (((rdI bs 0).1.toNat : Nat) : Int) = (rdI bs 0).1 := by omega
  rw [this, List.append_assoc, ← c2]
  exact hi
theorem dV_inv : ∀ d, DInv (dV d) := by
  intro d
  induction d with
  | zero => intro f bs e _ _ h; simp [dV] at h
  | succ d ih =>
    intro f bs e hB hl
    have hb := rdI_bys (e := e) hB
    rw [dV]
    split
    · intro h; simp at h
    split
    · rename_i hk
      intro _ h2
      simp only at h2
      have e1 := rdI_stick h2
      have e2 := rdI_stick e1
      subst e2
      refine ⟨rfl, ?_⟩
      have i1 := rdI_inv hB e1
      rw [e1] at h2
      have i2 := rdI_inv hb.1 h2
      rw [encV_eq, if_pos rfl]
      simp only
      rw [e1, List.append_assoc, ← i2]
      rw [hk] at i1
      exact i1
    split
    · rename_i hk
      intro _ h2
      simp only at h2
      have e1 := rdB_stick h2
      have e2 := rdI_stick e1
      subst e2
      refine ⟨rfl, ?_⟩
      have i1 := rdI_inv hB e1
      rw [e1] at h2
      have i2 := rdB_inv hb.1 h2
      have hE : ∀ n : Int, encV ⟨1, n, ⟨#[]⟩, []⟩ = iv 1 ++ [if n = 1 then 1 else 0] := by
        intro n
        rw [encV_eq, if_neg (by simp), if_pos rfl]
      simp only
      rw [hE, e1, List.append_assoc]
      have i3 : (if (if (rdB (rdI bs 0).2.1 0).1 = true then (1 : Int) else 0) = 1 then (1 : Int) else 0) = if (rdB (rdI bs 0).2.1 0).1 = true then 1 else 0 := by split <;> simp
      rw [i3, ← i2]
      rw [hk] at i1
      exact i1
    split
    · rename_i hk
      intro h1 h2
      obtain ⟨c1, c2, c3, c4⟩ := dN_inv ih (dV_ok d) 2 _ _ _ _ hb.1 (by omega) h1 h2
      have e2 := rdI_stick c1
      subst e2
      refine ⟨rfl, ?_⟩
      have i1 := rdI_inv hB c1
      rw [encV_eq, c3, if_neg (by simp), if_neg (by simp), if_neg (by simp), List.nil_append, List.append_assoc, ← c2]
      rw [hk] at i1
      exact i1
    split
    · rename_i hk
      intro h1 h2
      have hr := rdR_bys (bs := (rdI bs e).2.1) (e := (rdI bs e).2.2) hb.1
      obtain ⟨c1, c2, c3, c4⟩ := dN_inv ih (dV_ok d) 3 _ _ _ _ hr.1 (by omega) h1 h2
      have e1 := rdR_stick c1
      have e2 := rdI_stick e1
      subst e2
      refine ⟨rfl, ?_⟩
      have i1 := rdI_inv hB e1
      rw [e1] at c1
      have i2 := rdR_inv hb.1 c1
      rw [encV_eq, c3, c4, if_neg (by simp), if_neg (by simp), if_pos rfl, strOf_sb hr.2.2.1, List.append_assoc, List.append_assoc, ← c2, e1, ← i2]
      rw [hk] at i1
      exact i1
    · intro h; simp at h
end Go.Proofs.Ytcogpedfnnfnaaa
namespace Go.Proofs.Ytcogpedfnnfnaaa
open Go.Rf Go.RowKit
set_option linter.unusedVariables false

theorem rdB_one {b : Bool} (rest : List Int) : rdB ((if b = true then (1 : Int) else 0) :: rest) 0 = (b, rest, 0) := by
  cases b <;> simp [rdB]
theorem capB_len {l : List UInt8} (h : capB l = true) : l.length ≤ 16 := by
  cases l with
  | nil => simp
  | cons c r => simp [capB] at h; simp; omega
theorem small_in {n : Nat} (h : n ≤ 1000000000) : InI64 (n : Int) := ⟨by omega, by omega⟩
theorem rdI_small {n : Nat} (h : n ≤ 1000000000) (rest : List Int) : rdI (iv (n : Int) ++ rest) 0 = ((n : Int), rest, 0) := rdI_iv (small_in h).1 (small_in h).2 rest
theorem rdI_lit {n : Int} (h : 0 ≤ n ∧ n ≤ 1000) (rest : List Int) : rdI (iv n ++ rest) 0 = (n, rest, 0) := rdI_iv (by omega) (by omega) rest
def DEnc (rec : Nat → List Int → Int → V × Bool × Nat × List Int × Int) (x : V) (F : Nat) : Prop := ∀ f, vsz x ≤ f → f ≤ F → ∀ rest, rec f (encV x ++ rest) 0 = (x, true, f - vsz x, rest, 0)
theorem dK_enc {rec : Nat → List Int → Int → V × Bool × Nat × List Int × Int} {F : Nat} : ∀ (l : List V), (∀ x ∈ l, DEnc rec x F) → ∀ f, vszs l ≤ f → f ≤ F → ∀ rest, dK rec l.length f (encVs l ++ rest) 0 = (l, true, f - vszs l, rest, 0) := by
  intro l
  induction l with
  | nil => intro _ f _ _ rest; simp [dK, encVs, vszs]
  | cons v l ih =>
    intro H f hf hF rest
    simp only [vszs] at hf
    have h1 := H v (by simp) f (by omega) hF (encVs l ++ rest)
    have h2 := ih (fun x hx => H x (by simp [hx])) (f - vsz v) (by omega) (by omega) rest
    simp only [List.length_cons, dK, encVs, List.append_assoc, h1, if_true, h2, vszs]
    congr 3
    omega
theorem dV_hd {d f : Nat} {k : Int} {Y : List Int} (hf : f ≠ 0) (hk : 0 ≤ k ∧ k ≤ 1000) : dV (d + 1) f (iv k ++ Y) 0 =
    if k = 0 then (⟨0, (rdI Y 0).1, ⟨#[]⟩, []⟩, true, f - 1, (rdI Y 0).2)
    else if k = 1 then (⟨1, if (rdB Y 0).1 = true then 1 else 0, ⟨#[]⟩, []⟩, true, f - 1, (rdB Y 0).2)
    else if k = 2 then dN (dV d) 2 ⟨#[]⟩ (f - 1) Y 0
    else if k = 3 then dN (dV d) 3 (strOf (rdR Y 0).1) (f - 1) (rdR Y 0).2.1 (rdR Y 0).2.2
    else (V0, false, f - 1, Y, 0) := by
  rw [dV, if_neg hf, rdI_lit hk]
theorem dV_enc : ∀ (d : Nat) (v : V), vsz v < d → allF v = true → allT v = true → IntV v → DEnc (dV d) v (d - 1) := by
  intro d
  induction d with
  | zero => intro v h; omega
  | succ d ih =>
    intro v hd hF hT hI f hf hfd rest
    rw [allF_eq, Bool.and_eq_true] at hF
    rw [allT_eq, Bool.and_eq_true] at hT
    have hz := vsz_eq v
    have hn := hI.n
    have hkids : ∀ x ∈ v.kids, DEnc (dV d) x (d - 1) := by
      intro x hx
      have h1 := vszs_mem hx
      have hf1 : allF x = true := by
        have := hF.2
        clear hz h1
        generalize v.kids = l at hx this
        induction l with
        | nil => cases hx
        | cons a l ih2 =>
          simp only [allFs, Bool.and_eq_true] at this
          rcases List.mem_cons.1 hx with rfl | hx
          · exact this.1
          · exact ih2 hx this.2
      have hf2 : allT x = true := by
        have := hT.2
        clear hz h1
        generalize v.kids = l at hx this
        induction l with
        | nil => cases hx
        | cons a l ih2 =>
          simp only [allTs, Bool.and_eq_true] at this
          rcases List.mem_cons.1 hx with rfl | hx
          · exact this.1
          · exact ih2 hx this.2
      exact ih x (by omega) hf1 hf2 (hI.kids x hx)
    have hk256 : v.kids.length ≤ 256 := by
      have := hT.1
      simp only [fts, decide_eq_true_eq] at this
      exact this.1
    have hfm := hF.1
    have hlist : ∀ (k : Int) (s : ByteArray), dN (dV d) k s (f - 1) (iv (v.kids.length : Int) ++ (encVs v.kids ++ rest)) 0 = (⟨k, 0, s, v.kids⟩, true, f - vsz v, rest, 0) := by
      intro k s
      have e1 := rdI_small (n := v.kids.length) (by omega) (encVs v.kids ++ rest)
      unfold dN
      rw [e1]
      simp only
      rw [if_neg (by omega), Int.toNat_natCast, dK_enc v.kids hkids (f - 1) (by omega) (by omega) rest]
      simp only
      congr 3
      omega
    cases v with
    | mk k n s ks =>
    simp only at hz hn hk256 hfm hlist hkids ⊢
    unfold fmd at hfm
    by_cases k0 : k = 0
    · subst k0
      rw [if_pos rfl] at hfm
      simp only [decide_eq_true_eq] at hfm
      obtain ⟨rfl, hl0⟩ := hfm
      have hks : ks = [] := List.eq_nil_of_length_eq_zero hl0
      subst hks
      have he : encV ⟨0, n, ⟨#[]⟩, []⟩ = iv 0 ++ iv n := by rw [encV_eq, if_pos rfl]
      rw [he, List.append_assoc, dV_hd (by omega) (by omega), if_pos rfl, rdI_iv hn.1 hn.2]
      simp only [vsz, vszs]
    by_cases k1 : k = 1
    · subst k1
      rw [if_neg (by simp), if_pos rfl] at hfm
      simp only [decide_eq_true_eq] at hfm
      obtain ⟨hn01, rfl, hl0⟩ := hfm
      have hks : ks = [] := List.eq_nil_of_length_eq_zero hl0
      subst hks
      have he : encV ⟨1, n, ⟨#[]⟩, []⟩ = iv 1 ++ [if n = 1 then 1 else 0] := by rw [encV_eq, if_neg (by simp), if_pos rfl]
      rw [he, List.append_assoc, dV_hd (by omega) (by omega), if_neg (by simp), if_pos rfl, List.singleton_append]
      rcases hn01 with rfl | rfl
      · have e0 : (if (0 : Int) = 1 then (1 : Int) else 0) = if false = true then 1 else 0 := by simp
        rw [e0, rdB_one]
        simp [vsz, vszs]
      · have e0 : (if (1 : Int) = 1 then (1 : Int) else 0) = if true = true then 1 else 0 := by simp
        rw [e0, rdB_one]
        simp [vsz, vszs]
    by_cases k2 : k = 2
    · subst k2
      rw [if_neg (by simp), if_neg (by simp), if_pos rfl] at hfm
      simp only [decide_eq_true_eq] at hfm
      obtain ⟨rfl, rfl⟩ := hfm
      have he : encV ⟨2, 0, ⟨#[]⟩, ks⟩ = iv 2 ++ (iv ks.length ++ encVs ks) := by rw [encV_eq, if_neg (by simp), if_neg (by simp), if_neg (by simp), List.nil_append]
      rw [he, List.append_assoc, dV_hd (by omega) (by omega), if_neg (by simp), if_neg (by simp), if_pos rfl, List.append_assoc]
      exact hlist 2 _
    by_cases k3 : k = 3
    · subst k3
      rw [if_neg (by simp), if_neg (by simp), if_neg (by simp), if_pos rfl, Bool.and_eq_true, decide_eq_true_eq] at hfm
      obtain ⟨rfl, hcap⟩ := hfm
      have hsz : (sb s).length < 18446744073709551616 := by
        have := capB_len hcap
        have e : (sb s).length = s.data.toList.length := by simp [sb]
        simp only at this
        omega
      have he : encV ⟨3, 0, s, ks⟩ = iv 3 ++ (raw (sb s) ++ (iv ks.length ++ encVs ks)) := by rw [encV_eq, if_neg (by simp), if_neg (by simp), if_pos rfl]
      rw [he, List.append_assoc, dV_hd (by omega) (by omega), if_neg (by simp), if_neg (by simp), if_neg (by simp), if_pos rfl, List.append_assoc, rdR_raw hsz, List.append_assoc, sb_strOf]
      exact hlist 3 _
    · rw [if_neg k0, if_neg k1, if_neg k2, if_neg k3] at hfm
      cases hfm

/-! ### values.Decode -/
def decV (bs : List Int) : V × Int :=
  if (dV 1025 1024 bs 0).2.1 = true ∧ rdEnd (dV 1025 1024 bs 0).2.2.2.1 (dV 1025 1024 bs 0).2.2.2.2 = 0 ∧ valV (dV 1025 1024 bs 0).1 = 0 then ((dV 1025 1024 bs 0).1, 0) else (V0, 2)
theorem rdEnd_zero {bs : List Int} {e : Int} : rdEnd bs e = 0 ↔ e = 0 ∧ bs = [] := by
  unfold rdEnd
  by_cases he : e = 0
  · rw [if_neg (by simpa using he)]
    cases bs with
    | nil => simp [he]
    | cons b l => simp
  · rw [if_pos he]; simp [he]
theorem val_parts {v : V} (h : valV v = 0) : allF v = true ∧ allT v = true ∧ vsz v ≤ 1024 := by
  unfold valV at h
  by_cases h1 : allF v = true
  · rw [if_pos h1] at h
    by_cases h2 : allT v = true ∧ vsz v ≤ 1024
    · exact ⟨h1, h2.1, h2.2⟩
    · rw [if_neg h2] at h; omega
  · rw [if_neg h1] at h; omega
theorem valV0 : valV V0 = 0 := zero_valid (by decide)
structure GoodV (v : V) : Prop where
  int : IntV v
  ok : VOk v
  val : valV v = 0
theorem decV_good {bs : List Int} (hB : Bys bs) (hl : bs.length ≤ 1000000000) : GoodV (decV bs).1 := by
  unfold decV
  split
  · rename_i h
    obtain ⟨h1, h2, h3⟩ := (dV_ok 1025 1024 bs 0 hB hl).val h.1
    exact ⟨h1, ⟨h2, by simp only; omega⟩, h.2.2⟩
  · exact ⟨intV0, ⟨nmV0, by simp [V0, vsz, vszs]⟩, valV0⟩
theorem decV_inv {bs : List Int} (hB : Bys bs) (hl : bs.length ≤ 1000000000) (h : (decV bs).2 = 0) : bs = encV (decV bs).1 := by
  unfold decV at h ⊢
  split
  · rename_i hc
    rw [rdEnd_zero] at hc
    obtain ⟨_, h2⟩ := dV_inv 1025 1024 bs 0 hB hl hc.1 hc.2.1.1
    rw [hc.2.1.2, List.append_nil] at h2
    exact h2
  · rename_i hc; rw [if_neg hc] at h; simp at h
theorem decV_enc {v : V} (h : valV v = 0) (hI : IntV v) : decV (encV v) = (v, 0) := by
  obtain ⟨h1, h2, h3⟩ := val_parts h
  have := dV_enc 1025 v (by omega) h1 h2 hI 1024 (by omega) (by omega) []
  rw [List.append_nil] at this
  unfold decV
  rw [this, if_pos ⟨rfl, by simp [rdEnd], h⟩]

/-! ### histories -/
def rawVs : List V → List Int
  | [] => []
  | v :: l => raw (encV v) ++ rawVs l
theorem rawVs_append (l m : List V) : rawVs (l ++ m) = rawVs l ++ rawVs m := by
  induction l with
  | nil => simp [rawVs]
  | cons v l ih => simp [rawVs, ih]
def encE (x : Ev) : List Int := iv x.kind ++ (iv x.client ++ (raw (sb x.name) ++ (iv x.args.length ++ (rawVs x.args ++ raw (encV x.res)))))
def encEs : List Ev → List Int
  | [] => []
  | e :: l => encE e ++ encEs l
theorem encEs_append (l m : List Ev) : encEs (l ++ m) = encEs l ++ encEs m := by
  induction l with
  | nil => simp [encEs]
  | cons v l ih => simp [encEs, ih]
def encH (l : List Ev) : List Int := iv l.length ++ encEs l
/-- the state: what is left, the error, bad -/
abbrev HS := List Int × Int × Bool
def hVal (st : HS) : V × HS := ((decV (rdR st.1 st.2.1).1).1, (rdR st.1 st.2.1).2.1, (rdR st.1 st.2.1).2.2, st.2.2 || decide ((decV (rdR st.1 st.2.1).1).2 ≠ 0))
def hCnt (most : Nat) (st : HS) : Nat × HS := if (rdI st.1 st.2.1).1 < 0 ∨ (most : Int) < (rdI st.1 st.2.1).1 then (0, (rdI st.1 st.2.1).2.1, (rdI st.1 st.2.1).2.2, true) else ((rdI st.1 st.2.1).1.toNat, (rdI st.1 st.2.1).2.1, (rdI st.1 st.2.1).2.2, st.2.2)
def hArgs : Nat → HS → List V × HS
  | 0, st => ([], st)
  | m + 1, st => if st.2.2 = true then ([], st) else ((hVal st).1 :: (hArgs m (hVal st).2).1, (hArgs m (hVal st).2).2)
def hHd (st : HS) : HS := ((rdR (rdI (rdI st.1 st.2.1).2.1 (rdI st.1 st.2.1).2.2).2.1 (rdI (rdI st.1 st.2.1).2.1 (rdI st.1 st.2.1).2.2).2.2).2.1, (rdR (rdI (rdI st.1 st.2.1).2.1 (rdI st.1 st.2.1).2.2).2.1 (rdI (rdI st.1 st.2.1).2.1 (rdI st.1 st.2.1).2.2).2.2).2.2, st.2.2)
def hEv (st : HS) : Ev × HS :=
  let a := hArgs (hCnt 16 (hHd st)).1 (hCnt 16 (hHd st)).2
  (⟨(rdI st.1 st.2.1).1, (rdI (rdI st.1 st.2.1).2.1 (rdI st.1 st.2.1).2.2).1, strOf (rdR (rdI (rdI st.1 st.2.1).2.1 (rdI st.1 st.2.1).2.2).2.1 (rdI (rdI st.1 st.2.1).2.1 (rdI st.1 st.2.1).2.2).2.2).1, a.1, (hVal a.2).1⟩, (hVal a.2).2)
def hEvs : Nat → HS → List Ev × HS
  | 0, st => ([], st)
  | m + 1, st => if st.2.2 = true then ([], st) else ((hEv st).1 :: (hEvs m (hEv st).2).1, (hEvs m (hEv st).2).2)
def decH (bs : List Int) : List Ev × Int :=
  let c := hCnt 64 (bs, 0, false)
  let r := hEvs c.1 c.2
  if r.2.2.2 = true ∨ rdEnd r.2.1 r.2.2.1 ≠ 0 ∨ validH r.1 ≠ 0 then ([], 2) else (r.1, 0)

structure GoodS (st : HS) (n : Nat) : Prop where
  bys : Bys st.1
  len : st.1.length ≤ n
theorem hVal_good {st : HS} {n : Nat} (h : GoodS st n) (hn : n ≤ 1000000000) : GoodS (hVal st).2 n ∧ GoodV (hVal st).1 := by
  have h1 := rdR_bys (e := st.2.1) h.bys
  have h2 := h.len
  exact ⟨⟨h1.1, by simp only [hVal]; omega⟩, decV_good h1.2.2.1 (by omega)⟩
theorem hCnt_good {st : HS} {n : Nat} {most : Nat} (h : GoodS st n) : GoodS (hCnt most st).2 n := by
  have h1 := rdI_bys (e := st.2.1) h.bys
  have h2 := h.len
  unfold hCnt
  split
  · exact ⟨h1.1, by simp only; omega⟩
  · exact ⟨h1.1, by simp only; omega⟩
theorem hCnt_le {st : HS} {most : Nat} : (hCnt most st).1 ≤ most := by
  unfold hCnt
  split
  · exact Nat.zero_le _
  · simp only; omega
theorem hArgs_good {n : Nat} (hn : n ≤ 1000000000) : ∀ (m : Nat) (st : HS), GoodS st n → GoodS (hArgs m st).2 n ∧ (∀ v ∈ (hArgs m st).1, GoodV v) ∧ (hArgs m st).1.length ≤ m := by
  intro m
  induction m with
  | zero => intro st h; exact ⟨h, by simp [hArgs], Nat.le_refl _⟩
  | succ m ih =>
    intro st h
    rw [hArgs]
    split
    · exact ⟨h, by simp, Nat.zero_le _⟩
    · have h1 := hVal_good h hn
      obtain ⟨a, b, c⟩ := ih _ h1.1
      refine ⟨a, ?_, by simp only [List.length_cons]; omega⟩
      intro v hv
      rcases List.mem_cons.1 hv with rfl | hv
      · exact h1.2
      · exact b v hv
theorem hHd_good {st : HS} {n : Nat} (h : GoodS st n) : GoodS (hHd st) n := by
  have h1 := rdI_bys (e := st.2.1) h.bys
  have h2 := rdI_bys (e := (rdI st.1 st.2.1).2.2) h1.1
  have h3 := rdR_bys (e := (rdI (rdI st.1 st.2.1).2.1 (rdI st.1 st.2.1).2.2).2.2) h2.1
  have h4 := h.len
  exact ⟨h3.1, by simp only [hHd]; omega⟩
structure GoodE (x : Ev) : Prop where
  args : ∀ v ∈ x.args, GoodV v
  res : GoodV x.res
  al : x.args.length ≤ 16
  nm : x.name.size ≤ 1000000000
theorem hEv_good {n : Nat} (hn : n ≤ 1000000000) {st : HS} (h : GoodS st n) : GoodS (hEv st).2 n ∧ GoodE (hEv st).1 := by
  have h1 := hCnt_good (most := 16) (hHd_good h)
  obtain ⟨a, b, c⟩ := hArgs_good hn (hCnt 16 (hHd st)).1 _ h1
  have h2 := hVal_good a hn
  have h5 := hCnt_le (st := hHd st) (most := 16)
  refine ⟨h2.1, ⟨b, h2.2, ?_, ?_⟩⟩
  · simp only [hEv]
    exact Nat.le_trans c h5
  · have g1 := rdI_bys (e := st.2.1) h.bys
    have g2 := rdI_bys (e := (rdI st.1 st.2.1).2.2) g1.1
    have g3 := rdR_bys (e := (rdI (rdI st.1 st.2.1).2.1 (rdI st.1 st.2.1).2.2).2.2) g2.1
    have g4 := h.len
    simp only [hEv]
    rw [strOf_size]; omega
theorem hEvs_good {n : Nat} (hn : n ≤ 1000000000) : ∀ (m : Nat) (st : HS), GoodS st n → GoodS (hEvs m st).2 n ∧ (∀ x ∈ (hEvs m st).1, GoodE x) ∧ (hEvs m st).1.length ≤ m := by
  intro m
  induction m with
  | zero => intro st h; exact ⟨h, by simp [hEvs], Nat.le_refl _⟩
  | succ m ih =>
    intro st h
    rw [hEvs]
    split
    · exact ⟨h, by simp, Nat.zero_le _⟩
    · have h1 := hEv_good hn h
      obtain ⟨a, b, c⟩ := ih _ h1.1
      refine ⟨a, ?_, by simp only [List.length_cons]; omega⟩
      intro v hv
      rcases List.mem_cons.1 hv with rfl | hv
      · exact h1.2
      · exact b v hv

/-! ### what was read is written so -/
def Fine (st : HS) : Prop := st.2.1 = 0 ∧ st.2.2 = false
theorem hVal_inv {st : HS} {n : Nat} (hn : n ≤ 1000000000) (h : GoodS st n) (hf : Fine (hVal st).2) : Fine st ∧ st.1 = raw (encV (hVal st).1) ++ (hVal st).2.1 := by
  obtain ⟨h1, h2⟩ := hf
  simp only [hVal, Bool.or_eq_false_iff, decide_eq_false_iff_not, Decidable.not_not] at h1 h2
  have e0 := rdR_stick h1
  have hb := rdR_bys (e := st.2.1) h.bys
  have hl := h.len
  refine ⟨⟨e0, h2.1⟩, ?_⟩
  have := decV_inv hb.2.2.1 (by omega) h2.2
  simp only [hVal]
  rw [← this]
  rw [e0] at h1 ⊢
  exact rdR_inv h.bys h1
theorem hCnt_inv {st : HS} {n : Nat} {most : Nat} (h : GoodS st n) (hf : Fine (hCnt most st).2) : Fine st ∧ st.1 = iv ((hCnt most st).1 : Int) ++ (hCnt most st).2.1 := by
  unfold hCnt at hf ⊢
  split
  · rename_i hc; rw [if_pos hc] at hf; have := hf.2; simp at this
  · rename_i hc
    rw [if_neg hc] at hf
    obtain ⟨h1, h2⟩ := hf
    simp only at h1 h2 ⊢
    have e0 := rdI_stick h1
    refine ⟨⟨e0, h2⟩, ?_⟩
    have : (((rdI st.1 st.2.1).1.toNat : Nat) : Int) = (rdI st.1 st.2.1).1 := by omega
    rw [this]
    rw [e0] at h1 ⊢
    exact rdI_inv h.bys h1
theorem hArgs_inv {n : Nat} (hn : n ≤ 1000000000) : ∀ (m : Nat) (st : HS), GoodS st n → Fine (hArgs m st).2 → Fine st ∧ st.1 = rawVs (hArgs m st).1 ++ (hArgs m st).2.1 ∧ (hArgs m st).1.length = m := by
  intro m
  induction m with
  | zero => intro st _ h; exact ⟨h, by simp [hArgs, rawVs], rfl⟩
  | succ m ih =>
    intro st hg
    rw [hArgs]
    split
    · rename_i hb
      intro h; have := h.2; simp only at this; rw [hb] at this; cases this
    · intro h
      have h1 := hVal_good hg hn
      obtain ⟨a, b, c⟩ := ih _ h1.1 h
      obtain ⟨p, q⟩ := hVal_inv hn hg a
      refine ⟨p, ?_, by simp only [List.length_cons, c]⟩
      simp only [rawVs, List.append_assoc]
      rw [← b]; exact q
theorem hHd_inv {st : HS} {n : Nat} (h : GoodS st n) (hf : Fine (hHd st)) : Fine st ∧ st.1 = iv (hEv st).1.kind ++ (iv (hEv st).1.client ++ (raw (sb (hEv st).1.name) ++ (hHd st).1)) := by
  obtain ⟨h1, h2⟩ := hf
  simp only [hHd] at h1 h2
  have e0 := rdR_stick h1
  have e1 := rdI_stick e0
  have e2 := rdI_stick e1
  have g1 := rdI_bys (e := st.2.1) h.bys
  have g2 := rdI_bys (e := (rdI st.1 st.2.1).2.2) g1.1
  refine ⟨⟨e2, h2⟩, ?_⟩
  simp only [hEv, hHd]
  rw [e0] at h1 ⊢
  rw [e1] at e0 h1 g2 ⊢
  rw [e2] at e1 e0 h1 g1 g2 ⊢
  have g3 := rdR_bys (e := 0) g2.1
  rw [strOf_sb g3.2.2.1, ← rdR_inv g2.1 h1, ← rdI_inv g1.1 e0]
  exact rdI_inv h.bys e1
theorem hEv_inv {st : HS} {n : Nat} (hn : n ≤ 1000000000) (h : GoodS st n) (hf : Fine (hEv st).2) : Fine st ∧ st.1 = encE (hEv st).1 ++ (hEv st).2.1 := by
  have hh := hHd_good h
  have hc := hCnt_good (most := 16) hh
  obtain ⟨a, b, c⟩ := hArgs_good hn (hCnt 16 (hHd st)).1 _ hc
  have hf' : Fine (hVal (hArgs (hCnt 16 (hHd st)).1 (hCnt 16 (hHd st)).2).2).2 := hf
  obtain ⟨p1, p2⟩ := hVal_inv hn a hf'
  obtain ⟨q1, q2, q3⟩ := hArgs_inv hn _ _ hc p1
  obtain ⟨r1, r2⟩ := hCnt_inv (most := 16) hh q1
  obtain ⟨s1, s2⟩ := hHd_inv h r1
  refine ⟨s1, ?_⟩
  unfold encE
  simp only [List.append_assoc]
  have e1 : (hEv st).1.args = (hArgs (hCnt 16 (hHd st)).1 (hCnt 16 (hHd st)).2).1 := rfl
  have e2 : (hEv st).1.res = (hVal (hArgs (hCnt 16 (hHd st)).1 (hCnt 16 (hHd st)).2).2).1 := rfl
  have e3 : (hEv st).2.1 = (hVal (hArgs (hCnt 16 (hHd st)).1 (hCnt 16 (hHd st)).2).2).2.1 := rfl
  rw [e1, e2, e3, ← p2, q3]
  rw [← q2, ← r2]
  exact s2
theorem hEvs_inv {n : Nat} (hn : n ≤ 1000000000) : ∀ (m : Nat) (st : HS), GoodS st n → Fine (hEvs m st).2 → Fine st ∧ st.1 = encEs (hEvs m st).1 ++ (hEvs m st).2.1 ∧ (hEvs m st).1.length = m := by
  intro m
  induction m with
  | zero => intro st _ h; exact ⟨h, by simp [hEvs, encEs], rfl⟩
  | succ m ih =>
    intro st hg
    rw [hEvs]
    split
    · rename_i hb
      intro h; have := h.2; simp only at this; rw [hb] at this; cases this
    · intro h
      have h1 := hEv_good hn hg
      obtain ⟨a, b, c⟩ := ih _ h1.1 h
      obtain ⟨p, q⟩ := hEv_inv hn hg a
      refine ⟨p, ?_, by simp only [List.length_cons, c]⟩
      simp only [encEs, List.append_assoc]
      rw [← b]; exact q
theorem decH_inv {bs : List Int} (hB : Bys bs) (hl : bs.length ≤ 1000000000) (h : (decH bs).2 = 0) : bs = encH (decH bs).1 ∧ validH (decH bs).1 = 0 ∧ (∀ x ∈ (decH bs).1, GoodE x) := by
  have hg : GoodS ((bs, 0, false) : HS) bs.length := ⟨hB, Nat.le_refl _⟩
  have hc := hCnt_good (most := 64) hg
  unfold decH at h ⊢
  simp only at h ⊢
  by_cases hb : (hEvs (hCnt 64 (bs, 0, false)).1 (hCnt 64 (bs, 0, false)).2).2.2.2 = true ∨ rdEnd (hEvs (hCnt 64 (bs, 0, false)).1 (hCnt 64 (bs, 0, false)).2).2.1 (hEvs (hCnt 64 (bs, 0, false)).1 (hCnt 64 (bs, 0, false)).2).2.2.1 ≠ 0 ∨ validH (hEvs (hCnt 64 (bs, 0, false)).1 (hCnt 64 (bs, 0, false)).2).1 ≠ 0
  · rw [if_pos hb] at h; simp at h
  · rw [if_neg hb]
    simp only [not_or, Decidable.not_not, Bool.not_eq_true] at hb
    obtain ⟨b1, b2, b3⟩ := hb
    rw [rdEnd_zero] at b2
    obtain ⟨p1, p2, p3⟩ := hEvs_inv hl _ _ hc ⟨b2.1, b1⟩
    obtain ⟨q1, q2⟩ := hCnt_inv (most := 64) hg p1
    refine ⟨?_, b3, (hEvs_good hl _ _ hc).2.1⟩
    unfold encH
    rw [b2.2, List.append_nil] at p2
    simp only
    rw [p3, ← p2]
    exact q2

/-! ### what was written is read so -/
structure InE (x : Ev) : Prop where
  k : InI64 x.kind
  c : InI64 x.client
  args : ∀ v ∈ x.args, IntV v
  res : IntV x.res
theorem hVal_enc {v : V} (h : valV v = 0) (hI : IntV v) (hl : (encV v).length ≤ 1000000000) (rest : List Int) : hVal (raw (encV v) ++ rest, 0, false) = (v, rest, 0, false) := by
  unfold hVal
  simp only
  rw [rdR_raw (by omega), decV_enc h hI]
  simp
theorem hArgs_enc : ∀ (l : List V), (∀ v ∈ l, valV v = 0 ∧ IntV v ∧ (encV v).length ≤ 1000000000) → ∀ rest, hArgs l.length (rawVs l ++ rest, 0, false) = (l, rest, 0, false) := by
  intro l
  induction l with
  | nil => intro _ rest; simp [hArgs, rawVs]
  | cons v l ih =>
    intro h rest
    obtain ⟨h1, h2, h3⟩ := h v (by simp)
    have e := hVal_enc h1 h2 h3 (rawVs l ++ rest)
    have e2 := ih (fun x hx => h x (by simp [hx])) rest
    simp only [List.length_cons, hArgs, rawVs, List.append_assoc, e, e2]
    simp
theorem hCnt_enc {m : Nat} {most : Nat} (h : m ≤ most) (h2 : most ≤ 1000000000) (rest : List Int) : hCnt most (iv (m : Int) ++ rest, 0, false) = (m, rest, 0, false) := by
  unfold hCnt
  simp only
  rw [rdI_small (by omega)]
  simp only
  rw [if_neg (by omega)]
  simp
theorem hEv_enc {x : Ev} (hI : InE x) (hn : x.name.size ≤ 1000000000) (ha : x.args.length ≤ 16) (hv : ∀ v ∈ x.args, valV v = 0 ∧ (encV v).length ≤ 1000000000) (hr : valV x.res = 0 ∧ (encV x.res).length ≤ 1000000000) (rest : List Int) : hEv (encE x ++ rest, 0, false) = (x, rest, 0, false) := by
  have e1 := rdI_iv hI.k.1 hI.k.2
  have e2 := rdI_iv hI.c.1 hI.c.2
  have e3 := rdR_raw (bs := sb x.name) (by rw [sb_len]; omega)
  have hd : hHd (encE x ++ rest, 0, false) = (iv x.args.length ++ (rawVs x.args ++ (raw (encV x.res) ++ rest)), 0, false) := by
    unfold hHd encE
    simp only [List.append_assoc, e1, e2, e3]
  have hk : (rdI (encE x ++ rest) 0) = (x.kind, iv x.client ++ (raw (sb x.name) ++ (iv x.args.length ++ (rawVs x.args ++ (raw (encV x.res) ++ rest)))), 0) := by
    unfold encE
    simp only [List.append_assoc, e1]
  have hc := hCnt_enc (most := 16) ha (by omega) (rawVs x.args ++ (raw (encV x.res) ++ rest))
  have hc' : hCnt 16 (iv (x.args.length : Int) ++ (rawVs x.args ++ (raw (encV x.res) ++ rest)), 0, false) = (x.args.length, rawVs x.args ++ (raw (encV x.res) ++ rest), 0, false) := hc
  have haE := hArgs_enc x.args (fun v hv' => ⟨(hv v hv').1, hI.args v hv', (hv v hv').2⟩) (raw (encV x.res) ++ rest)
  have hvE := hVal_enc hr.1 hI.res hr.2 rest
  unfold hEv
  simp only [hd, hc', haE, hvE, hk, e2, e3, sb_strOf]
theorem hEvs_enc : ∀ (l : List Ev), (∀ x ∈ l, InE x ∧ x.name.size ≤ 1000000000 ∧ x.args.length ≤ 16 ∧ (∀ v ∈ x.args, valV v = 0 ∧ (encV v).length ≤ 1000000000) ∧ (valV x.res = 0 ∧ (encV x.res).length ≤ 1000000000)) → ∀ rest, hEvs l.length (encEs l ++ rest, 0, false) = (l, rest, 0, false) := by
  intro l
  induction l with
  | nil => intro _ rest; simp [hEvs, encEs]
  | cons v l ih =>
    intro h rest
    obtain ⟨h1, h2, h3, h4, h5⟩ := h v (by simp)
    have e := hEv_enc h1 h2 h3 h4 h5 (encEs l ++ rest)
    have e2 := ih (fun x hx => h x (by simp [hx])) rest
    simp only [List.length_cons, hEvs, encEs, List.append_assoc, e, e2]
    simp
end Go.Proofs.Ytcogpedfnnfnaaa
