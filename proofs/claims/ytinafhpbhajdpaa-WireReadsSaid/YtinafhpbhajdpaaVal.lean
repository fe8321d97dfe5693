/-
  The values of the wire laws (refuterref02.Val): how they lie in memory; write and encode of the law package, Encode of the reference.
-/
import Derived.Test.YtinafhpbhajdpaaRf2
namespace Go.Proofs.Ytinafhpbhajdpaa
set_option linter.unusedVariables false
open Go.Rf Go.RowKit
attribute [local irreducible] Code.wp wpList Exit.then Exit.inBlock bodyPost A Calls

structure Val where
  kind : Int
  u : Nat
  n : Int
  b : List Int
  l : List Int
/-- the specified encoding -/
def Val.enc (v : Val) : List Int :=
  if v.kind = 0 then uv v.u else if v.kind = 1 then iv v.n else if v.kind = 2 then [if v.n = 1 then 1 else 0] else if v.kind = 3 ∨ v.kind = 4 then raw v.b else ints v.l
structure Val.Ok (v : Val) : Prop where
  kind : InI64 v.kind
  u : v.u < 18446744073709551616
  n : InI64 v.n
  b : Bys v.b
  l : ∀ n ∈ v.l, InI64 n
  bl : v.b.length ≤ 1000000
  ll : v.l.length ≤ 1000000
theorem Val.Ok.enc_len {v : Val} (h : v.Ok) : v.enc.length ≤ 20000000 := by
  have h1 := uv_len v.u h.u
  have h2 := iv_len h.n.1 h.n.2
  have h3 := uv_len v.b.length (by have := h.bl; omega)
  have h4 := uv_len v.l.length (by have := h.ll; omega)
  have h5 := flatMap_iv_len v.l h.l
  have h6 := h.bl
  have h7 := h.ll
  unfold Val.enc
  repeat' split
  all_goals (try simp only [raw, ints, List.length_append, List.length_singleton])
  all_goals omega
/-- the cells of a value -/
def vcells (v : Val) (vb vl : Value) : List Value := [.int .i64 v.kind, .int .u64 v.u, .int .i64 v.n, vb, vl]
/-- the value's bytes and list, off the blocks S -/
structure IsVal (w : World) (S : List Nat) (v : Val) (vb vl : Value) : Prop where
  ok : v.Ok
  b : Src w vb v.b.length (v.b.map (.int .u8))
  l : Src w vl v.l.length (v.l.map (.int .i64))
  ob : Off vb (v.b.map (.int .u8)) S
  ol : Off vl (v.l.map (.int .i64)) S
theorem IsVal.tr {w w' : World} {S : List Nat} {v : Val} {vb vl : Value} (h : IsVal w S v vb vl) (hf : Fr S w w') : IsVal w' S v vb vl := ⟨h.ok, h.b.tr hf h.ob, h.l.tr hf h.ol, h.ob, h.ol⟩
theorem IsVal.tr0 {w w' : World} {S : List Nat} {v : Val} {vb vl : Value} (h : IsVal w S v vb vl) (hf : Fr [] w w') : IsVal w' S v vb vl := ⟨h.ok, h.b.tr0 hf, h.l.tr0 hf, h.ob, h.ol⟩
theorem IsVal.mono {w : World} {S T : List Nat} {v : Val} {vb vl : Value} (h : IsVal w S v vb vl) (hT : ∀ k ∈ T, k ∈ S ∨ w.heap.size ≤ k) : IsVal w T v vb vl := ⟨h.ok, h.b, h.l, Off.mono h.b h.ob hT, Off.mono h.l h.ol hT⟩

theorem IsW.new' {w : World} {p : Nat} (h : Blk w p [.slice none 0 0] 26) : IsW w p (.slice none 0 0) [] := ⟨h, Own.nil _ _ _⟩

theorem strOf_sb {bs : List Int} (h : Bys bs) : sb (strOf bs) = bs := by
  unfold sb strOf
  simp only [List.map_map]
  conv => rhs; rw [← List.map_id bs]
  apply List.map_congr_left
  intro b hb
  have := h b hb
  simp only [Function.comp, id]
  rw [UInt8.toNat_ofNat']
  omega
theorem strOf_size (bs : List Int) : (strOf bs).size = bs.length := by simp [strOf, ByteArray.size]

theorem lawWrite (p : Nat) (v vb vl : Value) (bs : List Int) (x : Val) (w : World) (hw : IsW w p v bs) (hx : IsVal w (p :: blks v) x vb vl) (hl : bs.length ≤ 1000000000) :
    Calls Try.prog 21 #[.pointer (some ⟨p, 0, none⟩), .agg (vcells x vb vl).toArray] w fun e w' => e = .returned (.tuple #[]) ∧ WStep p w v (bs ++ x.enc) w' := by
  obtain ⟨hok, hb, hl', hob, hol⟩ := hx
  have e1 := hok.bl
  have e2 := hok.ll
  refine enter Try.func21 rfl Try.ntmps21 rfl ?_
  refine rn ?_
  refine s_box rfl rfl (fun w1 hb1 hf1 hs1 => ?_)
  have hw1 : IsW w1 p v bs := ⟨hw.1.tr0 hf1, hw.2.tr0 hf1⟩
  have fin : ∀ w2 cs, WStep p w1 v cs w2 → WStep p w v cs w2 := fun w2 cs h => WStep.trans (hf1.mono (by simp)) (fun k hk => .inl hk) h
  unfold Val.enc
  by_cases k0 : x.kind = 0
  · rw [if_pos k0]
    refine rn ?_
    refine s_call (wUint p v bs x.u w1 hok.u hw1 (by omega)) rfl ?_
    rintro _ w2 ⟨rfl, hs⟩
    refine ⟨_, rfl, ?_⟩
    refine rn ?_
    exact end0 rfl ⟨rfl, fin _ _ hs⟩
  rw [if_neg k0]
  by_cases k1 : x.kind = 1
  · rw [if_pos k1]
    refine rn ?_
    refine s_call (wInt p v bs x.n w1 hok.n.1 hok.n.2 hw1 (by omega)) rfl ?_
    rintro _ w2 ⟨rfl, hs⟩
    refine ⟨_, rfl, ?_⟩
    refine rn ?_
    exact end0 rfl ⟨rfl, fin _ _ hs⟩
  rw [if_neg k1]
  by_cases k2 : x.kind = 2
  · rw [if_pos k2]
    refine rn ?_
    refine s_run (r_eql rfl rfl rfl) ?_
    refine s_call (wBool p v bs (decide (x.n = 1)) w1 hw1 (by omega)) rfl ?_
    rintro _ w2 ⟨rfl, hs⟩
    refine ⟨_, rfl, ?_⟩
    refine rn ?_
    exact end0 rfl ⟨rfl, fin _ _ (by simpa using hs)⟩
  rw [if_neg k2]
  by_cases k3 : x.kind = 3
  · rw [if_pos (.inl k3)]
    obtain ⟨ao, c, hve, _⟩ := id hb
    subst hve
    refine rn ?_
    refine s_toStr (hb.tr0 hf1) rfl rfl ?_
    refine s_call (wText p v bs (strOf x.b) w1 hw1 (by omega) (by rw [strOf_size]; omega)) rfl ?_
    rintro _ w2 ⟨rfl, hs⟩
    refine ⟨_, rfl, ?_⟩
    rw [strOf_sb hok.b] at hs
    refine rn ?_
    exact end0 rfl ⟨rfl, fin _ _ hs⟩
  by_cases k4 : x.kind = 4
  · rw [if_pos (.inr k4)]
    refine rn ?_
    refine s_call (wRaw p v vb bs x.b w1 (hb.tr0 hf1) hob hw1 (by omega) (by omega)) rfl ?_
    rintro _ w2 ⟨rfl, hs⟩
    refine ⟨_, rfl, ?_⟩
    refine rn ?_
    exact end0 rfl ⟨rfl, fin _ _ hs⟩
  rw [if_neg (by omega)]
  refine rn ?_
  refine s_call (wInts p v vl bs x.l w1 (hl'.tr0 hf1) hol hok.l hw1 (by omega) (by omega)) rfl ?_
  rintro _ w2 ⟨rfl, hs⟩
  refine ⟨_, rfl, ?_⟩
  refine rn ?_
  exact end0 rfl ⟨rfl, fin _ _ hs⟩

/-! ### slices of values -/
def vcs (T : List (Val × Value × Value)) : List Value := T.flatMap fun t => vcells t.1 t.2.1 t.2.2
def encs (T : List (Val × Value × Value)) : List Int := T.flatMap fun t => t.1.enc
theorem vcs_len (T : List (Val × Value × Value)) : (vcs T).length = T.length * 5 := by
  induction T with
  | nil => rfl
  | cons t T ih => simp only [vcs, List.flatMap_cons, List.length_append, List.length_cons] at ih ⊢; rw [ih]; simp [vcells]; omega
theorem vcs_get : ∀ (T : List (Val × Value × Value)) (i j : Nat) (h : i < T.length), j < 5 → (vcs T)[i * 5 + j]? = (vcells T[i].1 T[i].2.1 T[i].2.2)[j]?
  | [], i, j, h, _ => by simp at h
  | t :: T, 0, j, h, hj => by
    simp only [vcs, List.flatMap_cons, Nat.zero_mul, Nat.zero_add]
    rw [List.getElem?_append_left (by simp [vcells]; omega)]; rfl
  | t :: T, i + 1, j, h, hj => by
    simp only [vcs, List.flatMap_cons]
    rw [List.getElem?_append_right (by simp [vcells]; omega)]
    have := vcs_get T i j (by simpa using h) hj
    have e : (i + 1) * 5 + j - (vcells t.1 t.2.1 t.2.2).length = i * 5 + j := by simp [vcells]; omega
    rw [e]; exact this
theorem vcs_take : ∀ (T : List (Val × Value × Value)) (k : Nat), k ≤ T.length → vcs (T.take k) = (vcs T).take (k * 5)
  | T, 0, _ => by simp [vcs]
  | [], k + 1, h => by simp at h
  | t :: T, k + 1, h => by
    have ih := vcs_take T k (by simpa using h)
    simp only [vcs, List.take_succ_cons, List.flatMap_cons] at ih ⊢
    rw [ih, List.take_append]
    have e1 : (vcells t.1 t.2.1 t.2.2).take ((k + 1) * 5) = vcells t.1 t.2.1 t.2.2 := List.take_of_length_le (by simp [vcells]; omega)
    have e2 : (k + 1) * 5 - (vcells t.1 t.2.1 t.2.2).length = k * 5 := by simp [vcells]; omega
    rw [e1, e2]
theorem src_val {w : World} {ao : Option Addr} {m c i : Nat} {T : List (Val × Value × Value)} (h : Src w (.slice ao m c) m (vcs T)) (hi : i < T.length) :
    ∃ ad, ao = some ad ∧ ∀ j u, (vcells T[i].1 T[i].2.1 T[i].2.2)[j]? = some u → w.cell? ((ad.add (i * 5)).add j) = some u := by
  obtain ⟨ao', c', e, _, hn, hc⟩ := h
  simp only [Value.slice.injEq] at e
  obtain ⟨rfl, _, rfl⟩ := e
  cases ao with
  | none =>
    obtain ⟨_, _, h0⟩ := hn rfl
    have := vcs_len T
    rw [h0] at this; simp at this; omega
  | some ad =>
    refine ⟨ad, rfl, fun j u hu => ?_⟩
    have hj : j < 5 := by have := (List.getElem?_eq_some_iff.1 hu).1; simpa [vcells] using this
    rw [add_add]
    exact hc ad rfl _ u (by rw [vcs_get T i j hi hj]; exact hu)
theorem vcs_one (T : List (Val × Value × Value)) {w : World} {S : List Nat} (h : ∀ t ∈ T, IsVal w S t.1 t.2.1 t.2.2) : ∀ u ∈ vcs T, u.oneCell' = true := by
  intro u hu
  obtain ⟨t, ht, hu⟩ := List.mem_flatMap.1 hu
  have := h t ht
  simp only [vcells, List.mem_cons, List.not_mem_nil, or_false] at hu
  rcases hu with rfl | rfl | rfl | rfl | rfl
  · rfl
  · rfl
  · rfl
  · exact this.b.one
  · exact this.l.one
theorem encs_len (T : List (Val × Value × Value)) (h : ∀ t ∈ T, t.1.Ok) : (encs T).length ≤ 20000000 * T.length := by
  induction T with
  | nil => simp [encs]
  | cons t T ih =>
    have h1 := (h t (by simp)).enc_len
    have h2 := ih (fun t ht => h t (by simp [ht]))
    simp only [encs, List.flatMap_cons, List.length_append, List.length_cons] at h2 ⊢; omega
theorem encs_snoc (T : List (Val × Value × Value)) (i : Nat) (hi : i < T.length) : encs (T.take (i + 1)) = encs (T.take i) ++ T[i].1.enc := by
  unfold encs
  rw [List.take_succ_eq_append_getElem hi, List.flatMap_append]
  simp only [List.flatMap_cons, List.flatMap_nil, List.append_nil]

theorem refEncode (x : Value) (T : List (Val × Value × Value)) (w : World) (hx : Src w x T.length (vcs T)) (hT : ∀ t ∈ T, IsVal w [] t.1 t.2.1 t.2.2) (hl : T.length ≤ 100) :
    Calls Try.prog 23 #[x] w fun e w' => ∃ v', e = .returned v' ∧ Out w w' v' (encs T) := by
  obtain ⟨ao, c, hxe, _⟩ := id hx
  subst hxe
  refine enter Try.func23 rfl Try.ntmps23 rfl ?_
  refine rn ?_
  refine c_loopK 5 [3, 4] (σ := Nat × Value) (fun s g u => g 3 = s.2 ∧ g 4 = .int .i64 s.1 ∧ s.1 ≤ T.length ∧ Out w u s.2 (encs (T.take s.1)))
    (fun s => T.length - s.1) (0, .slice none 0 0) ⟨rfl, rfl, Nat.zero_le _, Out.nil w⟩ ?_
  rintro ⟨i, vo⟩ g u ⟨h3, h4, hi, hou⟩
  simp only at h3 h4 hi hou
  rw [eq_upd h4, eq_upd h3]
  refine rn ?_
  refine s_lss rfl rfl (fun h => ?_) (fun h => ?_)
  · have hlt : i < T.length := by omega
    obtain ⟨ad, ha, hcell⟩ := src_val (i := i) (hx.tr0 hou.2.1) hlt
    have hv := (hT T[i] (by simp)).tr0 hou.2.1
    have hle := encs_len (T.take i) (fun t ht => (hT t (List.mem_of_mem_take ht)).ok)
    rw [List.length_take] at hle
    have hen := hv.ok.enc_len
    have hsn := encs_snoc T i hlt
    generalize T[i] = t at hcell hv hsn hen
    obtain ⟨xv, xb, xl⟩ := t
    simp only at hcell hv hsn hen
    have hbl := hv.ok.bl
    have hll := hv.ok.ll
    refine rn ?_
    refine s_indexAddr rfl rfl rfl hlt ha ?_
    refine rn ?_
    refine s_load rfl (hcell 0 _ rfl) ?_
    unfold Val.enc at hsn hen
    by_cases k0 : xv.kind = 0
    · rw [if_pos k0] at hsn hen
      refine rn ?_
      refine s_indexAddr rfl rfl rfl hlt ha ?_
      refine rn ?_
      refine s_load rfl (hcell 1 _ rfl) ?_
      refine s_call (refUint xv.u u hv.ok.u) rfl ?_
      rintro _ w2 ⟨v2, rfl, h2⟩
      refine ⟨_, rfl, ?_⟩
      refine s_append (hou.1.tr0 h2.2.1) rfl h2.1.src rfl (by simp) (ints_one _ _) (by unfold maxLen; omega) (by omega) (fun v3 w3 ho3 hf3 hk3 _ => ?_)
      have hfin := hou.app h2.2.1 ho3 hf3 hk3
      rw [← hsn] at hfin
      refine rn ?_
      exact q_roundK (i + 1, v3) (by (repeat (first | exact Keep.mrg _ _ _ _ | (refine Keep.hi rfl ?_) | (refine Keep.one rfl ?_) | exact Keep.all rfl | (refine Keep.set rfl ?_)))) ⟨rfl, rfl, by simp only; omega, hfin⟩ (by simp only; omega)
    rw [if_neg k0] at hsn hen
    by_cases k1 : xv.kind = 1
    · rw [if_pos k1] at hsn hen
      refine rn ?_
      refine s_indexAddr rfl rfl rfl hlt ha ?_
      refine rn ?_
      refine s_load rfl (hcell 2 _ rfl) ?_
      refine s_call (refInt xv.n u hv.ok.n) rfl ?_
      rintro _ w2 ⟨v2, rfl, h2⟩
      refine ⟨_, rfl, ?_⟩
      refine s_append (hou.1.tr0 h2.2.1) rfl h2.1.src rfl (by simp) (ints_one _ _) (by unfold maxLen; omega) (by omega) (fun v3 w3 ho3 hf3 hk3 _ => ?_)
      have hfin := hou.app h2.2.1 ho3 hf3 hk3
      rw [← hsn] at hfin
      refine rn ?_
      exact q_roundK (i + 1, v3) (by (repeat (first | exact Keep.mrg _ _ _ _ | (refine Keep.hi rfl ?_) | (refine Keep.one rfl ?_) | exact Keep.all rfl | (refine Keep.set rfl ?_)))) ⟨rfl, rfl, by simp only; omega, hfin⟩ (by simp only; omega)
    rw [if_neg k1] at hsn hen
    by_cases k2 : xv.kind = 2
    · rw [if_pos k2] at hsn hen
      refine rn ?_
      refine s_indexAddr rfl rfl rfl hlt ha ?_
      refine rn ?_
      refine s_load rfl (hcell 2 _ rfl) ?_
      refine s_run (r_eql rfl rfl rfl) ?_
      have hbb : (if decide (xv.n = 1) = true then (1 : Int) else 0) = if xv.n = 1 then 1 else 0 := by simp
      rw [← hbb] at hsn hen
      refine s_call (refBool (decide (xv.n = 1)) u) rfl ?_
      rintro _ w2 ⟨v2, rfl, h2⟩
      refine ⟨_, rfl, ?_⟩
      refine s_append (hou.1.tr0 h2.2.1) rfl h2.1.src rfl (by simp) (ints_one _ _) (by unfold maxLen; omega) (by omega) (fun v3 w3 ho3 hf3 hk3 _ => ?_)
      have hfin := hou.app h2.2.1 ho3 hf3 hk3
      rw [← hsn] at hfin
      refine rn ?_
      exact q_roundK (i + 1, v3) (by (repeat (first | exact Keep.mrg _ _ _ _ | (refine Keep.hi rfl ?_) | (refine Keep.one rfl ?_) | exact Keep.all rfl | (refine Keep.set rfl ?_)))) ⟨rfl, rfl, by simp only; omega, hfin⟩ (by simp only; omega)
    rw [if_neg k2] at hsn hen
    by_cases k3 : xv.kind = 3 ∨ xv.kind = 4
    · rw [if_pos k3] at hsn hen
      rcases k3 with k3 | k3
      all_goals
        refine rn ?_
        refine s_indexAddr rfl rfl rfl hlt ha ?_
        refine rn ?_
        refine s_load rfl (hcell 3 _ rfl) ?_
        refine s_call (refRaw xb xv.b u hv.b (by omega)) rfl ?_
        rintro _ w2 ⟨v2, rfl, h2⟩
        refine ⟨_, rfl, ?_⟩
        refine s_append (hou.1.tr0 h2.2.1) rfl h2.1.src rfl (by simp) (ints_one _ _) (by unfold maxLen; omega) (by omega) (fun v3 w3 ho3 hf3 hk3 _ => ?_)
        have hfin := hou.app h2.2.1 ho3 hf3 hk3
        rw [← hsn] at hfin
        refine rn ?_
        exact q_roundK (i + 1, v3) (by (repeat (first | exact Keep.mrg _ _ _ _ | (refine Keep.hi rfl ?_) | (refine Keep.one rfl ?_) | exact Keep.all rfl | (refine Keep.set rfl ?_)))) ⟨rfl, rfl, by simp only; omega, hfin⟩ (by simp only; omega)
    rw [if_neg k3] at hsn hen
    refine rn ?_
    refine s_indexAddr rfl rfl rfl hlt ha ?_
    refine rn ?_
    refine s_load rfl (hcell 4 _ rfl) ?_
    refine s_call (refInts xl xv.l u hv.l hv.ok.l (by omega)) rfl ?_
    rintro _ w2 ⟨v2, rfl, h2⟩
    refine ⟨_, rfl, ?_⟩
    refine s_append (hou.1.tr0 h2.2.1) rfl h2.1.src rfl (by simp) (ints_one _ _) (by unfold maxLen; omega) (by omega) (fun v3 w3 ho3 hf3 hk3 _ => ?_)
    have hfin := hou.app h2.2.1 ho3 hf3 hk3
    rw [← hsn] at hfin
    refine rn ?_
    exact q_roundK (i + 1, v3) (by (repeat (first | exact Keep.mrg _ _ _ _ | (refine Keep.hi rfl ?_) | (refine Keep.one rfl ?_) | exact Keep.all rfl | (refine Keep.set rfl ?_)))) ⟨rfl, rfl, by simp only; omega, hfin⟩ (by simp only; omega)
  · refine rn ?_
    (apply ret1; exact rfl; (conv => lhs; whnf))
    refine ⟨vo, rfl, ?_⟩
    rw [List.take_of_length_le (by omega)] at hou
    exact hou

theorem lawEncode (x : Value) (T : List (Val × Value × Value)) (w : World) (hx : Src w x T.length (vcs T)) (hT : ∀ t ∈ T, IsVal w [] t.1 t.2.1 t.2.2) (hl : T.length ≤ 50) :
    Calls Try.prog 37 #[x] w fun e w' => ∃ v', e = .returned v' ∧ Out w w' v' (encs T) := by
  obtain ⟨ao, c, hxe, _⟩ := id hx
  subst hxe
  refine enter Try.func37 rfl Try.ntmps37 rfl ?_
  refine rn ?_
  refine s_alloc rfl (fun w0 hb0 hf0 hs0 => ?_)
  have hw0 := IsW.new' hb0
  obtain ⟨p, hp⟩ : ∃ p, w.heap.size = p := ⟨_, rfl⟩
  rw [hp] at hb0 hw0 hs0 ⊢
  refine rn ?_
  refine c_loopK 5 [4] (σ := Nat × Value) (fun s g u => g 4 = .int .i64 s.1 ∧ s.1 ≤ T.length ∧ IsW u p s.2 (encs (T.take s.1)) ∧ (∀ k ∈ blks s.2, p ≤ k) ∧ Fr [] w u)
    (fun s => T.length - s.1) (0, .slice none 0 0) ⟨rfl, Nat.zero_le _, hw0, by simp [blks, Value.ownBlock], hf0⟩ ?_
  rintro ⟨i, vo⟩ g u ⟨h4, hi, hwu, hku, hfu⟩
  simp only at h4 hi hwu hku
  rw [eq_upd h4]
  have hle := encs_len (T.take i) (fun t ht => (hT t (List.mem_of_mem_take ht)).ok)
  rw [List.length_take] at hle
  refine rn ?_
  refine s_lss rfl rfl (fun h => ?_) (fun h => ?_)
  · have hlt : i < T.length := by omega
    obtain ⟨ad, ha, hcell⟩ := src_val (i := i) (hx.tr0 hfu) hlt
    have hv : IsVal u (p :: blks vo) T[i].1 T[i].2.1 T[i].2.2 := ((hT T[i] (by simp)).mono (T := p :: blks vo) (by
      intro k hk
      rcases List.mem_cons.1 hk with rfl | h
      · exact .inr (by omega)
      · exact .inr (by rw [hp]; exact hku k h))).tr0 hfu
    have hsn := encs_snoc T i hlt
    refine rn ?_
    refine s_indexAddr rfl rfl rfl hlt ha ?_
    refine s_loadAgg (vcells T[i].1 T[i].2.1 T[i].2.2) rfl rfl hcell ?_
    refine s_call (lawWrite p vo _ _ _ T[i].1 u hwu hv (by omega)) rfl ?_
    rintro _ w2 ⟨rfl, v2, hw2, hf2, hk2⟩
    refine ⟨_, rfl, ?_⟩
    refine rn ?_
    refine q_roundK (i + 1, v2) (by (repeat (first | exact Keep.mrg _ _ _ _ | (refine Keep.hi rfl ?_) | (refine Keep.one rfl ?_) | exact Keep.all rfl | (refine Keep.set rfl ?_)))) ⟨rfl, by simp only; omega, by simp only; rw [hsn]; exact hw2, ?_, ?_⟩ (by simp only; omega)
    · intro k hk
      have := hfu.size
      rcases hk2 k hk with h | h
      · exact hku k h
      · omega
    · refine hfu.trans hf2 (fun k hk => .inr ?_)
      rcases List.mem_cons.1 hk with rfl | h
      · omega
      · rw [hp]; exact hku k h
  · rw [List.take_of_length_le (by omega)] at hwu
    have hle2 := encs_len T (fun t ht => (hT t ht).ok)
    refine rn ?_
    refine s_call (wDone p vo _ u hwu (by omega)) rfl ?_
    rintro _ w2 ⟨v2, rfl, ho2, hf2, hk2, _⟩
    refine ⟨_, rfl, ?_⟩
    refine rn ?_
    (apply ret1; exact rfl; (conv => lhs; whnf))
    have := hfu.size
    exact ⟨v2, rfl, ho2, hfu.trans0 hf2, fun k hk => by have := hk2 k hk; omega⟩
end Go.Proofs.Ytinafhpbhajdpaa
