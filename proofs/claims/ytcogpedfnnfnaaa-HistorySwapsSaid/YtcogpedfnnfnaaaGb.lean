/-
  The reference's Has, Begun, Linear, grow and Orders.
-/
import Derived.Test.YtcogpedfnnfnaaaGa
import Derived.Test.YtcogpedfnnfnaaaHh
namespace Go.Proofs.Ytcogpedfnnfnaaa
open Go.Rf Go.RowKit
set_option linter.unusedVariables false
set_option maxHeartbeats 8000000
attribute [local irreducible] Code.wp wpList Exit.then Exit.inBlock bodyPost A Calls execOp Addr.add

theorem hasR (o : List Int) (so : Value) (x : Int) (w : World) (ho : Src w so o.length (o.map (.int .i64))) (hob : o.length ≤ 1000000) :
    Calls Try.prog 58 #[so, .int .i64 x] w fun r w' => r = .returned (.bool (decide (x ∈ o))) ∧ w = w' := by
  obtain ⟨aw, cw, rfl, hcw, _⟩ := id ho
  refine enter Try.func58 rfl Try.ntmps58 rfl ?_
  refine rx ?_
  refine c_loopK 6 [5] (σ := Nat) (fun i g u => g 5 = .int .i64 i ∧ i ≤ o.length ∧ x ∉ o.take i ∧ w = u) (fun i => o.length - i) 0 ⟨rfl, Nat.zero_le _, by simp, rfl⟩ ?_
  rintro i g u ⟨h5, hi, hx, rfl⟩
  rw [eq_upd h5]
  by_cases hlt : i < o.length
  case neg =>
    refine rx ?_
    (apply ret1; exact rfl; (conv => lhs; whnf))
    rw [List.take_of_length_le (by omega)] at hx
    exact ⟨by rw [decide_eq_false hx], rfl⟩
  obtain ⟨y, hy⟩ : ∃ y, o[i]? = some y := ⟨_, List.getElem?_eq_getElem hlt⟩
  have hym : y ∈ o := List.mem_of_getElem? hy
  have htk : o.take (i + 1) = o.take i ++ [y] := by
    rw [List.take_succ_eq_append_getElem hlt]
    rw [List.getElem?_eq_getElem hlt] at hy
    simp only [Option.some.injEq] at hy
    rw [hy]
  obtain ⟨ad, rfl, hcell⟩ := src_at (j := i) (u := .int .i64 y) ho (by rw [List.getElem?_map, hy]; rfl)
  refine rx ?_
  rw [Nat.mul_one]
  refine s_load rfl hcell ?_
  by_cases hyx : y = x
  · refine rx ?_
    (apply ret1; exact rfl; (conv => lhs; whnf))
    exact ⟨by rw [decide_eq_true (hyx ▸ hym)], rfl⟩
  · refine rx ?_
    refine q_roundK (i + 1) (by (repeat (first | exact Keep.mrg _ _ _ _ | (refine Keep.hi rfl ?_) | (refine Keep.one rfl ?_) | exact Keep.all rfl | (refine Keep.inn rfl ?_) | (refine Keep.set rfl ?_)))) ⟨rfl, by omega, ?_, rfl⟩ (by omega)
    rw [htk, List.mem_append]
    rintro (h | h)
    · exact hx h
    · simp at h; exact hyx h.symm

set_option maxRecDepth 4000 in
theorem begunR (l : List Cl) (sl : Value) (o : List Int) (so : Value) (w : World) (hl : OcS w l sl) (ho : Src w so o.length (o.map (.int .i64))) (hb : l.length ≤ 1000000) (hob : o.length ≤ 1000000) :
    Calls Try.prog 59 #[sl, so] w fun r w' => ∃ b : Bool, r = .returned (.bool b) ∧ (b = true ↔ BegP l o) ∧ Fr [] w w' := by
  obtain ⟨ao, c, rfl, hc⟩ := Sl.slice hl
  obtain ⟨aw, cw, rfl, hcw, _⟩ := id ho
  refine enter Try.func59 rfl Try.ntmps59 rfl ?_
  have no : ∀ {u : World}, Fr [] w u → ¬ BegP l o → ∃ b : Bool, Ending.returned (.bool false) = .returned (.bool b) ∧ (b = true ↔ BegP l o) ∧ Fr [] w u := fun hf h => ⟨false, rfl, ⟨fun h => (by cases h), fun h' => absurd h' h⟩, hf⟩
  refine rx ?_
  refine c_loopK 11 [5, 6, 7] (σ := Nat) (fun i g u => g 5 = .int .i64 i ∧ i ≤ o.length ∧ (∀ x ∈ o.take i, 0 ≤ x ∧ x < l.length) ∧ (o.take i).Nodup ∧ (o.take i).Pairwise (fun a b => bf l b.toNat a.toNat = false) ∧ Fr [] w u)
    (fun i => o.length - i) 0 ⟨rfl, Nat.zero_le _, by simp, by simp, by simp, Fr.refl _ _⟩ ?_
  rintro i g u ⟨h5, hi, hin, hnd, hpw, hF⟩
  rw [eq_upd h5]
  by_cases hlt : i < o.length
  case pos =>
    obtain ⟨x, hx⟩ : ∃ x, o[i]? = some x := ⟨_, List.getElem?_eq_getElem hlt⟩
    have hxm : x ∈ o := List.mem_of_getElem? hx
    have htk : o.take (i + 1) = o.take i ++ [x] := by
      rw [List.take_succ_eq_append_getElem hlt]
      rw [List.getElem?_eq_getElem hlt] at hx
      simp only [Option.some.injEq] at hx
      rw [hx]
    obtain ⟨ad, rfl, hcell0⟩ := src_at (j := i) (u := .int .i64 x) ho (by rw [List.getElem?_map, hx]; rfl)
    have hci : ∀ q, Fr [] w q → q.cell? (ad.add (i * 1)) = some (.int .i64 x) := fun q hq => by
      obtain ⟨ad', e, h⟩ := src_at (j := i) (u := .int .i64 x) (ho.tr0 hq) (by rw [List.getElem?_map, hx]; rfl)
      simp only [Option.some.injEq] at e
      rw [Nat.mul_one, e]; exact h
    by_cases hx0 : x < 0
    · refine rx ?_
      refine s_load rfl (hci _ hF) ?_
      refine rx ?_
      (apply ret1; exact rfl; (conv => lhs; whnf))
      exact no hF (fun h => by have := (h.inn x hxm).1; omega)
    by_cases hxn : (l.length : Int) ≤ x
    · refine rx ?_
      refine s_load rfl (hci _ hF) ?_
      refine rx ?_
      refine s_load rfl (hci _ hF) ?_
      refine rx ?_
      (apply ret1; exact rfl; (conv => lhs; whnf))
      exact no hF (fun h => by have := (h.inn x hxm).2; omega)
    refine rx ?_
    refine s_load rfl (hci _ hF) ?_
    refine rx ?_
    refine s_load rfl (hci _ hF) ?_
    obtain ⟨j, rfl⟩ : ∃ j : Nat, x = j := ⟨x.toNat, by omega⟩
    have hjl : j < l.length := by omega
    refine rx ?_
    refine c_loopK 31 [6, 7] (σ := Nat) (fun k g u' => g 6 = .int .i64 k ∧ k ≤ i ∧ (j : Int) ∉ o.take k ∧ (∀ y ∈ o.take k, bf l j y.toNat = false) ∧ Fr [] w u') (fun k => i - k) 0 ⟨rfl, Nat.zero_le _, by simp, by simp, hF⟩ ?_
    rintro k g u2 ⟨h6, hk, hnm, hall, hF2⟩
    rw [eq_upd h6]
    by_cases hki : k < i
    case neg =>
      have : k = i := by omega
      subst this
      refine rx ?_
      refine q_roundK (k + 1) (by (repeat (first | exact Keep.mrg _ _ _ _ | (refine Keep.hi rfl ?_) | (refine Keep.one rfl ?_) | exact Keep.all rfl | (refine Keep.inn rfl ?_) | (refine Keep.set rfl ?_)))) ⟨rfl, by omega, ?_, ?_, ?_, hF2⟩ (by omega)
      · rw [htk]
        intro y hy
        rcases List.mem_append.1 hy with h | h
        · exact hin y h
        · simp at h; omega
      · rw [htk, List.nodup_append]
        refine ⟨hnd, by simp, ?_⟩
        intro a ha b hb' hab
        simp at hb'
        rw [hab, hb'] at ha
        exact hnm ha
      · rw [htk, List.pairwise_append]
        refine ⟨hpw, by simp, fun a ha b hb' => ?_⟩
        simp at hb'
        subst hb'
        exact hall a ha
    have hko : k < o.length := by omega
    obtain ⟨y, hy⟩ : ∃ y, o[k]? = some y := ⟨_, List.getElem?_eq_getElem hko⟩
    have hym : y ∈ o.take i := List.mem_of_getElem? (i := k) (by rw [List.getElem?_take, if_pos hki]; exact hy)
    have hyr := hin y hym
    obtain ⟨jy, rfl⟩ : ∃ jy : Nat, y = jy := ⟨y.toNat, by omega⟩
    have hjyl : jy < l.length := by omega
    have htm : o.take (k + 1) = o.take k ++ [(jy : Int)] := by
      rw [List.take_succ_eq_append_getElem hko]
      rw [List.getElem?_eq_getElem hko] at hy
      simp only [Option.some.injEq] at hy
      rw [hy]
    have hck : ∀ q, Fr [] w q → q.cell? (ad.add (k * 1)) = some (.int .i64 (jy : Int)) := fun q hq => by
      obtain ⟨ad', e, h⟩ := src_at (j := k) (u := .int .i64 (jy : Int)) (ho.tr0 hq) (by rw [List.getElem?_map, hy]; rfl)
      simp only [Option.some.injEq] at e
      rw [Nat.mul_one, e]; exact h
    obtain ⟨al, cs, rfl, ⟨sa, sr, rfl, _, _⟩, hcj⟩ := Sl.at (OcS.tr0 hl hF2) ocLen hjl
    obtain ⟨al', cs, e, ⟨sa', sr', rfl, _, _⟩, hcjy⟩ := Sl.at (OcS.tr0 hl hF2) ocLen hjyl
    simp only [Option.some.injEq] at e
    subst e
    refine rx ?_
    (refine d_begin (fun z => Fr [] u2 z) (by kernel_rfl) rfl ?_)
    have hS : Fr [] u2 u2.drew := Fr.drew _ _
    ((first | refine d_tx 0 hS ?_ | refine d_ty 0 hS ?_ | refine d_tn 0 hS ?_); (first | refine d_tx 1 hS ?_ | refine d_ty 1 hS ?_ | refine d_tn 1 hS ?_); (first | refine d_tx 2 hS ?_ | refine d_ty 2 hS ?_ | refine d_tn 2 hS ?_); (first | refine d_tx 3 hS ?_ | refine d_ty 3 hS ?_ | refine d_tn 3 hS ?_))
    (apply d_take (i := 4); exact rfl; kernel_rfl; kernel_rfl; kernel_rfl; (intro u hu; exact (r_load rfl (hci _ (hF2.trans0 hu)))); exact hS)
    ((first | refine d_tx 5 hS ?_ | refine d_ty 5 hS ?_ | refine d_tn 5 hS ?_); (first | refine d_tx 6 hS ?_ | refine d_ty 6 hS ?_ | refine d_tn 6 hS ?_); (first | refine d_tx 7 hS ?_ | refine d_ty 7 hS ?_ | refine d_tn 7 hS ?_); (first | refine d_tx 8 hS ?_ | refine d_ty 8 hS ?_ | refine d_tn 8 hS ?_); (first | refine d_tx 9 hS ?_ | refine d_ty 9 hS ?_ | refine d_tn 9 hS ?_); (first | refine d_tx 10 hS ?_ | refine d_ty 10 hS ?_ | refine d_tn 10 hS ?_))
    (apply d_take (i := 11); exact rfl; kernel_rfl; kernel_rfl; kernel_rfl; (intro u hu; exact (r_load rfl (hck _ (hF2.trans0 hu)))); exact hS)
    ((first | refine d_tx 12 hS ?_ | refine d_ty 12 hS ?_ | refine d_tn 12 hS ?_); (first | refine d_tx 13 hS ?_ | refine d_ty 13 hS ?_ | refine d_tn 13 hS ?_))
    refine d_one (i := 14) rfl (by kernel_rfl) ?_
    refine s_call (beforeR l[j] l[jy] sa sr sa' sr' _) rfl ?_
    rintro _ u3 ⟨rfl, hf3⟩
    refine ⟨_, rfl, ?_⟩
    have hS3 := hS.trans0 hf3
    refine wpList_nil (q_held hS3 ?_)
    (refine d_one (i := 15) rfl (by kernel_rfl) ?_; refine rx ?_; refine q_held hS3 ?_)
    (refine d_done (by kernel_rfl) ?_)
    have hF3 : Fr [] w u3 := hF2.trans0 hS3
    clear hcj hcjy
    refine rx ?_
    (refine d_begin (fun z => Fr [] u3 z) (by kernel_rfl) rfl ?_)
    have hT : Fr [] u3 u3.drew := Fr.drew _ _
    ((first | refine d_tx 0 hT ?_ | refine d_ty 0 hT ?_ | refine d_tn 0 hT ?_); (first | refine d_tx 1 hT ?_ | refine d_ty 1 hT ?_ | refine d_tn 1 hT ?_); (first | refine d_tx 2 hT ?_ | refine d_ty 2 hT ?_ | refine d_tn 2 hT ?_))
    (apply d_take (i := 3); exact rfl; kernel_rfl; kernel_rfl; kernel_rfl; (intro u hu; exact (r_load rfl (hci _ (hF3.trans0 hu)))); exact hT)
    ((first | refine d_tx 4 hT ?_ | refine d_ty 4 hT ?_ | refine d_tn 4 hT ?_); (first | refine d_tx 5 hT ?_ | refine d_ty 5 hT ?_ | refine d_tn 5 hT ?_); (first | refine d_tx 6 hT ?_ | refine d_ty 6 hT ?_ | refine d_tn 6 hT ?_))
    (apply d_take (i := 7); exact rfl; kernel_rfl; kernel_rfl; kernel_rfl; (intro u hu; exact (r_load rfl (hck _ (hF3.trans0 hu)))); exact hT)
    have hF4 : Fr [] w u3.drew := hF3.trans0 hT
    have hlate : bef l[j] l[jy] = true → ¬ BegP l o := fun hbf h => by
      have h1 : (o.take (i + 1)).Pairwise (fun a b => bf l b.toNat a.toNat = false) := h.pw.sublist (List.take_sublist _ _)
      rw [htk, List.pairwise_append] at h1
      have h2 := h1.2.2 (jy : Int) hym (j : Int) (by simp)
      rw [Int.toNat_natCast, Int.toNat_natCast, bf_eq hjl hjyl, hbf] at h2
      cases h2
    by_cases hjj : j = jy
    · ((first | refine d_tx 8 hT ?_ | refine d_ty 8 hT ?_ | refine d_tn 8 hT ?_); (first | refine d_tx 9 hT ?_ | refine d_ty 9 hT ?_ | refine d_tn 9 hT ?_); (first | refine d_tx 10 hT ?_ | refine d_ty 10 hT ?_ | refine d_tn 10 hT ?_); (first | refine d_tx 11 hT ?_ | refine d_ty 11 hT ?_ | refine d_tn 11 hT ?_))
      (refine d_done (by kernel_rfl) ?_)
      refine rx ?_
      (apply ret1; exact rfl; (conv => lhs; whnf))
      refine no hF4 (fun h => ?_)
      have h1 : (o.take (i + 1)).Nodup := h.nd.sublist (List.take_sublist _ _)
      rw [htk, List.nodup_append] at h1
      exact h1.2.2 (jy : Int) hym (j : Int) (by simp) (by rw [hjj])
    · ((first | refine d_tx 8 hT ?_ | refine d_ty 8 hT ?_ | refine d_tn 8 hT ?_); (first | refine d_tx 9 hT ?_ | refine d_ty 9 hT ?_ | refine d_tn 9 hT ?_))
      cases hbf : bef l[j] l[jy]
      case true =>
        ((first | refine d_tx 10 hT ?_ | refine d_ty 10 hT ?_ | refine d_tn 10 hT ?_); (first | refine d_tx 11 hT ?_ | refine d_ty 11 hT ?_ | refine d_tn 11 hT ?_))
        (refine d_done (by kernel_rfl) ?_)
        refine rx ?_
        (apply ret1; exact rfl; (conv => lhs; whnf))
        exact no hF4 (hlate hbf)
      case false =>
        ((first | refine d_tx 10 hT ?_ | refine d_ty 10 hT ?_ | refine d_tn 10 hT ?_); (first | refine d_tx 11 hT ?_ | refine d_ty 11 hT ?_ | refine d_tn 11 hT ?_))
        (refine d_done (by kernel_rfl) ?_)
        refine rx ?_
        refine q_roundK (k + 1) (by (repeat (first | exact Keep.mrg _ _ _ _ | (refine Keep.hi rfl ?_) | (refine Keep.one rfl ?_) | exact Keep.all rfl | (refine Keep.inn rfl ?_) | (refine Keep.set rfl ?_)))) ⟨rfl, by omega, ?_, ?_, hF4⟩ (by omega)
        · rw [htm, List.mem_append]
          rintro (h | h)
          · exact hnm h
          · simp at h; omega
        · rw [htm]
          intro y hy
          rcases List.mem_append.1 hy with h | h
          · exact hall y h
          · simp at h
            subst h
            rw [Int.toNat_natCast, bf_eq hjl hjyl]; exact hbf
  have hio : o.take i = o := List.take_of_length_le (by omega)
  rw [hio] at hin hnd hpw
  refine rx ?_
  refine c_loopK 63 [8, 9, 10] (σ := Nat) (fun i g u => g 8 = .int .i64 i ∧ i ≤ o.length ∧ (∀ x ∈ o.take i, ∀ k (h : k < l.length), bf l k x.toNat = true → l[k].fin ≠ -1 → (k : Int) ∈ o) ∧ Fr [] w u) (fun i => o.length - i) 0 ⟨rfl, Nat.zero_le _, by simp, hF⟩ ?_
  rintro i g u ⟨h8, hi, hed, hF⟩
  rw [eq_upd h8]
  by_cases hlt : i < o.length
  case neg =>
    refine rx ?_
    (apply ret1; exact rfl; (conv => lhs; whnf))
    rw [List.take_of_length_le (by omega)] at hed
    exact ⟨true, rfl, ⟨fun _ => ⟨hin, hnd, hpw, hed⟩, fun _ => rfl⟩, hF⟩
  obtain ⟨x, hx⟩ : ∃ x, o[i]? = some x := ⟨_, List.getElem?_eq_getElem hlt⟩
  have hxm : x ∈ o := List.mem_of_getElem? hx
  have hxr := hin x hxm
  obtain ⟨j, rfl⟩ : ∃ j : Nat, x = j := ⟨x.toNat, by omega⟩
  have hjl : j < l.length := by omega
  have htk : o.take (i + 1) = o.take i ++ [(j : Int)] := by
    rw [List.take_succ_eq_append_getElem hlt]
    rw [List.getElem?_eq_getElem hlt] at hx
    simp only [Option.some.injEq] at hx
    rw [hx]
  obtain ⟨ad, rfl, hcell0⟩ := src_at (j := i) (u := .int .i64 (j : Int)) ho (by rw [List.getElem?_map, hx]; rfl)
  have hci : ∀ q, Fr [] w q → q.cell? (ad.add (i * 1)) = some (.int .i64 (j : Int)) := fun q hq => by
    obtain ⟨ad', e, h⟩ := src_at (j := i) (u := .int .i64 (j : Int)) (ho.tr0 hq) (by rw [List.getElem?_map, hx]; rfl)
    simp only [Option.some.injEq] at e
    rw [Nat.mul_one, e]; exact h
  refine rx ?_
  refine c_loopK 69 [9, 10] (σ := Nat) (fun k g u => g 9 = .int .i64 k ∧ k ≤ l.length ∧ (∀ m (h : m < l.length), m < k → bf l m j = true → l[m].fin ≠ -1 → (m : Int) ∈ o) ∧ Fr [] w u) (fun k => l.length - k) 0 ⟨rfl, Nat.zero_le _, fun m _ h => by omega, hF⟩ ?_
  rintro k g u2 ⟨h9, hk, hall, hF2⟩
  rw [eq_upd h9]
  by_cases hkl : k < l.length
  case neg =>
    refine rx ?_
    refine q_roundK (i + 1) (by (repeat (first | exact Keep.mrg _ _ _ _ | (refine Keep.hi rfl ?_) | (refine Keep.one rfl ?_) | exact Keep.all rfl | (refine Keep.inn rfl ?_) | (refine Keep.set rfl ?_)))) ⟨rfl, by omega, ?_, hF2⟩ (by omega)
    rw [htk]
    intro x hx
    rcases List.mem_append.1 hx with h | h
    · exact hed x h
    · simp at h
      subst h
      intro m hm hb hf
      rw [Int.toNat_natCast] at hb
      exact hall m hm (by omega) hb hf
  have hnext : (bf l k j = true → l[k].fin ≠ -1 → (k : Int) ∈ o) → ∀ m (h : m < l.length), m < k + 1 → bf l m j = true → l[m].fin ≠ -1 → (m : Int) ∈ o := fun h m hm hmk hb hf => by
    by_cases hmk' : m < k
    · exact hall m hm hmk' hb hf
    · have : m = k := by omega
      subst this
      exact h hb hf
  obtain ⟨al, cs, rfl, ⟨sa, sr, rfl, _, _⟩, hcj⟩ := Sl.at (OcS.tr0 hl hF2) ocLen hjl
  obtain ⟨al', cs, e, ⟨sa', sr', rfl, _, _⟩, hck⟩ := Sl.at (OcS.tr0 hl hF2) ocLen hkl
  simp only [Option.some.injEq] at e
  subst e
  refine rx ?_
  (refine d_begin (fun z => Fr [] u2 z) (by kernel_rfl) rfl ?_)
  have hS : Fr [] u2 u2.drew := Fr.drew _ _
  ((first | refine d_tx 0 hS ?_ | refine d_ty 0 hS ?_ | refine d_tn 0 hS ?_); (first | refine d_tx 1 hS ?_ | refine d_ty 1 hS ?_ | refine d_tn 1 hS ?_); (first | refine d_tx 2 hS ?_ | refine d_ty 2 hS ?_ | refine d_tn 2 hS ?_); (first | refine d_tx 3 hS ?_ | refine d_ty 3 hS ?_ | refine d_tn 3 hS ?_); (first | refine d_tx 4 hS ?_ | refine d_ty 4 hS ?_ | refine d_tn 4 hS ?_); (first | refine d_tx 5 hS ?_ | refine d_ty 5 hS ?_ | refine d_tn 5 hS ?_); (first | refine d_tx 6 hS ?_ | refine d_ty 6 hS ?_ | refine d_tn 6 hS ?_); (first | refine d_tx 7 hS ?_ | refine d_ty 7 hS ?_ | refine d_tn 7 hS ?_))
  (apply d_take (i := 8); exact rfl; kernel_rfl; kernel_rfl; kernel_rfl; (intro u hu; exact (r_load rfl (hci _ (hF2.trans0 hu)))); exact hS)
  ((first | refine d_tx 9 hS ?_ | refine d_ty 9 hS ?_ | refine d_tn 9 hS ?_); (first | refine d_tx 10 hS ?_ | refine d_ty 10 hS ?_ | refine d_tn 10 hS ?_))
  refine d_one (i := 11) rfl (by kernel_rfl) ?_
  refine s_call (beforeR l[k] l[j] sa' sr' sa sr _) rfl ?_
  rintro _ u3 ⟨rfl, hf3⟩
  refine ⟨_, rfl, ?_⟩
  have hS3 := hS.trans0 hf3
  refine wpList_nil (q_held hS3 ?_)
  (refine d_one (i := 12) rfl (by kernel_rfl) ?_; refine rx ?_; refine q_held hS3 ?_)
  (refine d_done (by kernel_rfl) ?_)
  have hF3 : Fr [] w u3 := hF2.trans0 hS3
  have hck3 := hck.tr0 hS3
  clear hcj hck
  cases hbf : bef l[k] l[j]
  case false =>
    refine rx ?_
    refine q_roundK (k + 1) (by (repeat (first | exact Keep.mrg _ _ _ _ | (refine Keep.hi rfl ?_) | (refine Keep.one rfl ?_) | exact Keep.all rfl | (refine Keep.inn rfl ?_) | (refine Keep.set rfl ?_)))) ⟨rfl, by omega, hnext (fun h => ?_), hF3⟩ (by omega)
    rw [bf_eq hkl hjl, hbf] at h; cases h
  by_cases hfin : l[k].fin = -1
  · refine rx ?_
    exact q_roundK (k + 1) (by (repeat (first | exact Keep.mrg _ _ _ _ | (refine Keep.hi rfl ?_) | (refine Keep.one rfl ?_) | exact Keep.all rfl | (refine Keep.inn rfl ?_) | (refine Keep.set rfl ?_)))) ⟨rfl, by omega, hnext (fun _ h => absurd hfin h), hF3⟩ (by omega)
  refine rx ?_
  refine s_load rfl (hci _ hF3) ?_
  by_cases hkj : k = j
  · refine rx ?_
    exact q_roundK (k + 1) (by (repeat (first | exact Keep.mrg _ _ _ _ | (refine Keep.hi rfl ?_) | (refine Keep.one rfl ?_) | exact Keep.all rfl | (refine Keep.inn rfl ?_) | (refine Keep.set rfl ?_)))) ⟨rfl, by omega, hnext (fun _ _ => by rw [hkj]; exact hxm), hF3⟩ (by omega)
  refine rx ?_
  refine s_call (hasR o _ k u3 (ho.tr0 hF3) hob) rfl ?_
  rintro _ _ ⟨rfl, rfl⟩
  refine ⟨_, rfl, ?_⟩
  by_cases hm : (k : Int) ∈ o
  · rw [decide_eq_true hm]
    refine rx ?_
    exact q_roundK (k + 1) (by (repeat (first | exact Keep.mrg _ _ _ _ | (refine Keep.hi rfl ?_) | (refine Keep.one rfl ?_) | exact Keep.all rfl | (refine Keep.inn rfl ?_) | (refine Keep.set rfl ?_)))) ⟨rfl, by omega, hnext (fun _ _ => hm), hF3⟩ (by omega)
  · rw [decide_eq_false hm]
    refine rx ?_
    (apply ret1; exact rfl; (conv => lhs; whnf))
    refine no hF3 (fun h => hm (h.ed _ hxm k hkl ?_ hfin))
    rw [Int.toNat_natCast, bf_eq hkl hjl]; exact hbf

set_option maxRecDepth 4000 in
theorem linR (l : List Cl) (sl : Value) (o : List Int) (so : Value) (w : World) (hl : OcS w l sl) (ho : Src w so o.length (o.map (.int .i64))) (hb : l.length ≤ 1000000) (hob : o.length ≤ 1000000) :
    Calls Try.prog 33 #[sl, so] w fun r w' => ∃ b : Bool, r = .returned (.bool b) ∧ (b = true ↔ LinP l o) ∧ Fr [] w w' := by
  obtain ⟨ao, c, rfl, hc⟩ := Sl.slice hl
  obtain ⟨aw, cw, rfl, hcw, _⟩ := id ho
  refine enter Try.func33 rfl Try.ntmps33 rfl ?_
  refine rx ?_
  refine c_loopK 6 [5] (σ := Nat) (fun k g u => g 5 = .int .i64 k ∧ k ≤ l.length ∧ (∀ m (h : m < l.length), m < k → l[m].fin ≠ -1 → (m : Int) ∈ o) ∧ w = u) (fun k => l.length - k) 0 ⟨rfl, Nat.zero_le _, fun m _ h => by omega, rfl⟩ ?_
  rintro k g u ⟨h5, hk, hall, rfl⟩
  rw [eq_upd h5]
  by_cases hkl : k < l.length
  case neg =>
    refine rx ?_
    refine s_call (begunR l _ o _ w hl ho hb hob) rfl ?_
    rintro _ u ⟨b, rfl, hbb, hf⟩
    refine ⟨_, rfl, ?_⟩
    refine rx ?_
    (apply ret1; exact rfl; (conv => lhs; whnf))
    refine ⟨b, rfl, ?_, hf⟩
    rw [hbb, lin_beg]
    exact ⟨fun h => ⟨fun m hm => hall m hm (by omega), h⟩, fun h => h.2⟩
  have hnext : (l[k].fin ≠ -1 → (k : Int) ∈ o) → ∀ m (h : m < l.length), m < k + 1 → l[m].fin ≠ -1 → (m : Int) ∈ o := fun h m hm hmk hf => by
    by_cases hmk' : m < k
    · exact hall m hm hmk' hf
    · have : m = k := by omega
      subst this
      exact h hf
  obtain ⟨al, cs, rfl, ⟨sa, sr, rfl, _, _⟩, hcj⟩ := Sl.at hl ocLen hkl
  by_cases hfin : l[k].fin = -1
  · refine rx ?_
    exact q_roundK (k + 1) (by (repeat (first | exact Keep.mrg _ _ _ _ | (refine Keep.hi rfl ?_) | (refine Keep.one rfl ?_) | exact Keep.all rfl | (refine Keep.inn rfl ?_) | (refine Keep.set rfl ?_)))) ⟨rfl, by omega, hnext (fun h => absurd hfin h), rfl⟩ (by omega)
  refine rx ?_
  refine s_call (hasR o _ k w ho hob) rfl ?_
  rintro _ _ ⟨rfl, rfl⟩
  refine ⟨_, rfl, ?_⟩
  by_cases hm : (k : Int) ∈ o
  · rw [decide_eq_true hm]
    refine rx ?_
    exact q_roundK (k + 1) (by (repeat (first | exact Keep.mrg _ _ _ _ | (refine Keep.hi rfl ?_) | (refine Keep.one rfl ?_) | exact Keep.all rfl | (refine Keep.inn rfl ?_) | (refine Keep.set rfl ?_)))) ⟨rfl, by omega, hnext (fun _ => hm), rfl⟩ (by omega)
  · rw [decide_eq_false hm]
    refine rx ?_
    (apply ret1; exact rfl; (conv => lhs; whnf))
    exact ⟨false, rfl, ⟨fun h => (by cases h), fun h => absurd (h.all k hkl hfin) hm⟩, Fr.refl _ _⟩
end Go.Proofs.Ytcogpedfnnfnaaa
