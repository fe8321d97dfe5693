/-
  Package tree: Trim. The reference's Trim. For every input TreeTrims returns true.
-/
import Derived.Test.YtpochcchekoonaaGreatW1
import Derived.Test.YtpochcchekoonaaGreatO3
import Derived.Test.YtpochcchekoonaaGreatMp
namespace Go.Proofs.YtpochcchekoonaaGreat
open Go.Rf Go.RowKit
set_option linter.unusedVariables false
set_option linter.unusedSimpArgs false
/-! ### marks -/
def RS (t : List Nd) (i : Nat) (bs : List Bool) : Prop := bs.length = t.length ∧ ∀ q (h : q < bs.length), bs[q] = true ↔ (i ≤ q ∧ q + 1 = t.length) ∨ ∃ j, ∃ hj : j < t.length, i ≤ j ∧ rchB t j = true ∧ (q : Int) ∈ t[j].kids
def RK (t : List Nd) (m : Nat) (hm : m < t.length) (c : Nat) (bs : List Bool) : Prop := bs.length = t.length ∧ ∀ q (h : q < bs.length), bs[q] = true ↔ (m ≤ q ∧ q + 1 = t.length) ∨ (∃ j, ∃ hj : j < t.length, m + 1 ≤ j ∧ rchB t j = true ∧ (q : Int) ∈ t[j].kids) ∨ (rchB t m = true ∧ (q : Int) ∈ t[m].kids.take c)
theorem RS.zero (t : List Nd) : RS t t.length (List.replicate t.length false) := by
  refine ⟨by simp, fun q h => ?_⟩
  simp only [List.length_replicate] at h
  simp only [List.getElem_replicate, Bool.false_eq_true, false_iff]
  rintro (⟨h1, _⟩ | ⟨j, hj, h1, _⟩) <;> omega
theorem RS.own {t : List Nd} {m : Nat} {bs : List Bool} (hm : m < t.length) (h : RS t (m + 1) bs) (hmb : m < bs.length) : (bs[m] = true ∨ m + 1 = t.length) ↔ rchB t m = true := by
  rw [h.2 m hmb, rchB_iff]
  constructor
  · rintro ((⟨h1, h2⟩ | ⟨j, hj, h1, h2, h3⟩) | h1)
    · omega
    · exact .inr ⟨j, hj, by omega, h2, h3⟩
    · exact .inl h1
  · rintro (h1 | ⟨j, hj, h1, h2, h3⟩)
    · exact .inr h1
    · exact .inl (.inr ⟨j, hj, by omega, h2, h3⟩)
theorem RS.first {t : List Nd} {m : Nat} {bs : List Bool} (hm : m < t.length) (h : RS t (m + 1) bs) : RK t m hm 0 (bs.set m (rchB t m)) := by
  refine ⟨by rw [List.length_set]; exact h.1, fun q hq => ?_⟩
  rw [List.length_set] at hq
  have hl := h.1
  by_cases e : q = m
  · subst e
    rw [List.getElem_set_self, rchB_iff]
    simp only [List.take_zero, List.not_mem_nil, and_false, or_false]
    constructor
    · rintro (h1 | ⟨j, hj, h1, h2, h3⟩)
      · exact .inl ⟨Nat.le_refl _, h1⟩
      · exact .inr ⟨j, hj, by omega, h2, h3⟩
    · rintro (h1 | ⟨j, hj, h1, h2, h3⟩)
      · exact .inl h1.2
      · exact .inr ⟨j, hj, by omega, h2, h3⟩
  · rw [List.getElem_set_ne (fun h => e h.symm), h.2 q hq]
    simp only [List.take_zero, List.not_mem_nil, and_false, or_false]
    constructor
    · rintro (⟨h1, h2⟩ | h1)
      · exact .inl ⟨by omega, h2⟩
      · exact .inr h1
    · rintro (⟨h1, h2⟩ | h1)
      · exact .inl ⟨by omega, h2⟩
      · exact .inr h1
theorem RK.self {t : List Nd} {m c : Nat} {bs : List Bool} {hm : m < t.length} (hv : VT t) (h : RK t m hm c bs) (hmb : m < bs.length) : bs[m] = rchB t m := by
  have key : bs[m] = true ↔ rchB t m = true := by
    rw [h.2 m hmb, rchB_iff]
    constructor
    · rintro (h1 | ⟨j, hj, h1, h2, h3⟩ | ⟨h1, h2⟩)
      · exact .inl h1.2
      · exact .inr ⟨j, hj, by omega, h2, h3⟩
      · have := hv.kids hm _ (List.mem_of_mem_take h2); omega
    · rintro (h1 | ⟨j, hj, h1, h2, h3⟩)
      · exact .inl ⟨Nat.le_refl _, h1⟩
      · exact .inr (.inl ⟨j, hj, by omega, h2, h3⟩)
  cases hb : bs[m] <;> cases hr : rchB t m <;> simp_all
theorem RK.step {t : List Nd} {m c k : Nat} {bs : List Bool} {hm : m < t.length} (h : RK t m hm c bs) (hc : c < t[m].kids.length) (hk : t[m].kids[c] = (k : Int)) (hkb : k < bs.length) : RK t m hm (c + 1) (bs.set k (bs[k] || rchB t m)) := by
  refine ⟨by rw [List.length_set]; exact h.1, fun q hq => ?_⟩
  have hq' : q < bs.length := by rw [List.length_set] at hq; exact hq
  rw [List.take_succ_eq_append_getElem hc, hk]
  simp only [List.mem_append, List.mem_singleton]
  by_cases e : q = k
  · subst e
    rw [List.getElem_set_self, Bool.or_eq_true, h.2 q hq']
    constructor
    · rintro ((h1 | h1 | ⟨h1, h2⟩) | h1)
      · exact .inl h1
      · exact .inr (.inl h1)
      · exact .inr (.inr ⟨h1, .inl h2⟩)
      · exact .inr (.inr ⟨h1, .inr rfl⟩)
    · rintro (h1 | h1 | ⟨h1, h2 | h2⟩)
      · exact .inl (.inl h1)
      · exact .inl (.inr (.inl h1))
      · exact .inl (.inr (.inr ⟨h1, h2⟩))
      · exact .inr h1
  · rw [List.getElem_set_ne (fun h => e h.symm), h.2 q hq']
    have : ¬ (q : Int) = (k : Int) := by omega
    simp [this]
theorem RK.done {t : List Nd} {m c : Nat} {bs : List Bool} {hm : m < t.length} (h : RK t m hm c bs) (hc : t[m].kids.length ≤ c) : RS t m bs := by
  refine ⟨h.1, fun q hq => ?_⟩
  rw [h.2 q hq, List.take_of_length_le hc]
  constructor
  · rintro (h1 | ⟨j, hj, h1, h2, h3⟩ | ⟨h1, h2⟩)
    · exact .inl h1
    · exact .inr ⟨j, hj, by omega, h2, h3⟩
    · exact .inr ⟨m, hm, Nat.le_refl _, h1, h2⟩
  · rintro (h1 | ⟨j, hj, h1, h2, h3⟩)
    · exact .inl h1
    · by_cases e : j = m
      · subst e; exact .inr (.inr ⟨h2, h3⟩)
      · exact .inr (.inl ⟨j, hj, by omega, h2, h3⟩)
theorem RS.all {t : List Nd} {bs : List Bool} (hv : VT t) (h : RS t 0 bs) : bs.length = t.length ∧ ∀ q (hq : q < bs.length), bs[q] = rchB t q := by
  refine ⟨h.1, fun q hq => ?_⟩
  have key : bs[q] = true ↔ rchB t q = true := by
    rw [h.2 q hq, rchB_iff]
    constructor
    · rintro (h1 | ⟨j, hj, h1, h2, h3⟩)
      · exact .inl h1.2
      · have := hv.kids hj _ h3
        exact .inr ⟨j, hj, by omega, h2, h3⟩
    · rintro (h1 | ⟨j, hj, h1, h2, h3⟩)
      · exact .inl ⟨Nat.zero_le _, h1⟩
      · exact .inr ⟨j, hj, Nat.zero_le _, h2, h3⟩
  cases hb : bs[q] <;> cases hr : rchB t q <;> simp_all
/-! ### keys -/
def kS (x : Nd) : ByteArray := strOf (tnN x)
theorem tnN_inj {x y : Nd} (hx : NdOk x) (hy : NdOk y) (ex : NdE x) (ey : NdE y) (h : tnN x = tnN y) : x = y := by
  have h1 := dNd_rt (m := ((tnN x).length : Nat)) hx ex (Int.le_refl _) []
  have h2 := dNd_rt (m := ((tnN x).length : Nat)) hy ey (by rw [h]; exact Int.le_refl _) []
  rw [← h] at h2
  rw [h1] at h2
  exact (Prod.mk.injEq _ _ _ _ ▸ h2 : _ ∧ _).1
theorem kS_inj {x y : Nd} (hx : NdOk x) (hy : NdOk y) (ex : NdE x) (ey : NdE y) (h : kS x = kS y) : x = y := by
  refine tnN_inj hx hy ex ey ?_
  have h1 := congrArg sb h
  unfold kS at h1
  rw [strOf_sb (tnN_bys x), strOf_sb (tnN_bys y)] at h1
  exact h1
def keyG : List Nd → Nat → List (ByteArray × Int)
  | [], _ => []
  | x :: l, i => (kS x, (i : Int)) :: keyG l (i + 1)
theorem keyG_keys : ∀ (l : List Nd) (i : Nat), (keyG l i).map Prod.fst = l.map kS
  | [], i => rfl
  | x :: l, i => by rw [keyG, List.map_cons, List.map_cons, keyG_keys l (i + 1)]
theorem keyG_snoc : ∀ (l : List Nd) (x : Nd) (i : Nat), keyG (l ++ [x]) i = keyG l i ++ [(kS x, ((i + l.length : Nat) : Int))]
  | [], x, i => rfl
  | y :: l, x, i => by
    rw [List.cons_append, keyG, keyG, keyG_snoc l x (i + 1), List.cons_append]
    simp only [List.length_cons]
    rw [show i + 1 + l.length = i + (l.length + 1) by omega]
def NdK (x : Nd) : Prop := NdOk x ∧ NdE x
theorem keyG_get {x : Nd} (hx : NdK x) : ∀ {l : List Nd} {i : Nat}, (∀ y ∈ l, NdK y) → getM (keyG l i) (kS x) = if posN l x < l.length then some ((i + posN l x : Nat) : Int) else none
  | [], i, _ => rfl
  | y :: l, i, h => by
    rw [keyG, getM, posN]
    by_cases e : kS x = kS y
    · have hxy := kS_inj hx.1 (h y (by simp)).1 hx.2 (h y (by simp)).2 e
      rw [if_pos e, if_pos (sameN_iff.2 hxy.symm)]
      simp
    · have hne : ¬ sameN y x = true := fun h => e (by rw [sameN_iff.1 h])
      rw [if_neg e, if_neg hne, keyG_get hx (fun z hz => h z (by simp [hz]))]
      simp only [List.length_cons, Nat.add_lt_add_iff_right]
      rw [show i + 1 + posN l x = i + (posN l x + 1) by omega]
theorem keyG_put {x : Nd} {l : List Nd} (hx : NdK x) (hl : ∀ y ∈ l, NdK y) (hn : ¬ posN l x < l.length) : putM (keyG l 0) (kS x) (l.length : Int) = keyG (l ++ [x]) 0 := by
  rw [putM_new, keyG_snoc, Nat.zero_add]
  rw [keyG_keys]
  intro h
  obtain ⟨y, hy, e⟩ := List.mem_map.1 h
  have := kS_inj (hl y hy).1 hx.1 (hl y hy).2 hx.2 e
  subst this
  exact hn (posN_mem.2 hy)
theorem OwnR.slP {α : Type} {R : World → List Nat → α → List Value → Prop} {w : World} {e k : Nat} {S S0 : List Nat} {l : List α} {v : Value} (hs : Stab R k) (h : OwnR w e k (plusR R S0) l v) (hS : ∀ b ∈ S, b ∈ S0) (hv : ∀ b ∈ blks v, b ∉ S) : Sl w S (R w S) l v := by
  obtain ⟨ys, h1, h2⟩ := h
  refine ⟨ys, h1.src, fun ad n c he hp hk => ?_, h2.imp fun x cs _ hr => hs.mono hr (fun b hb => .inl (by simp [hS b hb]))⟩
  rcases h1.2 with ⟨hv', h0⟩ | ⟨g, cap, cur, hv', _⟩
  · rw [hv'] at he; cases he
  · subst hv'
    simp only [Value.slice.injEq, Option.some.injEq] at he
    refine hv ad.block ?_ hk
    rw [← he.1]; simp [blks, Value.ownBlock]
theorem NdG.rpl {t : List Nd} {m : Nat} {pl : List Nat} {x : Nd} (h : NdG m x) (hp : ∀ a ∈ pl, a ≤ 1000000) : NdG m (rplN pl x) := by
  have hl : (rplN pl x).kids.length = x.kids.length := by simp [rplN]
  have hk : ∀ n ∈ (rplN pl x).kids, InI64 n := fun n hn => by
    unfold rplN at hn
    simp only [List.mem_map] at hn
    obtain ⟨q, _, rfl⟩ := hn
    have : pl.getD q.toNat 0 ≤ 1000000 := by
      rw [List.getD_eq_getElem?_getD]
      rcases hq : pl[q.toNat]? with _ | a
      · simp
      · simp only [Option.getD_some]; exact hp a (List.mem_of_getElem? hq)
    unfold InI64; omega
  have h1 := h.ok
  exact ⟨⟨h1.kind, h1.name, h1.lo, h1.hi, h1.ws, hk, h1.lw, h1.ll, h1.lv, by rw [hl]; exact h1.lk, h1.vals, h1.val⟩, fun e => by rw [hl]; exact h.few e, h.lw, h.ll, h.lv, by rw [hl]; exact h.lk, ⟨h.e.name, h.e.labs, h.e.vals, h.e.val⟩⟩
theorem NdG.k {m : Nat} {x : Nd} (h : NdG m x) : NdK x := ⟨h.ok, h.e⟩
theorem trmG_pl (t p : List Nd) : ∀ a ∈ (trmG t p).2, a ≤ p.length := by
  refine snocInd (P := fun p => ∀ a ∈ (trmG t p).2, a ≤ p.length) (by simp [trmG]) (fun p x ih => ?_) p
  rw [trmG_snoc]
  have hl := trmG_le t p
  unfold trmS
  intro a ha
  split at ha
  · simp only [List.mem_append, List.mem_singleton] at ha
    rcases ha with ha | rfl
    · have := ih a ha; simp; omega
    · have := posN_le (trmG t p).1 (rplN (trmG t p).2 x); simp; omega
  · simp only [List.mem_append, List.mem_singleton] at ha
    rcases ha with ha | rfl
    · have := ih a ha; simp; omega
    · simp
theorem trmG_g {t : List Nd} {m : Nat} (hl : t.length ≤ 1000) : ∀ (p : List Nd), (∀ x ∈ p, NdG m x) → p.length ≤ 1000 → ∀ y ∈ (trmG t p).1, NdG m y := by
  intro p
  refine snocInd (P := fun p => (∀ x ∈ p, NdG m x) → p.length ≤ 1000 → ∀ y ∈ (trmG t p).1, NdG m y) (fun _ _ y hy => by simp [trmG] at hy) (fun p x ih hg hp y hy => ?_) p
  rw [List.length_append] at hp
  simp only [List.length_cons, List.length_nil] at hp
  rw [trmG_snoc] at hy
  have ih' := ih (fun z hz => hg z (by simp [hz])) (by omega)
  have hx : NdG m (rplN (trmG t p).2 x) := NdG.rpl (t := t) (hg x (by simp)) (fun a ha => by have := trmG_pl t p a ha; omega)
  unfold trmS at hy
  split at hy
  · simp only at hy
    split at hy
    · exact ih' y hy
    · rcases List.mem_append.1 hy with h | h
      · exact ih' y h
      · rw [List.mem_singleton.1 h]; exact hx
  · exact ih' y hy
theorem trmT_g {t : List Nd} {m : Nat} (hg : ∀ x ∈ t, NdG m x) (hl : t.length ≤ 1000) : (∀ y ∈ trmT t, NdG m y) ∧ (trmT t).length ≤ t.length := by
  unfold trmT
  split
  · exact ⟨trmG_g hl t hg hl, trmG_le t t⟩
  · exact ⟨hg, Nat.le_refl _⟩
instance : MapT Tryz.prog 64 9 3 := ⟨Tryz.underlying64⟩
attribute [local irreducible] Code.wp wpList Exit.then Exit.inBlock bodyPost A Calls execOp Addr.add
theorem set_nextI {l : List Nat} {i n : Nat} {v : Nat} (hl : l.length = i) (hi : i < n) : (l ++ List.replicate (n - i) 0).set i v = (l ++ [v]) ++ List.replicate (n - (i + 1)) 0 := by
  obtain ⟨m, hm⟩ : ∃ m, n - i = m + 1 := ⟨n - i - 1, by omega⟩
  rw [hm, show n - (i + 1) = m by omega, List.set_append_right _ _ (by omega), hl, Nat.sub_self, List.replicate_succ, List.set_cons_zero, List.append_assoc]
  rfl
theorem keep_nextI {l : List Nat} {i n : Nat} (hi : i < n) : l ++ List.replicate (n - i) 0 = (l ++ [0]) ++ List.replicate (n - (i + 1)) 0 := by
  obtain ⟨m, hm⟩ : ∃ m, n - i = m + 1 := ⟨n - i - 1, by omega⟩
  rw [hm, show n - (i + 1) = m by omega, List.replicate_succ, List.append_assoc]
  rfl
abbrev ni (x : Nat) : Value := .int .i64 (x : Int)
theorem zeros_ni (n : Nat) : zeros [Value.int .i64 0] n = (List.replicate n 0).map ni := by
  induction n with
  | zero => rfl
  | succ n ih => simp [zeros, ih, List.replicate_succ, ni]
theorem ni_map {l : List Nat} {i v : Nat} : (l.map ni).set i (.int .i64 (v : Int)) = (l.set i v).map ni := by rw [List.map_set]
set_option maxHeartbeats 32000000 in
theorem trimP (t : List Nd) (m : Nat) (hm : m ≤ 100) (hg : ∀ x ∈ t, NdG m x) (hl : t.length ≤ 14) (sn : Value) (u : World) (hn : NS u [] t sn) :
    Calls Tryz.prog 7 #[.agg #[sn]] u fun e u' => ∃ sn', e = .returned (.agg #[sn']) ∧ NS u' [] (trmT t) sn' ∧ Fr [] u u' := by
  obtain ⟨an, cn, rfl, _⟩ := hn.slice
  have hok : ∀ x ∈ t, NdOk x := fun x hx => (hg x hx).ok
  refine enter Tryz.func7 rfl Tryz.ntmps7 rfl ?_
  refine rx ?_
  refine s_box (l := [.slice an t.length cn]) rfl rfl (fun u1 hb1 hf1 hs1 => ?_)
  refine s_alloc rfl (fun u2 hb2 hf2 hs2 => ?_)
  have hF2 := hf1.trans0 hf2
  have hb12 := hb1.tr0 hf2
  obtain ⟨q, hq⟩ : ∃ q, q = u1.heap.size := ⟨_, rfl⟩
  obtain ⟨p, hp⟩ : ∃ p, p = u.heap.size := ⟨_, rfl⟩
  rw [← hq] at hb2 ⊢
  rw [← hp] at hb12 ⊢
  clear hb1
  refine rx ?_
  refine s_call (validPT t _ u2 (hn.tr0 hF2) hok (by omega)) rfl ?_
  rintro _ u3 ⟨rfl, hf3⟩
  refine ⟨_, rfl, ?_⟩
  have hb13 := hb12.tr0 hf3
  have hb23 := hb2.tr0 hf3
  have hF3 := hF2.trans0 hf3
  by_cases hv0 : validT t = 0
  case neg =>
    have hT : trmT t = t := by unfold trmT; rw [if_neg hv0]
    rw [hT]
    refine rx ?_
    refine s_call (cloneTree t hok (by omega) _ u3 (hn.tr0 hF3)) rfl ?_
    rintro _ u4 ⟨sl', rfl, hsl, hf4⟩
    refine ⟨_, rfl, ?_⟩
    obtain ⟨ao', c', rfl, _⟩ := (hsl [] (by simp)).slice
    refine rx ?_
    refine s_storeAggB (cs := [.slice ao' t.length c']) rfl rfl (hb23.tr0 hf4) (by simp [Value.oneCell']) rfl rfl (fun u5 hb5 hf5 hs5 => ?_)
    refine rx ?_
    have hsz := hF3.size
    have hq0 : q < u3.heap.size := hb23.lt
    refine retc rfl rfl (AggT.load _ [.slice ao' t.length c'] rfl (fun j v hv => by rw [add_lit]; exact hb5.cell (by simpa using hv))) ⟨_, rfl, ?_, (hF3.trans0 hf4).trans hf5 (by simp; omega)⟩
    exact (hsl [q] (by simpa using hq0)).tr hf5 |>.mono (by simp)
  have hv := VT.of hv0
  have hT : trmT t = (trmG t t).1 := by unfold trmT; rw [if_pos hv0]
  rw [hT]
  refine rx ?_
  refine s_makeS (k := t.length) rfl rfl (by omega) (by unfold maxLen; omega) (fun u4 ho4 hf4 hs4 => ?_)
  obtain ⟨K, hK⟩ : ∃ K, K = u3.heap.size := ⟨_, rfl⟩
  rw [← hK] at ho4 ⊢
  have hbK := ho4.blk
  rw [zeros_bool] at hbK
  have hF4 := hF3.trans0 hf4
  have hb14 := hb13.tr0 hf4
  have hb24 := hb23.tr0 hf4
  have hsz3 := hF3.size
  have hpK : p < K ∧ q < K := by have := hb13.lt; have := hb23.lt; omega
  refine rx ?_
  refine c_loopK 17 [4, 6] (σ := Nat) (fun s g z => ∃ v bs, g 4 = .int .i64 v ∧ v = (s : Int) - 1 ∧ s ≤ t.length ∧ RS t s bs ∧ Blk z K (bs.map .bool) 4 ∧ Fr [K] u4 z) (fun s => s) t.length ⟨_, _, rfl, rfl, Nat.le_refl _, RS.zero t, hbK, Fr.refl _ _⟩ ?_
  rintro s g z ⟨v, bs, h4, hv4, hs, hrs, hbz, hfz⟩
  rw [eq_upd h4]
  have hFz : Fr [] u z := hF4.trans hfz (by simp; omega)
  have hb1z := hb14.tr hfz (by simp; omega)
  have hb2z := hb24.tr hfz (by simp; omega)
  have hnz := hn.tr0 hFz
  by_cases hs0 : s = 0
  case neg =>
    obtain ⟨i, rfl⟩ : ∃ i, s = i + 1 := ⟨s - 1, by omega⟩
    obtain rfl : v = (i : Int) := by omega
    have hlt : i < t.length := by omega
    have hib : i < bs.length := by have := hrs.1; omega
    have hcz := Cells.ofBlk hbz
    have hgi : (bs.map Value.bool)[i]? = some (.bool bs[i]) := by rw [List.getElem?_map, List.getElem?_eq_getElem hib]; rfl
    have hown := hrs.own hlt hib
    have hfst := hrs.first hlt
    have hlb : bs.length = t.length := hrs.1
    refine rx ?_
    rw [Nat.mul_one]
    refine s_loadC rfl hcz hgi ?_
    refine w_cutK 17 [] (fun g' y => Blk y K ((bs.set i (rchB t i)).map .bool) 4 ∧ Fr [K] z y) ?_ ?_
    · obtain ⟨b0, hb0⟩ : ∃ b0, b0 = bs[i] := ⟨_, rfl⟩
      rw [← hb0] at hown ⊢
      have hset : ∀ b1 : Bool, b1 = rchB t i → ∀ z1, Blk z1 K ((bs.map Value.bool).set i (.bool b1)) 4 → Blk z1 K ((bs.set i (rchB t i)).map .bool) 4 := fun b1 h z1 hz1 => by rw [pl_map, h] at hz1; exact hz1
      cases b0 with
      | true =>
        have hr : true = rchB t i := (hown.1 (.inl rfl)).symm
        refine rx ?_
        rw [Nat.mul_one, add_lit, Nat.zero_add]
        refine s_storeBj (v := .bool true) rfl rfl rfl hbz (by rw [List.length_map]; omega) (fun z1 hbz1 hf1 hs1 => ?_)
        refine wpList_nil (q_cutK (by (repeat (first | exact Keep.refl _ _ _ | exact Keep.mrg _ _ _ _ | (refine Keep.hi rfl ?_) | (refine Keep.one rfl ?_) | exact Keep.all rfl | (refine Keep.inn rfl ?_) | (refine Keep.set rfl ?_)))) ⟨hset _ hr _ hbz1, hf1⟩)
      | false =>
        by_cases he : i + 1 = t.length
        · have hr : true = rchB t i := (hown.1 (.inr he)).symm
          refine rx ?_
          rw [Nat.mul_one, add_lit, Nat.zero_add]
          refine s_storeBj (v := .bool true) rfl rfl rfl hbz (by rw [List.length_map]; omega) (fun z1 hbz1 hf1 hs1 => ?_)
          refine wpList_nil (q_cutK (by (repeat (first | exact Keep.refl _ _ _ | exact Keep.mrg _ _ _ _ | (refine Keep.hi rfl ?_) | (refine Keep.one rfl ?_) | exact Keep.all rfl | (refine Keep.inn rfl ?_) | (refine Keep.set rfl ?_)))) ⟨hset _ hr _ hbz1, hf1⟩)
        · have hr : false = rchB t i := by
            cases h : rchB t i
            · rfl
            · rcases hown.2 h with h | h
              · cases h
              · exact absurd h he
          refine rx ?_
          rw [Nat.mul_one, add_lit, Nat.zero_add]
          refine s_storeBj (v := .bool false) rfl rfl rfl hbz (by rw [List.length_map]; omega) (fun z1 hbz1 hf1 hs1 => ?_)
          refine wpList_nil (q_cutK (by (repeat (first | exact Keep.refl _ _ _ | exact Keep.mrg _ _ _ _ | (refine Keep.hi rfl ?_) | (refine Keep.one rfl ?_) | exact Keep.all rfl | (refine Keep.inn rfl ?_) | (refine Keep.set rfl ?_)))) ⟨hset _ hr _ hbz1, hf1⟩)
    rintro g' y ⟨hby, hfy⟩
    have hFy : Fr [] u y := hFz.trans hfy (by simp; omega)
    have hf4y : Fr [K] u4 y := hfz.trans hfy (by simp)
    have hb1y := hb1z.tr hfy (by simp; omega)
    obtain ⟨ad, cs, rfl, ⟨sw, sl, sv, sk, sx, rfl, h1, h2, h3, hks, h5⟩, hcx⟩ := Sl.at hn ndLen hlt
    obtain ⟨ak, ck, rfl, _⟩ := hks.slice
    have hlk := (hok _ (List.getElem_mem hlt)).lk
    have hcxy := hcx.tr0 hFy
    refine rx ?_
    refine c_loopK 17 [6] (σ := Nat) (fun c g y' => ∃ bs', g 54 = .slice ak t[i].kids.length ck ∧ g 55 = .int .i64 t[i].kids.length ∧ g 56 = .int .i64 (c : Nat) ∧ c ≤ t[i].kids.length ∧ RK t i hlt c bs' ∧ Blk y' K (bs'.map .bool) 4 ∧ Fr [K] y y') (fun c => t[i].kids.length - c) 0 ⟨_, rfl, rfl, rfl, Nat.zero_le _, hfst, hby, Fr.refl _ _⟩ ?_
    rintro c g2 y1 ⟨bs', h54, h55, h56, hc, hrk, hby1, hfy1⟩
    rw [eq_upd h54, eq_upd h55, eq_upd h56]
    by_cases hcl : c < t[i].kids.length
    case neg =>
      refine rx ?_
      exact q_roundK i (by (repeat (first | exact Keep.mrg _ _ _ _ | (refine Keep.hi rfl ?_) | (refine Keep.one rfl ?_) | exact Keep.all rfl | (refine Keep.inn rfl ?_) | (refine Keep.set rfl ?_)))) ⟨_, bs', rfl, rfl, by omega, hrk.done (by omega), hby1, hf4y.trans hfy1 (by simp)⟩ (by omega)
    have hFy1 : Fr [] u y1 := hFy.trans hfy1 (by simp; omega)
    obtain ⟨k, hk, hki⟩ := hv.kid hlt (List.getElem_mem hcl)
    obtain ⟨ad1, rfl, hcell⟩ := Ls.at (hks.tr0 hFy1) hcl
    rw [hk] at hcell
    have hkb : k < bs'.length := by have := hrk.1; omega
    have hib' : i < bs'.length := by have := hrk.1; omega
    have hlb' := hrk.1
    have hself := hrk.self hv hib'
    have hstep := hrk.step hcl hk hkb
    have hcy := Cells.ofBlk hby1
    have hgk : (bs'.map Value.bool)[k]? = some (.bool bs'[k]) := by rw [List.getElem?_map, List.getElem?_eq_getElem hkb]; rfl
    have hgi' : (bs'.map Value.bool)[i]? = some (.bool (rchB t i)) := by rw [List.getElem?_map, List.getElem?_eq_getElem hib', hself]; rfl
    generalize rchB t i = r at hgi' hstep
    refine rx ?_
    rw [Nat.mul_one]
    refine s_load rfl hcell ?_
    refine rx ?_
    rw [Nat.mul_one]
    refine s_loadC rfl hcy hgk ?_
    generalize bs'[k] = b1 at hstep
    cases b1 with
    | true =>
      refine rx ?_
      rw [Nat.mul_one, add_lit K 0 k, Nat.zero_add]
      refine s_storeBj (v := .bool true) rfl rfl rfl hby1 (by rw [List.length_map]; omega) (fun z1 hbz1 hf1 hs1 => ?_)
      rw [pl_map] at hbz1
      refine rx ?_
      exact q_roundK (c + 1) (by (repeat (first | exact Keep.mrg _ _ _ _ | (refine Keep.hi rfl ?_) | (refine Keep.one rfl ?_) | exact Keep.all rfl | (refine Keep.inn rfl ?_) | (refine Keep.set rfl ?_)))) ⟨_, rfl, rfl, rfl, by omega, hstep, hbz1, hfy1.trans hf1 (by simp)⟩ (by omega)
    | false =>
      refine rx ?_
      rw [Nat.mul_one]
      refine s_loadC rfl hcy hgi' ?_
      refine rx ?_
      rw [Nat.mul_one, add_lit K 0 k, Nat.zero_add]
      refine s_storeBj (v := .bool r) rfl rfl rfl hby1 (by rw [List.length_map]; omega) (fun z1 hbz1 hf1 hs1 => ?_)
      rw [pl_map] at hbz1
      refine rx ?_
      exact q_roundK (c + 1) (by (repeat (first | exact Keep.mrg _ _ _ _ | (refine Keep.hi rfl ?_) | (refine Keep.one rfl ?_) | exact Keep.all rfl | (refine Keep.inn rfl ?_) | (refine Keep.set rfl ?_)))) ⟨_, rfl, rfl, rfl, by omega, hstep, hbz1, hfy1.trans hf1 (by simp)⟩ (by omega)
  -- the nodes
  obtain rfl : s = 0 := hs0
  obtain ⟨hrl, hra⟩ := hrs.all hv
  refine rx ?_
  refine s_alloc rfl (fun y2 hbT hf5 hs5 => ?_)
  obtain ⟨pT, hpT⟩ : ∃ pT, pT = z.heap.size := ⟨_, rfl⟩
  rw [← hpT] at hbT ⊢
  have hb1a := hb1z.tr0 hf5
  refine rx ?_
  refine s_makeS (k := t.length) rfl rfl (by omega) (by unfold maxLen; omega) (fun y3 ho6 hf6 hs6 => ?_)
  obtain ⟨PL, hPL⟩ : ∃ PL, PL = y2.heap.size := ⟨_, rfl⟩
  rw [← hPL] at ho6 ⊢
  have hbL := ho6.blk
  rw [zeros_ni] at hbL
  refine rx ?_
  refine s_makeMap (key := Value.string) (val := Value.int .i64) (fun y4 hmp hf7 hs7 => ?_)
  obtain ⟨mb, hmb⟩ : ∃ mb, mb = y3.heap.size := ⟨_, rfl⟩
  rw [← hmb] at hmp ⊢
  have hbT4 := (hbT.tr0 hf6).tr0 hf7
  have hbL4 := hbL.tr0 hf7
  have hf57 : Fr [] z y4 := (hf5.trans0 hf6).trans0 hf7
  have hFy4 : Fr [] u y4 := hFz.trans0 hf57
  have hb1y := hb1z.tr0 hf57
  have hb2y := hb2z.tr0 hf57
  have hbKy := hbz.tr0 hf57
  have hszz := hf5.size
  have hKz := hbz.lt
  have hpz := hb1z.lt
  have hqz := hb2z.lt
  have hsz7 : y4.heap.size = mb + 1 := by omega
  have hord : p < pT ∧ q < pT ∧ K < pT ∧ pT < PL ∧ PL < mb := by omega
  clear hb1a hbL hbT ho6 hb1z hb2z hbz hbK hb14 hb24 hb13 hb23 hb12 hb2
  obtain ⟨S1, hS1⟩ : ∃ S1, S1 = [q, pT, PL, mb] := ⟨_, rfl⟩
  have hS1l : ∀ b ∈ S1, b < y4.heap.size := fun b hb => by rw [hS1] at hb; simp at hb; omega
  have stP : Stab (plusR NdR S1) 12 := plusStab ndStab
  refine rx ?_
  refine c_loopK 17 [10, 11, 12, 13, 14, 15, 16] (σ := Nat) (fun i g w => ∃ v, g 81 = .int .i64 t.length ∧ g 82 = .int .i64 (i : Nat) ∧ i ≤ t.length ∧ Blk w pT [v] 25 ∧ OwnR w 36 12 (plusR NdR S1) (trmG t (t.take i)).1 v ∧ (∀ b ∈ blks v, y4.heap.size ≤ b) ∧ Blk w PL (((trmG t (t.take i)).2 ++ List.replicate (t.length - i) 0).map ni) 3 ∧ Mp Value.string (Value.int .i64) w mb (keyG (trmG t (t.take i)).1 0) ∧ Fr [pT, PL, mb] y4 w) (fun i => t.length - i) 0 ⟨_, rfl, rfl, Nat.zero_le _, hbT4, OwnR.nil _ _ _ _, fun b hb => fresh0 hb, by simpa [trmG] using hbL4, hmp, Fr.refl _ _⟩ ?_
  rintro i g2 w ⟨v, h81, h82, hi, hbTw, hov, hkv, hbLw, hmw, hfw⟩
  rw [eq_upd h81, eq_upd h82]
  have hFw : Fr [] u w := hFy4.trans hfw (by simp; omega)
  have hb1w := hb1y.tr hfw (by simp; omega)
  have hb2w := hb2y.tr hfw (by simp; omega)
  have hbKw := hbKy.tr hfw (by simp; omega)
  have hszw := hfw.size
  obtain ⟨av, cv, rfl⟩ := hov.slice
  by_cases hlt : i < t.length
  case neg =>
    rw [List.take_of_length_le (by omega)] at hov hbTw hkv
    refine rx ?_
    have hsl : NS w [q] (trmG t t).1 (.slice av (trmG t t).1.length cv) := OwnR.slP ndStab hov (by rw [hS1]; simp) (fun b hb hm => by have := hkv b hb; simp at hm; omega)
    refine s_storeAggB (cs := [.slice av (trmG t t).1.length cv]) rfl rfl hb2w (by simp [Value.oneCell']) rfl rfl (fun w1 hbw1 hfw1 hsw1 => ?_)
    refine rx ?_
    refine retc rfl rfl (AggT.load _ [.slice av (trmG t t).1.length cv] rfl (fun j v hv => by rw [add_lit]; exact hbw1.cell (by simpa using hv))) ⟨_, rfl, ?_, hFw.trans hfw1 (by simp; omega)⟩
    exact (hsl.tr hfw1).mono (by simp)
  have hlen2 : (trmG t (t.take i)).2.length = i := by rw [trmG_len, List.length_take]; omega
  have htm := trm t hv i (by omega)
  have hgi : (bs.map Value.bool)[i]? = some (.bool (rchB t i)) := by rw [List.getElem?_map, List.getElem?_eq_getElem (by omega), hra i (by omega)]; rfl
  have hcK := Cells.ofBlk hbKw
  have hnx : trmG t (t.take (i + 1)) = trmS t (trmG t (t.take i)) t[i] := by rw [List.take_succ_eq_append_getElem hlt, trmG_snoc]
  have hgt : ∀ y ∈ (trmG t (t.take i)).1, NdG m y := trmG_g (by omega) _ (fun x hx => hg x (List.mem_of_mem_take hx)) (by rw [List.length_take]; omega)
  have hpll := trmG_pl t (t.take i)
  have houtl := trmG_le t (t.take i)
  generalize trmG t (t.take i) = st at hov hbTw hbLw hmw hlen2 htm hnx hgt hpll hkv houtl
  obtain ⟨out, pl⟩ := st
  simp only at hov hbTw hbLw hmw hlen2 htm hnx hgt hpll hkv houtl
  rw [List.length_take] at hpll houtl
  have hPl : (pl ++ List.replicate (t.length - i) 0).length = t.length := by rw [List.length_append, hlen2, List.length_replicate]; omega
  by_cases hr : rchB t i = true
  case neg =>
    have hr' : rchB t i = false := by simpa using hr
    have hnx' : trmG t (t.take (i + 1)) = (out, pl ++ [0]) := by rw [hnx]; unfold trmS; simp only; rw [hlen2, if_neg hr]
    rw [hr'] at hgi
    rw [keep_nextI hlt] at hbLw
    refine rx ?_
    rw [Nat.mul_one]
    refine s_loadC rfl hcK hgi ?_
    refine rx ?_
    refine q_roundK (i + 1) (by (repeat (first | exact Keep.mrg _ _ _ _ | (refine Keep.hi rfl ?_) | (refine Keep.one rfl ?_) | exact Keep.all rfl | (refine Keep.inn rfl ?_) | (refine Keep.set rfl ?_)))) ⟨.slice av out.length cv, rfl, rfl, by omega, hbTw, ?_, hkv, ?_, ?_, hfw⟩ (by omega)
    · rw [hnx']; exact hov
    · rw [hnx']; exact hbLw
    · rw [hnx']; exact hmw
  obtain ⟨x', hx'⟩ : ∃ x', x' = rplN pl t[i] := ⟨_, rfl⟩
  have hnx' : trmG t (t.take (i + 1)) = (if posN out x' < out.length then out else out ++ [x'], pl ++ [posN out x']) := by rw [hnx, hx']; unfold trmS; simp only; rw [hlen2, if_pos hr]
  have hgx : NdG m x' := by rw [hx']; exact NdG.rpl (t := t) (hg _ (List.getElem_mem hlt)) (fun a ha => by have := hpll a ha; omega)
  rw [hr] at hgi
  obtain ⟨ad, cs, rfl, ⟨sw0, sl0, sv0, sk0, sx0, rfl, q1, q2, q3, q4, q5⟩, hcx⟩ := Sl.at hn ndLen hlt
  have hnd : NdR u [] t[i] (nc t[i] sw0 sl0 sv0 sk0 sx0) := ⟨_, _, _, _, _, rfl, q1, q2, q3, q4, q5⟩
  have hcxw := hcx.tr0 hFw
  refine rx ?_
  rw [Nat.mul_one]
  refine s_loadC rfl hcK hgi ?_
  refine rx ?_
  refine s_call (cloneNode t[i] (hok _ (List.getElem_mem hlt)) _ w (ndStab.old hnd hFw (by simp))) rfl ?_
  rintro _ w1 ⟨sw, sl, sv, sk, sx, rfl, hok1, hkk, hfw1, hold⟩
  refine ⟨_, rfl, ?_⟩
  obtain ⟨ak, ck, rfl⟩ := hok1.slice
  obtain ⟨S2, hS2⟩ : ∃ S2, S2 = blks (.slice av out.length cv) ++ S1 := ⟨_, rfl⟩
  have hvl := hov.lt
  have hS2l : ∀ b ∈ S2, b < w.heap.size := fun b hb => by
    rw [hS2] at hb
    rcases List.mem_append.1 hb with h | h
    · exact hvl b h
    · have := hS1l b h; omega
  obtain ⟨g1, g2', g3, g4⟩ := hold S2 hS2l
  have hone : ∀ c ∈ nc t[i] sw sl sv (.slice ak t[i].kids.length ck) sx, c.oneCell' = true := ndStab.one (w := w1) (S := []) (x := t[i]) ⟨_, _, _, _, _, rfl, g1.mono (by simp), g2'.mono (by simp), g3.mono (by simp), own_ls hok1 (by simp), g4.mono (by simp)⟩
  refine rx ?_
  refine s_alloc rfl (fun w2 hb11 hfw2 hsw2 => ?_)
  obtain ⟨pn, hpn⟩ : ∃ pn, pn = w1.heap.size := ⟨_, rfl⟩
  rw [← hpn] at hb11 ⊢
  refine s_storeAggB (cs := nc t[i] sw sl sv (.slice ak t[i].kids.length ck) sx) rfl rfl hb11 hone rfl rfl (fun w3 hb11' hfw3 hsw3 => ?_)
  have hb13 : Blk w3 pn (nc x' sw sl sv (.slice ak t[i].kids.length ck) sx) 36 := by rw [hx']; exact hb11'
  clear hb11 hb11'
  have hf13 : Fr [] w1 w3 := hfw2.trans hfw3 (by simp; omega)
  have hkl : x'.kids.length = t[i].kids.length := by rw [hx']; simp [rplN]
  have hlk := (hok _ (List.getElem_mem hlt)).lk
  have hfw3' : Fr [] w w3 := hfw1.trans0 hf13
  have hpw := hfw1.size
  have hbL3 := hbLw.tr0 hfw3'
  have hpnk : ∀ b ∈ blks (.slice ak t[i].kids.length ck), b ≠ pn := fun b hb => by have := hok1.lt b hb; omega
  refine rx ?_
  refine c_loopK 97 [12, 13] (σ := Nat) (fun k g w' => g 97 = .slice ak t[i].kids.length ck ∧ g 98 = .int .i64 t[i].kids.length ∧ g 99 = .int .i64 (k : Nat) ∧ k ≤ t[i].kids.length ∧ Own w' 3 1 (.slice ak t[i].kids.length ck) t[i].kids.length ((x'.kids.take k ++ t[i].kids.drop k).map (.int .i64)) ∧ Fr (blks (.slice ak t[i].kids.length ck)) w3 w') (fun k => t[i].kids.length - k) 0 ⟨rfl, rfl, rfl, Nat.zero_le _, by simpa using hok1.tr0 hf13, Fr.refl _ _⟩ ?_
  rintro k g5 w4 ⟨h97, h98, h99, hk, hok4, hfw4⟩
  rw [eq_upd h97, eq_upd h98, eq_upd h99]
  have hb14 : Blk w4 pn (nc x' sw sl sv (.slice ak t[i].kids.length ck) sx) 36 := hb13.tr hfw4 (fun h => hpnk _ h rfl)
  have hfwT : Fr [] w w4 := hfw3'.trans hfw4 (fun b hb => .inr (hkk b hb))
  have hbL4' := hbLw.tr0 hfwT
  by_cases hkn : k < t[i].kids.length
  case pos =>
    obtain ⟨c, hc, hci⟩ := hv.kid hlt (List.getElem_mem hkn)
    obtain ⟨ad2, rfl⟩ := own_some hok4 (by omega)
    have hlc : (x'.kids.take k).length = k := by rw [List.length_take]; omega
    have hsrc4 := hok4.src
    have hplc : (pl ++ List.replicate (t.length - i) 0).map ni = (pl ++ List.replicate (t.length - i) 0).map ni := rfl
    have hgc : ((pl ++ List.replicate (t.length - i) 0).map ni)[c]? = some (.int .i64 ((pl.getD c 0 : Nat) : Int)) := by
      rw [List.getElem?_map, List.getElem?_append_left (by omega), List.getElem?_eq_getElem (by omega), List.getD_eq_getElem?_getD, List.getElem?_eq_getElem (by omega)]; rfl
    have hkc : ∀ w', Fr [] w4 w' → w'.cell? (ad2.add k) = some (.int .i64 (c : Int)) := fun w' hw' => by
      refine src_cell (hsrc4.tr0 hw') (j := k) ?_
      rw [List.getElem?_map, List.getElem?_append_right (by omega), hlc, Nat.sub_self, List.getElem?_drop, Nat.add_zero, List.getElem?_eq_getElem hkn, hc]; rfl
    have hnew : ((x'.kids.take k ++ t[i].kids.drop k).map (Value.int .i64)).set k (.int .i64 ((pl.getD c 0 : Nat) : Int)) = (x'.kids.take (k + 1) ++ t[i].kids.drop (k + 1)).map (.int .i64) := by
      have hxk : x'.kids[k]'(by omega) = ((pl.getD c 0 : Nat) : Int) := by
        subst hx'
        simp only [rplN, List.getElem_map, hc, Int.toNat_natCast]
      rw [← List.map_set, List.set_append_right _ _ (by omega), hlc, Nat.sub_self, List.drop_eq_getElem_cons hkn, List.set_cons_zero, List.take_succ_eq_append_getElem (show k < x'.kids.length by omega), hxk, List.append_assoc]
      rfl
    refine rx ?_
    rw [Nat.mul_one]
    refine s_load rfl (hkc w4 (Fr.refl _ _)) ?_
    refine rx ?_
    (refine d_begin (fun z' => Fr (blks (.slice (some ad2) t[i].kids.length ck)) w4 z') (by kernel_rfl) rfl ?_)
    have hS : Fr (blks (.slice (some ad2) t[i].kids.length ck)) w4 w4.drew := Fr.drew _ _
    have hPLk : ∀ b ∈ blks (.slice (some ad2) t[i].kids.length ck), b ≠ PL := fun b hb => by have := hkk b hb; omega
    ((first | refine d_tx 0 hS ?_ | refine d_ty 0 hS ?_ | refine d_tn 0 hS ?_))
    (apply d_take (i := 1); exact rfl; kernel_rfl; kernel_rfl; kernel_rfl; (intro u hu; exact (r_load rfl (Blk.cell (hb14.tr hu (fun h => hpnk _ h rfl)) rfl))); exact hS)
    ((first | refine d_tx 2 hS ?_ | refine d_ty 2 hS ?_ | refine d_tn 2 hS ?_); (first | refine d_tx 3 hS ?_ | refine d_ty 3 hS ?_ | refine d_tn 3 hS ?_); (first | refine d_tx 4 hS ?_ | refine d_ty 4 hS ?_ | refine d_tn 4 hS ?_))
    (apply d_take (i := 5); exact rfl; kernel_rfl; kernel_rfl; kernel_rfl; (intro u hu; exact (r_index1 rfl rfl rfl (by omega) rfl)); exact hS)
    (apply d_take (i := 6); exact rfl; kernel_rfl; kernel_rfl; kernel_rfl; (intro u hu; exact (r_load rfl (by rw [add_lit, Nat.zero_add]; exact Blk.cell (hbL4'.tr hu (fun h => hPLk _ h rfl)) hgc))); exact hS)
    (apply d_take (i := 7); exact rfl; kernel_rfl; kernel_rfl; kernel_rfl; (intro u hu; exact (r_index1 rfl rfl rfl hkn rfl)); exact hS)
    refine d_one (i := 8) rfl (by kernel_rfl) ?_
    refine s_storeOwn (j := k) (u := .int .i64 ((pl.getD c 0 : Nat) : Int)) (hok4.tr0 (Fr.drew [] w4)) rfl hkn rfl rfl rfl (fun w5 hok5 hf5' hs5' => ?_)
    rw [hnew] at hok5
    have hS5 := hS.trans hf5' (fun b hb => .inl hb)
    refine wpList_nil (q_held hS5 ?_)
    (refine d_done (by kernel_rfl) ?_)
    refine rx ?_
    exact q_roundK (k + 1) (by (repeat (first | exact Keep.mrg _ _ _ _ | (refine Keep.hi rfl ?_) | (refine Keep.one rfl ?_) | exact Keep.all rfl | (refine Keep.inn rfl ?_) | (refine Keep.set rfl ?_)))) ⟨rfl, rfl, rfl, by omega, hok5, hfw4.trans hS5 (fun b hb => .inl hb)⟩ (by omega)
  have hkids : x'.kids.take k ++ t[i].kids.drop k = x'.kids := by rw [List.take_of_length_le (by omega), List.drop_eq_nil_of_le (by omega), List.append_nil]
  rw [hkids] at hok4
  have hok4' : Own w4 3 1 (.slice ak t[i].kids.length ck) x'.kids.length (x'.kids.map (.int .i64)) := by rw [hkl]; exact hok4
  have hf14 : Fr (blks (.slice ak t[i].kids.length ck)) w1 w4 := (hf13.mono (by simp)).trans hfw4 (fun b hb => .inl hb)
  have hx4 : NdR w4 S2 x' (nc x' sw sl sv (.slice ak t[i].kids.length ck) sx) := by
    refine ⟨_, _, _, _, _, rfl, ?_, ?_, ?_, own_ls hok4' (fun b hb hm => by have := hkk b hb; have := hS2l b hm; omega), ?_⟩
    · rw [hx']; exact (g1.tr (hf14.mono (fun b hb => .inl (List.mem_append_left _ hb)))).mono (fun b hb => .inl (List.mem_append_right _ hb))
    · rw [hx']; exact (g2'.tr (hf14.mono (fun b hb => .inl (List.mem_append_left _ hb)))).mono (fun b hb => .inl (List.mem_append_right _ hb))
    · rw [hx']; exact (g3.tr (hf14.mono (fun b hb => .inl (List.mem_append_left _ hb)))).mono (fun b hb => .inl (List.mem_append_right _ hb))
    · rw [hx']; exact (g4.tr (hf14.mono (fun b hb => .inl (List.mem_append_left _ hb)))).mono (fun b hb => .inl (List.mem_append_right _ hb))
  have htn := tnN_le hgx hm
  refine rx ?_
  refine s_call (encNdP x' (NdW.of hgx.ok hgx.e) (by omega) _ w4 (ndStab.mono hx4 (by simp))) rfl ?_
  rintro _ w5 ⟨ve, rfl, hoe, hfw5, hke⟩
  refine ⟨_, rfl, ?_⟩
  obtain ⟨ae, ce, rfl⟩ := hoe.slice
  have hfT5 : Fr [] w w5 := hfwT.trans0 hfw5
  have hm5 := hmw.tr0 hfT5
  have hbT5 := hbTw.tr0 hfT5
  have hbL5 := hbLw.tr0 hfT5
  have hb15 := hb14.tr0 hfw5
  have hx5 := ndStab.old hx4 hfw5 (by simp)
  have hov5 := ownP_tr ndStab hov hfT5 (by simp) (by simp)
  have hszT := hfT5.size
  have hgm := keyG_get hgx.k (l := out) (i := 0) (fun y hy => (hgt y hy).k)
  refine rx ?_
  refine s_toStr hoe.src rfl rfl ?_
  refine rx ?_
  refine s_look2 (key := Value.string) (val := Value.int .i64) (a := kS x') rfl rfl hm5 ?_
  rw [hgm]
  by_cases hp : posN out x' < out.length
  · rw [if_pos hp, Nat.zero_add]
    rw [if_pos hp] at hnx'
    refine rx ?_
    rw [Nat.mul_one, add_lit PL 0 i, Nat.zero_add]
    refine s_storeBj (v := .int .i64 ((posN out x' : Nat) : Int)) rfl rfl rfl hbL5 (by rw [List.length_map]; omega) (fun w6 hbL6 hf6' hs6' => ?_)
    rw [ni_map, set_nextI hlen2 hlt] at hbL6
    have hfa : Fr [pT, PL, mb] w w6 := (hfT5.mono (by simp)).trans hf6' (by simp)
    refine rx ?_
    refine q_roundK (i + 1) (by (repeat (first | exact Keep.mrg _ _ _ _ | (refine Keep.hi rfl ?_) | (refine Keep.one rfl ?_) | exact Keep.all rfl | (refine Keep.inn rfl ?_) | (refine Keep.set rfl ?_)))) ⟨.slice av out.length cv, rfl, rfl, by omega, hbT5.tr hf6' (by simp; omega), ?_, hkv, ?_, ?_, hfw.trans hfa (by simp)⟩ (by omega)
    · rw [hnx']; exact ownP_tr ndStab hov5 hf6' (by rw [hS1]; simp) (fun b hb hm => by have := hkv b hb; simp at hm; omega)
    · rw [hnx']; exact hbL6
    · rw [hnx']; exact hm5.tr hf6' (by simp; omega)
  · rw [if_neg hp]
    rw [if_neg hp] at hnx'
    have hpe : posN out x' = out.length := by have := posN_le out x'; omega
    rw [hpe] at hnx'
    have hput := keyG_put hgx.k (l := out) (fun y hy => (hgt y hy).k) hp
    have hlt2 : out.length ≤ 14 := by omega
    refine rx ?_
    refine s_mapUpd (key := Value.string) (val := Value.int .i64) (a := kS x') (v := (out.length : Int)) hm5 rfl rfl rfl (fun w6 hm6 hf6' hs6' => ?_)
    rw [hput] at hm6
    have hbT6 := hbT5.tr hf6' (by simp; omega)
    have hbL6 := hbL5.tr hf6' (by simp; omega)
    have hb16 := hb15.tr hf6' (by simp; omega)
    have hmS : mb ∈ S2 := by rw [hS2, hS1]; simp
    have hx6 := ndStab.tr hx5 (hf6'.mono (by simp [hmS]))
    have hov6 := ownP_tr ndStab hov5 hf6' (by rw [hS1]; simp) (fun b hb hm => by have := hkv b hb; simp at hm; omega)
    refine rx ?_
    refine s_pushA (R := plusR NdR S1) (l := out) (a := x') (cs := nc x' sw sl sv (.slice ak t[i].kids.length ck) sx) hov6 stP rfl rfl rfl (by show NdR w6 (blks _ ++ S1) x' _; rw [← hS2]; exact hx6) rfl rfl rfl (by unfold maxLen; omega) (by omega) (fun v7 w7 ho7 hf7' hk7 => ?_)
    have hbv : ∀ b ∈ blks (.slice av out.length cv), b ≠ pT ∧ b ≠ PL ∧ b ≠ mb := fun b hb => by have := hkv b hb; omega
    have hbT7 := hbT6.tr hf7' (fun h => (hbv _ h).1 rfl)
    have hbL7 := hbL6.tr hf7' (fun h => (hbv _ h).2.1 rfl)
    have hm7 := hm6.tr hf7' (fun h => (hbv _ h).2.2 rfl)
    obtain ⟨a7, c7, rfl⟩ := ho7.slice
    have hk7' : ∀ b ∈ blks (.slice a7 (out ++ [x']).length c7), y4.heap.size ≤ b := fun b hb => by
      rcases hk7 b hb with h | h
      · exact hkv b h
      · omega
    refine rx ?_
    ((with_reducible apply s_storeB); exact rfl; (conv => lhs; whnf); exact rfl; exact hbT7; exact rfl)
    intro w8 hb8 hf8 hs8
    replace hb8 : Blk w8 pT [.slice a7 (out ++ [x']).length c7] 25 := hb8
    have ho8 := ownP_tr ndStab ho7 hf8 (by rw [hS1]; simp) (fun b hb hm => by have := hk7' b hb; simp at hm; omega)
    have hbL8 := hbL7.tr hf8 (by simp; omega)
    have hm8 := hm7.tr hf8 (by simp; omega)
    refine rx ?_
    rw [Nat.mul_one, add_lit PL 0 i, Nat.zero_add]
    refine s_storeBj (v := .int .i64 ((out.length : Nat) : Int)) rfl rfl rfl hbL8 (by rw [List.length_map]; omega) (fun w9 hbL9 hf9 hs9 => ?_)
    rw [ni_map, set_nextI hlen2 hlt] at hbL9
    have hfa : Fr [pT, PL, mb] y4 w9 := ((((hfw.trans0 hfT5).trans hf6' (by simp)).trans hf7' (fun b hb => .inr (hkv b hb))).trans hf8 (by simp)).trans hf9 (by simp)
    refine rx ?_
    refine q_roundK (i + 1) (by (repeat (first | exact Keep.mrg _ _ _ _ | (refine Keep.hi rfl ?_) | (refine Keep.one rfl ?_) | exact Keep.all rfl | (refine Keep.inn rfl ?_) | (refine Keep.set rfl ?_)))) ⟨.slice a7 (out ++ [x']).length c7, rfl, rfl, by omega, hb8.tr hf9 (by simp; omega), ?_, hk7', ?_, ?_, hfa⟩ (by omega)
    · rw [hnx']; exact ownP_tr ndStab ho8 hf9 (by rw [hS1]; simp) (fun b hb hm => by have := hk7' b hb; simp at hm; omega)
    · rw [hnx']; exact hbL9
    · rw [hnx']; exact hm8.tr hf9 (by simp; omega)
end Go.Proofs.YtpochcchekoonaaGreat
namespace Go.Proofs.YtpochcchekoonaaGreat
open Go.Rf Go.RowKit
set_option linter.unusedVariables false
set_option linter.unusedSimpArgs false
/-! ### the list of what is reached -/
theorem nodup_le : ∀ (n : Nat) (l : List Nat), l.Nodup → (∀ a ∈ l, a < n) → l.length ≤ n
  | 0, l, _, h => by
    cases l with
    | nil => simp
    | cons a l => have := h a (by simp); omega
  | n + 1, l, hd, h => by
    have h1 := nodup_le n (l.erase n) (hd.erase n) (fun a ha => by
      have := (hd.mem_erase_iff).1 ha
      have := h a this.2
      omega)
    by_cases hm : n ∈ l
    · rw [List.length_erase_of_mem hm] at h1; omega
    · rw [List.erase_of_not_mem hm] at h1; omega
structure WL (t : List Nd) (i : Nat) (rl : List Nat) : Prop where
  nd : rl.Nodup
  mem : ∀ a ∈ rl, a < t.length ∧ rchB t a = true
  root : t.length - 1 ∈ rl
  cl : ∀ j, j < i → ∀ a, rl[j]? = some a → ∀ (ha : a < t.length), ∀ k ∈ t[a].kids, k.toNat ∈ rl
theorem WL.le {t : List Nd} {i : Nat} {rl : List Nat} (h : WL t i rl) : rl.length ≤ t.length := nodup_le _ _ h.nd (fun a ha => (h.mem a ha).1)
theorem WL.first {t : List Nd} (h : 0 < t.length) : WL t 0 [t.length - 1] :=
  ⟨by simp, fun a ha => by rw [List.mem_singleton.1 ha]; exact ⟨by omega, rchB_iff.2 (.inl (by omega))⟩, by simp, fun j hj => by omega⟩
theorem WL.push {t : List Nd} {i b : Nat} {rl : List Nat} (h : WL t i rl) (hi : i ≤ rl.length) (hb : b < t.length) (hr : rchB t b = true) (hn : b ∉ rl) : WL t i (rl ++ [b]) := by
  refine ⟨?_, fun a ha => ?_, by simp [h.root], fun j hj a ha hal k hk => ?_⟩
  · rw [List.nodup_append]
    exact ⟨h.nd, by simp, fun x hx y hy => by rw [List.mem_singleton] at hy; subst hy; exact fun e => hn (e ▸ hx)⟩
  · rcases List.mem_append.1 ha with ha | ha
    · exact h.mem a ha
    · rw [List.mem_singleton.1 ha]; exact ⟨hb, hr⟩
  · rw [List.getElem?_append_left (by omega)] at ha
    exact List.mem_append_left _ (h.cl j hj a ha hal k hk)
theorem WL.next {t : List Nd} {i a : Nat} {rl : List Nat} (h : WL t i rl) (ha : rl[i]? = some a) (hal : a < t.length) (hk : ∀ k ∈ t[a].kids, k.toNat ∈ rl) : WL t (i + 1) rl := by
  refine ⟨h.nd, h.mem, h.root, fun j hj b hb hbl => ?_⟩
  by_cases e : j = i
  · subst e
    rw [ha] at hb
    cases hb
    exact hk
  · exact h.cl j (by omega) b hb hbl
theorem WL.all {t : List Nd} {i : Nat} {rl : List Nat} (h : WL t i rl) (hi : rl.length ≤ i) {a : Nat} (ha : a < t.length) : a ∈ rl ↔ rchB t a = true := by
  refine ⟨fun hm => (h.mem a hm).2, ?_⟩
  have key : ∀ m a, t.length - a = m → a < t.length → rchB t a = true → a ∈ rl := by
    intro m
    induction m using Nat.strongRecOn with
    | _ m ih =>
      intro a hm ha hr
      rcases rchB_iff.1 hr with he | ⟨j, hj, hij, hrj, hk⟩
      · rw [show a = t.length - 1 by omega]; exact h.root
      · have h1 := ih (t.length - j) (by omega) j rfl hj hrj
        obtain ⟨x, hx, he⟩ := List.getElem_of_mem h1
        have := h.cl x (by omega) j (by rw [List.getElem?_eq_getElem hx, he]) hj _ hk
        simpa using this
  exact key _ a rfl ha
theorem ni_mem {a : Nat} {rl : List Nat} : ((a : Int) ∈ rl.map fun (x : Nat) => (x : Int)) ↔ a ∈ rl := by
  constructor
  · intro h
    obtain ⟨x, hx, e⟩ := List.mem_map.1 h
    obtain rfl : x = a := by omega
    exact hx
  · intro h; exact List.mem_map.2 ⟨a, h, rfl⟩
theorem ni_is {w : World} {e : Nat} {S : List Nat} {v : Value} {rl : List Nat} (h : Own w e 1 v rl.length (rl.map ni)) (hS : ∀ b ∈ blks v, b ∉ S) : IS w S (rl.map fun (x : Nat) => (x : Int)) v := by
  refine own_ls (e := e) ?_ hS
  rw [List.length_map, List.map_map]
  exact h
attribute [local irreducible] Code.wp wpList Exit.then Exit.inBlock bodyPost A Calls execOp Addr.add
set_option maxHeartbeats 32000000 in
theorem refTrimP (t : List Nd) (m : Nat) (hm : m ≤ 100) (hg : ∀ x ∈ t, NdG m x) (hl : t.length ≤ 14) (sn : Value) (u : World) (hn : NS u [] t sn) :
    Calls Tryz.prog 9 #[.agg #[sn]] u fun e u' => ∃ sn', e = .returned (.agg #[sn']) ∧ NS u' [] (trmT t) sn' ∧ Fr [] u u' := by
  obtain ⟨an, cn, rfl, _⟩ := hn.slice
  have hok : ∀ x ∈ t, NdOk x := fun x hx => (hg x hx).ok
  refine enter Tryz.func9 rfl Tryz.ntmps9 rfl ?_
  refine rx ?_
  refine s_box (l := [.slice an t.length cn]) rfl rfl (fun u1 hb1 hf1 hs1 => ?_)
  refine s_alloc rfl (fun u2 hb2 hf2 hs2 => ?_)
  have hF2 := hf1.trans0 hf2
  have hb12 := hb1.tr0 hf2
  obtain ⟨q, hq⟩ : ∃ q, q = u1.heap.size := ⟨_, rfl⟩
  obtain ⟨p, hp⟩ : ∃ p, p = u.heap.size := ⟨_, rfl⟩
  rw [← hq] at hb2 ⊢
  rw [← hp] at hb12 ⊢
  clear hb1
  refine rx ?_
  refine s_call (validRT t _ u2 (hn.tr0 hF2) hok (by omega)) rfl ?_
  rintro _ u3 ⟨rfl, hf3⟩
  refine ⟨_, rfl, ?_⟩
  have hb13 := hb12.tr0 hf3
  have hb23 := hb2.tr0 hf3
  have hF3 := hF2.trans0 hf3
  have hqp : p < q ∧ q < u3.heap.size := by have := hb23.lt; omega
  have same : trmT t = t → ∀ u5, Blk u5 q [.slice an t.length cn] 25 → Fr [q] u3 u5 → ∃ sn', Ending.returned (.agg #[.slice an t.length cn]) = .returned (.agg #[sn']) ∧ NS u5 [] (trmT t) sn' ∧ Fr [] u u5 := fun h u5 hb5 hf5 => by
    rw [h]
    exact ⟨_, rfl, (((hn.mono (T := [q]) (fun b hb => by simp at hb; right; omega)).tr0 hF3).tr hf5).mono (by simp), hF3.trans hf5 (by simp; omega)⟩
  by_cases hv0 : validT t = 0
  case neg =>
    have hT : trmT t = t := by unfold trmT; rw [if_neg hv0]
    refine rx ?_
    refine s_storeAggB (cs := [.slice an t.length cn]) rfl rfl hb23 (by simp [Value.oneCell']) rfl rfl (fun u5 hb5 hf5 hs5 => ?_)
    refine rx ?_
    exact retc rfl rfl (AggT.load _ [.slice an t.length cn] rfl (fun j v hv => by rw [add_lit]; exact hb5.cell (by simpa using hv))) (same hT u5 hb5 hf5)
  by_cases hn0 : t.length = 0
  · have hT : trmT t = t := by
      obtain rfl : t = [] := List.length_eq_zero_iff.1 hn0
      rfl
    refine rx ?_
    refine s_storeAggB (cs := [.slice an t.length cn]) rfl rfl hb23 (by simp [Value.oneCell']) rfl rfl (fun u5 hb5 hf5 hs5 => ?_)
    refine rx ?_
    exact retc rfl rfl (AggT.load _ [.slice an t.length cn] rfl (fun j v hv => by rw [add_lit]; exact hb5.cell (by simpa using hv))) (same hT u5 hb5 hf5)
  have hv := VT.of hv0
  have hT : trmT t = (trmG t t).1 := by unfold trmT; rw [if_pos hv0]
  rw [hT]
  clear same
  obtain ⟨n, hnn⟩ : ∃ n, t.length = n + 1 := ⟨t.length - 1, by omega⟩
  refine rx ?_
  refine s_build1 (v := .int .i64 ((t.length - 1 : Nat) : Int)) (by rw [show ((t.length - 1 : Nat) : Int) = (t.length : Int) - 1 by omega]; rfl) rfl (fun u4 ho4 hf4 hs4 => ?_)
  have hF4 := hF3.trans0 hf4
  have hb14 := hb13.tr0 hf4
  have hb24 := hb23.tr0 hf4
  have hk4 : ∀ b ∈ blks (.slice (some ⟨u3.heap.size, 0, none⟩) 1 1), u3.heap.size ≤ b := fun b hb => by simp [blks, Value.ownBlock] at hb; omega
  refine rx ?_
  refine c_loopK 15 [3, 4, 5, 6] (σ := Nat) (fun i g z => ∃ rl v, g 3 = v ∧ g 4 = .int .i64 (i : Nat) ∧ i ≤ rl.length ∧ WL t i rl ∧ Own z 3 1 v rl.length (rl.map ni) ∧ (∀ b ∈ blks v, u3.heap.size ≤ b) ∧ Fr [] u3 z) (fun i => t.length - i) 0 ⟨[t.length - 1], _, rfl, rfl, Nat.zero_le _, WL.first (by omega), ho4, hk4, hf4⟩ ?_
  rintro i g z ⟨rl, v, h3, h4, hi, hwl, hoz, hkz, hfz⟩
  obtain ⟨av, cv, rfl⟩ := hoz.slice
  rw [eq_upd h3, eq_upd h4]
  have hFz := hF3.trans0 hfz
  have hb1z := hb13.tr0 hfz
  have hb2z := hb23.tr0 hfz
  by_cases hil : i < rl.length
  case pos =>
    have hle := hwl.le
    obtain ⟨ad0, rfl⟩ := own_some hoz (by omega)
    obtain ⟨a, ha⟩ : ∃ a, a = rl[i] := ⟨_, rfl⟩
    obtain ⟨halt, har⟩ := hwl.mem a (by rw [ha]; exact List.getElem_mem hil)
    have hca : ∀ w', Fr [] z w' → w'.cell? (ad0.add i) = some (.int .i64 (a : Int)) := fun w' hw' => src_cell (hoz.src.tr0 hw') (j := i) (by rw [List.getElem?_map, List.getElem?_eq_getElem hil, ← ha]; rfl)
    have hrla : rl[i]? = some a := by rw [List.getElem?_eq_getElem hil, ← ha]
    obtain ⟨ad, cs, rfl, ⟨sw, sl, sv, sk, sx, rfl, h1, h2, h3, hks, h5⟩, hcx⟩ := Sl.at hn ndLen halt
    obtain ⟨ak, ck, rfl, _⟩ := hks.slice
    have hlk := (hok _ (List.getElem_mem halt)).lk
    have hcz := hcx.tr0 hFz
    refine rx ?_
    (refine d_begin (fun y => Fr [] z y) (by kernel_rfl) rfl ?_)
    have hS : Fr [] z z.drew := Fr.drew _ _
    ((first | refine d_tx 0 hS ?_ | refine d_ty 0 hS ?_ | refine d_tn 0 hS ?_))
    (apply d_take (i := 1); exact rfl; kernel_rfl; kernel_rfl; kernel_rfl; (intro u hu; exact (r_load rfl (Blk.cell (hb1z.tr0 hu) rfl))); exact hS)
    ((first | refine d_tx 2 hS ?_ | refine d_ty 2 hS ?_ | refine d_tn 2 hS ?_); (first | refine d_tx 3 hS ?_ | refine d_ty 3 hS ?_ | refine d_tn 3 hS ?_))
    (apply d_take (i := 4); exact rfl; kernel_rfl; kernel_rfl; kernel_rfl; (intro u hu; exact (r_index1 rfl rfl rfl hil rfl)); exact hS)
    (apply d_take (i := 5); exact rfl; kernel_rfl; kernel_rfl; kernel_rfl; (intro u hu; exact (r_load rfl (hca _ hu))); exact hS)
    (apply d_take (i := 6); exact rfl; kernel_rfl; kernel_rfl; kernel_rfl; (intro u hu; exact (r_indexAddr rfl rfl rfl (by omega) rfl)); exact hS)
    ((first | refine d_tx 7 hS ?_ | refine d_ty 7 hS ?_ | refine d_tn 7 hS ?_))
    (apply d_take (i := 8); exact rfl; kernel_rfl; kernel_rfl; kernel_rfl; (intro u hu; exact (r_load rfl (Cells.get (hcz.tr0 hu) rfl))); exact hS)
    (refine d_one (i := 9) rfl (by kernel_rfl) ?_; refine rx ?_; refine q_held hS ?_)
    (refine d_done (by kernel_rfl) ?_)
    refine rx ?_
    refine c_loopK 15 [3, 6] (σ := Nat) (fun k g y => ∃ rl' v', g 3 = v' ∧ g 6 = .int .i64 (k : Nat) ∧ k ≤ t[a].kids.length ∧ i < rl'.length ∧ rl'[i]? = some a ∧ WL t i rl' ∧ (∀ c ∈ t[a].kids.take k, c.toNat ∈ rl') ∧ Own y 3 1 v' rl'.length (rl'.map ni) ∧ (∀ b ∈ blks v', u3.heap.size ≤ b) ∧ Fr [] u3 y) (fun k => t[a].kids.length - k) 0 ⟨rl, _, rfl, rfl, Nat.zero_le _, hil, hrla, hwl, by simp, hoz.tr0 hS, hkz, hfz.trans0 hS⟩ ?_
    rintro k g2 y ⟨rl', v', h3, h6, hk, hil', hrla', hwl', hcl, hoy, hky, hfy⟩
    obtain ⟨av', cv', rfl⟩ := hoy.slice
    rw [eq_upd h3, eq_upd h6]
    have hFy := hF3.trans0 hfy
    by_cases hkl : k < t[a].kids.length
    case neg =>
      rw [List.take_of_length_le (by omega)] at hcl
      refine rx ?_
      have := hwl'.le
      exact q_roundK (i + 1) (by (repeat (first | exact Keep.mrg _ _ _ _ | (refine Keep.hi rfl ?_) | (refine Keep.one rfl ?_) | exact Keep.all rfl | (refine Keep.inn rfl ?_) | (refine Keep.set rfl ?_)))) ⟨rl', _, rfl, rfl, by omega, hwl'.next hrla' halt hcl, hoy, hky, hfy⟩ (by omega)
    obtain ⟨b, hb, hba⟩ := hv.kid halt (List.getElem_mem hkl)
    obtain ⟨ad1, rfl, hcell⟩ := Ls.at (hks.tr0 hFy) hkl
    rw [hb] at hcell
    have hrb : rchB t b = true := rchB_iff.2 (.inr ⟨a, halt, hba, har, by rw [← hb]; exact List.getElem_mem hkl⟩)
    have htk : t[a].kids.take (k + 1) = t[a].kids.take k ++ [(b : Int)] := by rw [List.take_succ_eq_append_getElem hkl, hb]
    have hle' := hwl'.le
    refine rx ?_
    rw [Nat.mul_one]
    refine s_load rfl hcell ?_
    refine rx ?_
    refine s_call (hasP (rl'.map fun (x : Nat) => (x : Int)) b _ y (ni_is hoy (by simp)) (by rw [List.length_map]; omega)) rfl ?_
    rintro _ _ ⟨rfl, rfl⟩
    refine ⟨_, rfl, ?_⟩
    by_cases hmem : b ∈ rl'
    · rw [decide_eq_true (ni_mem.2 hmem)]
      refine rx ?_
      refine q_roundK (k + 1) (by (repeat (first | exact Keep.mrg _ _ _ _ | (refine Keep.hi rfl ?_) | (refine Keep.one rfl ?_) | exact Keep.all rfl | (refine Keep.inn rfl ?_) | (refine Keep.set rfl ?_)))) ⟨rl', _, rfl, rfl, by omega, hil', hrla', hwl', fun c hc => ?_, hoy, hky, hfy⟩ (by omega)
      rw [htk] at hc
      rcases List.mem_append.1 hc with hc | hc
      · exact hcl c hc
      · rw [List.mem_singleton.1 hc]; exact hmem
    · rw [decide_eq_false (fun h => hmem (ni_mem.1 h))]
      refine rx ?_
      rw [Nat.mul_one]
      refine s_load rfl hcell ?_
      refine s_build1 (v := .int .i64 (b : Int)) rfl rfl (fun y1 ho1 hf1' hs1' => ?_)
      refine s_append (hoy.tr0 hf1') rfl ho1.src rfl rfl (by simp [Value.oneCell']) (by unfold maxLen; omega) (by omega) (fun v2 y2 ho2 hf2' hk2 _ => ?_)
      have hky2 : ∀ b ∈ blks v2, u3.heap.size ≤ b := fun b hb => by
        rcases hk2 b hb with h | h
        · exact hky b h
        · have := hfy.size; have := hf1'.size; omega
      have hwl2 := hwl'.push (by omega) (by omega) hrb hmem
      have hlen : (rl' ++ [b]).length = rl'.length + 1 := by simp
      have ho2' : Own y2 3 1 v2 (rl' ++ [b]).length ((rl' ++ [b]).map ni) := by rw [hlen, List.map_append]; exact ho2
      refine rx ?_
      refine q_roundK (k + 1) (by (repeat (first | exact Keep.mrg _ _ _ _ | (refine Keep.hi rfl ?_) | (refine Keep.one rfl ?_) | exact Keep.all rfl | (refine Keep.inn rfl ?_) | (refine Keep.set rfl ?_)))) ⟨rl' ++ [b], _, rfl, rfl, by omega, by omega, by rw [List.getElem?_append_left hil']; exact hrla', hwl2, fun c hc => ?_, ho2', hky2, (hfy.trans0 hf1').trans hf2' (fun b hb => .inr (hky b hb))⟩ (by omega)
      rw [htk] at hc
      rcases List.mem_append.1 hc with hc | hc
      · exact List.mem_append_left _ (hcl c hc)
      · rw [List.mem_singleton.1 hc]; simp
  -- the nodes
  have hall : ∀ a, a < t.length → (a ∈ rl ↔ rchB t a = true) := fun a ha => hwl.all (by omega) ha
  have hle := hwl.le
  have hvl := hoz.lt
  refine rx ?_
  refine s_build [.slice none 0 0] rfl ?_
  refine s_alloc rfl (fun y1 hbT hf5 hs5 => ?_)
  refine s_storeAggB (cs := [.slice none 0 0]) rfl rfl hbT (by simp [Value.oneCell']) rfl rfl (fun y2 hbT2 hf6 hs6 => ?_)
  obtain ⟨pT, hpT⟩ : ∃ pT, pT = z.heap.size := ⟨_, rfl⟩
  rw [← hpT] at hbT2 hf6 ⊢
  have hf56 : Fr [] z y2 := hf5.trans hf6 (by simp; omega)
  have hb1y2 := hb1z.tr0 hf56
  clear hbT
  refine rx ?_
  refine s_makeS (k := t.length) rfl rfl (by omega) (by unfold maxLen; omega) (fun y4 ho7 hf7 hs7 => ?_)
  obtain ⟨PL, hPL⟩ : ∃ PL, PL = y2.heap.size := ⟨_, rfl⟩
  rw [← hPL] at ho7 ⊢
  have hbL := ho7.blk
  rw [zeros_ni] at hbL
  have hbT4 := hbT2.tr0 hf7
  have hf57 : Fr [] z y4 := hf56.trans0 hf7
  have hFy4 : Fr [] u y4 := hFz.trans0 hf57
  have hb1y := hb1z.tr0 hf57
  have hb2y := hb2z.tr0 hf57
  have hrv : IS y4 [pT, PL] (rl.map fun (x : Nat) => (x : Int)) (.slice av rl.length cv) := ((ni_is (S := []) hoz (by simp)).mono (T := [pT, PL]) (fun b hb => by right; simp at hb; have := hf56.size; omega)).tr0 hf57
  have hszz := hf56.size
  have hqz := hb2z.lt
  have hpz := hb1z.lt
  have hord : p < pT ∧ q < pT ∧ pT < PL := by omega
  clear hbT2 ho7 hb1z hb2z hb14 hb24 hb13 hb23 hb12 hb2
  obtain ⟨S1, hS1⟩ : ∃ S1, S1 = [q, pT, PL] := ⟨_, rfl⟩
  have hS1l : ∀ b ∈ S1, b < y4.heap.size := fun b hb => by rw [hS1] at hb; simp at hb; omega
  have stP : Stab (plusR NdR S1) 12 := plusStab ndStab
  refine rx ?_
  refine c_loopK 15 [9, 10, 11, 12, 13, 14] (σ := Nat) (fun i g w => ∃ v, g 9 = .int .i64 (i : Nat) ∧ i ≤ t.length ∧ Blk w pT [v] 25 ∧ OwnR w 36 12 (plusR NdR S1) (trmG t (t.take i)).1 v ∧ (∀ b ∈ blks v, y4.heap.size ≤ b) ∧ Blk w PL (((trmG t (t.take i)).2 ++ List.replicate (t.length - i) 0).map ni) 3 ∧ Fr [pT, PL] y4 w) (fun i => t.length - i) 0 ⟨_, rfl, Nat.zero_le _, hbT4, OwnR.nil _ _ _ _, fun b hb => fresh0 hb, by simpa [trmG] using hbL, Fr.refl _ _⟩ ?_
  rintro i' g2 w ⟨v, h9, hi', hbTw, hov, hkv, hbLw, hfw⟩
  rw [eq_upd h9]
  have hFw : Fr [] u w := hFy4.trans hfw (by simp; omega)
  have hb1w := hb1y.tr hfw (by simp; omega)
  have hb2w := hb2y.tr hfw (by simp; omega)
  have hrw := hrv.tr hfw
  have hszw := hfw.size
  obtain ⟨avv, cvv, rfl⟩ := hov.slice
  by_cases hlt : i' < t.length
  case neg =>
    rw [List.take_of_length_le (by omega)] at hov hbTw hkv
    refine rx ?_
    have hsl : NS w [q] (trmG t t).1 (.slice avv (trmG t t).1.length cvv) := OwnR.slP ndStab hov (by rw [hS1]; simp) (fun b hb hm => by have := hkv b hb; simp at hm; omega)
    refine s_storeAggB (cs := [.slice avv (trmG t t).1.length cvv]) rfl rfl hb2w (by simp [Value.oneCell']) rfl rfl (fun w1 hbw1 hfw1 hsw1 => ?_)
    refine rx ?_
    refine retc rfl rfl (AggT.load _ [.slice avv (trmG t t).1.length cvv] rfl (fun j v hv => by rw [add_lit]; exact hbw1.cell (by simpa using hv))) ⟨_, rfl, ?_, hFw.trans hfw1 (by simp; omega)⟩
    exact (hsl.tr hfw1).mono (by simp)
  have hlen2 : (trmG t (t.take i')).2.length = i' := by rw [trmG_len, List.length_take]; omega
  have hnx : trmG t (t.take (i' + 1)) = trmS t (trmG t (t.take i')) t[i'] := by rw [List.take_succ_eq_append_getElem hlt, trmG_snoc]
  have hgt : ∀ y ∈ (trmG t (t.take i')).1, NdG m y := trmG_g (by omega) _ (fun x hx => hg x (List.mem_of_mem_take hx)) (by rw [List.length_take]; omega)
  have hpll := trmG_pl t (t.take i')
  have houtl := trmG_le t (t.take i')
  generalize trmG t (t.take i') = st at hov hbTw hbLw hlen2 hnx hgt hpll hkv houtl
  obtain ⟨out, pl⟩ := st
  simp only at hov hbTw hbLw hlen2 hnx hgt hpll hkv houtl
  rw [List.length_take] at hpll houtl
  have hPl : (pl ++ List.replicate (t.length - i') 0).length = t.length := by rw [List.length_append, hlen2, List.length_replicate]; omega
  refine rx ?_
  refine s_call (hasP (rl.map fun (x : Nat) => (x : Int)) i' _ w (hrw.mono (by simp)) (by rw [List.length_map]; omega)) rfl ?_
  rintro _ _ ⟨rfl, rfl⟩
  refine ⟨_, rfl, ?_⟩
  by_cases hr : rchB t i' = true
  case neg =>
    have hnx' : trmG t (t.take (i' + 1)) = (out, pl ++ [0]) := by rw [hnx]; unfold trmS; simp only; rw [hlen2, if_neg hr]
    rw [decide_eq_false (fun h => hr ((hall i' hlt).1 (ni_mem.1 h)))]
    rw [keep_nextI hlt] at hbLw
    refine rx ?_
    refine q_roundK (i' + 1) (by (repeat (first | exact Keep.mrg _ _ _ _ | (refine Keep.hi rfl ?_) | (refine Keep.one rfl ?_) | exact Keep.all rfl | (refine Keep.inn rfl ?_) | (refine Keep.set rfl ?_)))) ⟨.slice avv out.length cvv, rfl, by omega, hbTw, ?_, hkv, ?_, hfw⟩ (by omega)
    · rw [hnx']; exact hov
    · rw [hnx']; exact hbLw
  rw [decide_eq_true (ni_mem.2 ((hall i' hlt).2 hr))]
  obtain ⟨x', hx'⟩ : ∃ x', x' = rplN pl t[i'] := ⟨_, rfl⟩
  have hnx' : trmG t (t.take (i' + 1)) = (if posN out x' < out.length then out else out ++ [x'], pl ++ [posN out x']) := by rw [hnx, hx']; unfold trmS; simp only; rw [hlen2, if_pos hr]
  have hgx : NdG m x' := by rw [hx']; exact NdG.rpl (t := t) (hg _ (List.getElem_mem hlt)) (fun a ha => by have := hpll a ha; omega)
  obtain ⟨ad, cs, rfl, ⟨sw, sl, sv, sk, sx, rfl, q1, q2, q3, q4, q5⟩, hcx⟩ := Sl.at hn ndLen hlt
  obtain ⟨ak, ck, rfl, _⟩ := q4.slice
  have hnd : NdR u [] t[i'] (nc t[i'] sw sl sv (.slice ak t[i'].kids.length ck) sx) := ⟨_, _, _, _, _, rfl, q1, q2, q3, q4, q5⟩
  have hcxw := hcx.tr0 hFw
  have hlk := (hok _ (List.getElem_mem hlt)).lk
  have hkl : x'.kids.length = t[i'].kids.length := by rw [hx']; simp [rplN]
  refine rx ?_
  refine s_alloc rfl (fun w2 hb11 hfw2 hsw2 => ?_)
  obtain ⟨pn, hpn⟩ : ∃ pn, pn = w.heap.size := ⟨_, rfl⟩
  rw [← hpn] at hb11 ⊢
  refine s_storeAggB (cs := nc t[i'] sw sl sv (.slice ak t[i'].kids.length ck) sx) rfl rfl hb11 (ndStab.one hnd) rfl rfl (fun w3 hb13 hfw3 hsw3 => ?_)
  replace hb13 : Blk w3 pn (nc t[i'] sw sl sv (.slice ak t[i'].kids.length ck) sx) 36 := hb13
  clear hb11
  have hf13 : Fr [] w w3 := hfw2.trans hfw3 (by simp; omega)
  have hbL3 := hbLw.tr0 hf13
  refine rx ?_
  refine c_loopK 15 [11, 12] (σ := Nat) (fun k g w' => ∃ vk, g 11 = vk ∧ g 12 = .int .i64 (k : Nat) ∧ k ≤ t[i'].kids.length ∧ Own w' 3 1 vk k ((x'.kids.take k).map (.int .i64)) ∧ (∀ b ∈ blks vk, w3.heap.size ≤ b) ∧ Fr [] w3 w') (fun k => t[i'].kids.length - k) 0 ⟨_, rfl, rfl, Nat.zero_le _, Own.nil _ _ _, fun b hb => fresh0 hb, Fr.refl _ _⟩ ?_
  rintro k g5 w4 ⟨vk, h11, h12, hk, hok4, hkk, hfw4⟩
  rw [eq_upd h11, eq_upd h12]
  have hb14 := hb13.tr0 hfw4
  have hfwT : Fr [] w w4 := hf13.trans0 hfw4
  have hbL4 := hbLw.tr0 hfwT
  have hFw4 := hFw.trans0 hfwT
  by_cases hkn : k < t[i'].kids.length
  case pos =>
    obtain ⟨c, hc, hci⟩ := hv.kid hlt (List.getElem_mem hkn)
    obtain ⟨ad1, rfl, hcell⟩ := Ls.at (q4.tr0 hFw4) hkn
    rw [hc] at hcell
    have hgc : ((pl ++ List.replicate (t.length - i') 0).map ni)[c]? = some (.int .i64 ((pl.getD c 0 : Nat) : Int)) := by
      rw [List.getElem?_map, List.getElem?_append_left (by omega), List.getElem?_eq_getElem (by omega), List.getD_eq_getElem?_getD, List.getElem?_eq_getElem (by omega)]; rfl
    have hxk : x'.kids[k]'(by omega) = ((pl.getD c 0 : Nat) : Int) := by
      subst hx'
      simp only [rplN, List.getElem_map, hc, Int.toNat_natCast]
    have hcL := Cells.ofBlk hbL4
    refine rx ?_
    rw [Nat.mul_one]
    refine s_load rfl hcell ?_
    refine rx ?_
    rw [Nat.mul_one c]
    refine s_loadC rfl hcL hgc ?_
    refine s_build1 (v := .int .i64 ((pl.getD c 0 : Nat) : Int)) rfl rfl (fun y1 ho1 hf1' hs1' => ?_)
    refine s_append (hok4.tr0 hf1') rfl ho1.src rfl rfl (by simp [Value.oneCell']) (by unfold maxLen; omega) (by omega) (fun v2 y2 ho2 hf2' hk2 _ => ?_)
    have hkk2 : ∀ b ∈ blks v2, w3.heap.size ≤ b := fun b hb => by
      rcases hk2 b hb with h | h
      · exact hkk b h
      · have := hfw4.size; have := hf1'.size; omega
    have ho2' : Own y2 3 1 v2 (k + 1) ((x'.kids.take (k + 1)).map (.int .i64)) := by
      rw [List.take_succ_eq_append_getElem (show k < x'.kids.length by omega), hxk, List.map_append]; exact ho2
    refine rx ?_
    exact q_roundK (k + 1) (by (repeat (first | exact Keep.mrg _ _ _ _ | (refine Keep.hi rfl ?_) | (refine Keep.one rfl ?_) | exact Keep.all rfl | (refine Keep.inn rfl ?_) | (refine Keep.set rfl ?_)))) ⟨_, rfl, rfl, by omega, ho2', hkk2, (hfw4.trans0 hf1').trans hf2' (fun b hb => .inr (hkk b hb))⟩ (by omega)
  have hkids : x'.kids.take k = x'.kids := List.take_of_length_le (by omega)
  rw [hkids, show k = x'.kids.length by omega] at hok4
  refine rx ?_
  ((with_reducible apply s_storeB); exact rfl; (conv => lhs; whnf); exact hok4.one; exact hb14; exact rfl)
  intro w5 hb15 hfw5 hsw5
  replace hb15 : Blk w5 pn (nc x' sw sl sv vk sx) 36 := by rw [hx']; exact hb15
  have hpnw : pn = w.heap.size := hpn
  have hf05 : Fr [] w w5 := hfwT.trans hfw5 (by simp; omega)
  have hpnk : ∀ b ∈ blks vk, b ≠ pn := fun b hb => by have := hkk b hb; omega
  have hok5 := hok4.tr hfw5 (fun b hb hm => hpnk b hb (by simpa using hm))
  obtain ⟨S2, hS2⟩ : ∃ S2, S2 = blks (.slice avv out.length cvv) ++ S1 := ⟨_, rfl⟩
  have hvl2 := hov.lt
  have hS2l : ∀ b ∈ S2, b < w.heap.size := fun b hb => by
    rw [hS2] at hb
    rcases List.mem_append.1 hb with h | h
    · exact hvl2 b h
    · have := hS1l b h; omega
  have hS2u : ∀ b ∈ S2, u.heap.size ≤ b := fun b hb => by
    rw [hS2] at hb
    rcases List.mem_append.1 hb with h | h
    · have := hkv b h; have := hFy4.size; omega
    · rw [hS1] at h; simp at h; have := hFz.size; omega
  have hF5 := hFw.trans0 hf05
  have hx5 : NdR w5 S2 x' (nc x' sw sl sv vk sx) := by
    refine ⟨_, _, _, _, _, rfl, ?_, ?_, ?_, own_ls hok5 (fun b hb hm => by have := hkk b hb; have := hS2l b hm; have := hf13.size; omega), ?_⟩
    · rw [hx']; exact (q1.mono (fun b hb => .inr (hS2u b hb))).tr0 hF5
    · rw [hx']; exact (q2.mono (fun b hb => .inr (hS2u b hb))).tr0 hF5
    · rw [hx']; exact (q3.mono (fun b hb => .inr (hS2u b hb))).tr0 hF5
    · rw [hx']; exact (q5.mono (fun b hb => .inr (hS2u b hb))).tr0 hF5
  have hbT5 := hbTw.tr0 hf05
  have hbL5 := hbLw.tr0 hf05
  have hov5 := ownP_tr ndStab hov hf05 (by simp) (by simp)
  have hsl5 : Sl w5 [] (plusR NdR S1 w5 []) out (.slice avv out.length cvv) := hov5.sl stP
  refine rx ?_
  refine c_loopK 15 [13, 14] (σ := Nat) (fun a g w' => g 13 = .int .i64 (a : Nat) ∧ a ≤ out.length ∧ (∀ j (h : j < out.length), j < a → out[j] ≠ x') ∧ Fr [] w5 w') (fun a => out.length - a) 0 ⟨rfl, Nat.zero_le _, fun j h hj => by omega, Fr.refl _ _⟩ ?_
  rintro a g6 w6 ⟨h13, ha, hne, hf6'⟩
  rw [eq_upd h13]
  have hbT6 := hbT5.tr0 hf6'
  have hbL6 := hbL5.tr0 hf6'
  have hb16 := hb15.tr0 hf6'
  have hx6 := ndStab.old hx5 hf6' (by simp)
  have hov6 := ownP_tr ndStab hov5 hf6' (by simp) (by simp)
  have hf06 := hf05.trans0 hf6'
  have hb1w6 := hb1w.tr0 hf06
  by_cases hal : a < out.length
  case pos =>
    obtain ⟨ad3, cs3, e3, hx3, hcx3⟩ := Sl.at (hsl5.tr0 hf6') (k := 12) (fun x cs h => stP.len h) hal
    obtain ⟨tw, tl, tv, tk, tx, rfl, r1, r2, r3, r4, r5⟩ := id hx3
    subst e3
    have hx3' : NdR w5 [] out[a] (nc out[a] tw tl tv tk tx) := ndStab.mono hx3 (by simp)
    have hoa := (hgt _ (List.getElem_mem hal)).ok
    refine rx ?_
    (refine d_begin (fun y => Fr [] w6 y) (by kernel_rfl) rfl ?_)
    have hS : Fr [] w6 w6.drew := Fr.drew _ _
    ((first | refine d_tx 0 hS ?_ | refine d_ty 0 hS ?_ | refine d_tn 0 hS ?_))
    (apply d_take (i := 1); exact rfl; kernel_rfl; kernel_rfl; kernel_rfl; (intro u hu; exact (r_load rfl (Blk.cell (hbT6.tr0 hu) rfl))); exact hS)
    ((first | refine d_tx 2 hS ?_ | refine d_ty 2 hS ?_ | refine d_tn 2 hS ?_))
    (apply d_take (i := 3); exact rfl; kernel_rfl; kernel_rfl; kernel_rfl; (intro u hu; exact (r_indexAddr rfl rfl rfl (by omega) rfl)); exact hS)
    (apply d_take (i := 4); exact rfl; kernel_rfl; kernel_rfl; kernel_rfl; (intro u hu; exact (r_loadC rfl (hcx3.tr0 hu) (by rfl))); exact hS)
    (apply d_take (i := 5); exact rfl; kernel_rfl; kernel_rfl; kernel_rfl; (intro u hu; exact (r_loadC rfl (Cells.ofBlk (hb16.tr0 hu)) (by rfl))); exact hS)
    refine d_one (i := 6) rfl (by kernel_rfl) ?_
    refine s_call (sameNodeC out[a] x' (nc out[a] tw tl tv tk tx) (nc x' sw sl sv vk sx) w6.drew (ndStab.old hx3' (hf6'.trans0 hS) (by simp)) (ndStab.mono (ndStab.old hx6 hS (by simp)) (by simp)) (by have := hoa.lw; omega) (by have := hoa.ll; omega) (by have := hoa.lk; omega)) rfl ?_
    rintro _ w7 ⟨rfl, hf7'⟩
    refine ⟨_, rfl, ?_⟩
    have hS1' := hS.trans0 hf7'
    refine wpList_nil (q_held hS1' ?_)
    (refine d_one (i := 7) rfl (by kernel_rfl) ?_; refine rx ?_; refine q_held hS1' ?_)
    (refine d_done (by kernel_rfl) ?_)
    by_cases hsm : sameN out[a] x' = true
    case neg =>
      have hsf : sameN out[a] x' = false := by simpa using hsm
      rw [hsf]
      refine rx ?_
      refine q_roundK (a + 1) (by (repeat (first | exact Keep.mrg _ _ _ _ | (refine Keep.hi rfl ?_) | (refine Keep.one rfl ?_) | exact Keep.all rfl | (refine Keep.inn rfl ?_) | (refine Keep.set rfl ?_)))) ⟨rfl, by omega, fun j h hj => ?_, hf6'.trans0 hS1'⟩ (by omega)
      by_cases e : j = a
      · subst e; exact fun e => hsm (sameN_iff.2 e)
      · exact hne j h (by omega)
    rw [hsm]
    have hpe : posN out x' = a := posN_eq hal (sameN_iff.1 hsm) (fun j hj => hne j (by omega) hj)
    rw [if_pos (by omega), hpe] at hnx'
    have hf08 := hf06.trans0 hS1'
    have hbT7 := hbT6.tr0 hS1'
    have hbL7 := hbL6.tr0 hS1'
    refine rx ?_
    rw [Nat.mul_one, add_lit PL 0 i', Nat.zero_add]
    refine s_storeBj (v := .int .i64 ((a : Nat) : Int)) rfl rfl rfl hbL7 (by rw [List.length_map]; omega) (fun w8 hbL8 hf8 hs8 => ?_)
    rw [ni_map, set_nextI hlen2 hlt] at hbL8
    refine rx ?_
    refine q_roundK (i' + 1) (by (repeat (first | exact Keep.mrg _ _ _ _ | (refine Keep.hi rfl ?_) | (refine Keep.one rfl ?_) | exact Keep.all rfl | (refine Keep.inn rfl ?_) | (refine Keep.set rfl ?_)))) ⟨.slice (some ad3) out.length cvv, rfl, by omega, hbT7.tr hf8 (by simp; omega), ?_, hkv, ?_, (hfw.trans0 hf08).trans hf8 (by simp)⟩ (by omega)
    · rw [hnx']; exact ownP_tr ndStab (ownP_tr ndStab hov6 hS1' (by simp) (by simp)) hf8 (by rw [hS1]; simp) (fun b hb hm => by have := hkv b hb; simp at hm; omega)
    · rw [hnx']; exact hbL8
  obtain rfl : a = out.length := by omega
  have hnm : ¬ posN out x' < out.length := fun h => by
    obtain ⟨j, hj, e⟩ := List.getElem_of_mem (posN_mem.1 h)
    exact hne j hj hj e
  have hpe : posN out x' = out.length := by have := posN_le out x'; omega
  rw [if_neg hnm, hpe] at hnx'
  have hlt2 : out.length ≤ 14 := by omega
  refine rx ?_
  refine s_pushA (R := plusR NdR S1) (l := out) (a := x') (cs := nc x' sw sl sv vk sx) hov6 stP rfl rfl rfl (by show NdR w6 (blks _ ++ S1) x' _; rw [← hS2]; exact hx6) rfl rfl rfl (by unfold maxLen; omega) (by omega) (fun v7 w7 ho7 hf7' hk7 => ?_)
  have hbv : ∀ b ∈ blks (.slice avv out.length cvv), b ≠ pT ∧ b ≠ PL := fun b hb => by have := hkv b hb; omega
  have hbT7 := hbT6.tr hf7' (fun h => (hbv _ h).1 rfl)
  have hbL7 := hbL6.tr hf7' (fun h => (hbv _ h).2 rfl)
  obtain ⟨a7, c7, rfl⟩ := ho7.slice
  have hk7' : ∀ b ∈ blks (.slice a7 (out ++ [x']).length c7), y4.heap.size ≤ b := fun b hb => by
    rcases hk7 b hb with h | h
    · exact hkv b h
    · have := hf06.size; omega
  refine rx ?_
  ((with_reducible apply s_storeB); exact rfl; (conv => lhs; whnf); exact rfl; exact hbT7; exact rfl)
  intro w8 hb8 hf8 hs8
  replace hb8 : Blk w8 pT [.slice a7 (out ++ [x']).length c7] 25 := hb8
  have ho8 := ownP_tr ndStab ho7 hf8 (by rw [hS1]; simp) (fun b hb hm => by have := hk7' b hb; simp at hm; omega)
  have hbL8 := hbL7.tr hf8 (by simp; omega)
  refine rx ?_
  rw [Nat.mul_one, add_lit PL 0 i', Nat.zero_add]
  refine s_storeBj (v := .int .i64 ((out.length : Nat) : Int)) rfl rfl rfl hbL8 (by rw [List.length_map]; omega) (fun w9 hbL9 hf9 hs9 => ?_)
  rw [ni_map, set_nextI hlen2 hlt] at hbL9
  have hfa : Fr [pT, PL] y4 w9 := (((hfw.trans0 hf06).trans hf7' (fun b hb => .inr (hkv b hb))).trans hf8 (by simp)).trans hf9 (by simp)
  refine rx ?_
  refine q_roundK (i' + 1) (by (repeat (first | exact Keep.mrg _ _ _ _ | (refine Keep.hi rfl ?_) | (refine Keep.one rfl ?_) | exact Keep.all rfl | (refine Keep.inn rfl ?_) | (refine Keep.set rfl ?_)))) ⟨.slice a7 (out ++ [x']).length c7, rfl, by omega, hb8.tr hf9 (by simp; omega), ?_, hk7', ?_, hfa⟩ (by omega)
  · rw [hnx']; exact ownP_tr ndStab ho8 hf9 (by rw [hS1]; simp) (fun b hb hm => by have := hk7' b hb; simp at hm; omega)
  · rw [hnx']; exact hbL9
end Go.Proofs.YtpochcchekoonaaGreat
namespace Go.Rf
open Go.RowKit
set_option linter.unusedVariables false
section
variable {P : Program} {n : Nat} {f : Env} {w : World} {d : Nat} {ty : TypeId} {ps : String} {af : Array Edge} {gd : Option (Nat × Bool)} {x y : Operand} {t t2 : Nat}
theorem r_neqBB {a b p : Bool} (hu : P.underlying t = some .bool) (hx : ev n f x = .bool a) (hy : ev n f y = .bool b) (hp : (!(a == b)) = p) :
    (execOp (ev n f) ⟨some d, .binOp .neq t x y t2, ty, ps, af, gd⟩).run P w = .ok (.value (.bool p)) w := by
  subst hp
  have : (Op.equal t (.bool a) (.bool b)).run P w = .ok (a == b) w := by
    have : ∀ dd, (Op.equalIn (dd + 1) t (.bool a) (.bool b)).run P w = .ok (a == b) w := fun dd => by simp [Op.equalIn, run_underlying hu]
    exact this 9999
  simp [execOp, eqGuard, binOp, hx, hy, this]
end
end Go.Rf
namespace Go.Proofs.YtpochcchekoonaaGreat
open Go.Rf Go.RowKit
set_option linter.unusedVariables false
set_option linter.unusedSimpArgs false
theorem bool_eq {p q : Bool} {a : Prop} (hp : p = true ↔ a) (hq : q = true ↔ a) : p = q := by
  cases p <;> cases q <;> simp_all
attribute [local irreducible] Code.wp wpList Exit.then Exit.inBlock bodyPost A Calls execOp Addr.add
set_option maxHeartbeats 32000000 in
theorem treeTrims_walk (x : Value) (l : List Int) (y : Value) (ms : List Int) (at_ how n : Int) (u : World) (hx : Src u x l.length (l.map (.int .i64))) (hl : ∀ n ∈ l, InI64 n) (hy : Src u y ms.length (ms.map (.int .i64))) (hms : ∀ n ∈ ms, InI64 n) (hat : InI64 at_) (hhow : InI64 how) (hn : InI64 n) :
    Calls Tryz.prog 3 #[x, y, .int .i64 at_, .int .i64 how, .int .i64 n] u fun e u' => e = .returned (.bool true) ∧ Fr [] u u' := by
  obtain ⟨ax, cx, rfl, _⟩ := id hx
  obtain ⟨ay, cy, rfl, _⟩ := id hy
  refine enter Tryz.func3 rfl Tryz.ntmps3 rfl ?_
  refine rx ?_
  refine s_call (treeP l hl _ u hx) rfl ?_
  rintro _ u1 ⟨t, sn, rfl, hns, hv0, hg, hlen, hf1⟩
  refine ⟨_, rfl, ?_⟩
  obtain ⟨an, cn, rfl, _⟩ := hns.slice
  refine s_alloc rfl (fun u2 hb2 hf2 hs2 => ?_)
  refine s_storeAggB (cs := [.slice an t.length cn]) rfl rfl hb2 (by simp [Value.oneCell']) rfl rfl (fun u3 hbt hf3 hs3 => ?_)
  obtain ⟨tb, htb⟩ : ∃ z, z = u1.heap.size := ⟨_, rfl⟩
  rw [← htb] at hbt hf3 ⊢
  have hf13 : Fr [] u1 u3 := hf2.trans hf3 (by simp; omega)
  have hF3 := hf1.trans0 hf13
  have hn3 := hns.tr0 hf13
  clear hb2
  refine rx ?_
  refine s_call (spoiltT t 0 (by omega) hg (by omega) at_ how n hat hhow hn _ u3 hn3) rfl ?_
  rintro _ u4 ⟨xt, sx, rfl, hnx, hlx, hgx, hf4⟩
  refine ⟨_, rfl, ?_⟩
  obtain ⟨ax2, cx2, rfl, _⟩ := hnx.slice
  refine s_alloc rfl (fun u5 hb5 hf5 hs5 => ?_)
  refine s_storeAggB (cs := [.slice ax2 xt.length cx2]) rfl rfl hb5 (by simp [Value.oneCell']) rfl rfl (fun u6 hbx hf6 hs6 => ?_)
  obtain ⟨xb, hxb⟩ : ∃ z, z = u4.heap.size := ⟨_, rfl⟩
  rw [← hxb] at hbx hf6 ⊢
  have hf46 : Fr [] u4 u6 := hf5.trans hf6 (by simp; omega)
  have hf36 := hf4.trans0 hf46
  have hF6 := hF3.trans0 hf36
  have hn6 := hn3.tr0 hf36
  have hnx6 := hnx.tr0 hf46
  have hbt6 := hbt.tr0 hf36
  clear hb5
  refine rx ?_
  refine s_call (trimP t 0 (by omega) hg hlen _ u6 hn6) rfl ?_
  rintro _ u7 ⟨sy, rfl, hny, hf7⟩
  refine ⟨_, rfl, ?_⟩
  obtain ⟨hgy, hly⟩ := trmT_g hg (by omega)
  obtain ⟨ayn, cyn, rfl, _⟩ := hny.slice
  refine s_alloc rfl (fun u8 hb8 hf8 hs8 => ?_)
  refine s_storeAggB (cs := [.slice ayn (trmT t).length cyn]) rfl rfl hb8 (by simp [Value.oneCell']) rfl rfl (fun u9 hby hf9 hs9 => ?_)
  obtain ⟨yb, hyb⟩ : ∃ z, z = u7.heap.size := ⟨_, rfl⟩
  rw [← hyb] at hby hf9 ⊢
  have hf79 : Fr [] u7 u9 := hf8.trans hf9 (by simp; omega)
  have hf69 := hf7.trans0 hf79
  have hF9 := hF6.trans0 hf69
  have hn9 := hn6.tr0 hf69
  have hnx9 := hnx6.tr0 hf69
  have hny9 := hny.tr0 hf79
  have hbt9 := hbt6.tr0 hf69
  have hbx9 := hbx.tr0 hf69
  clear hb8 hbt hbt6 hbx hns hn3 hn6 hnx hnx6 hny
  have hvy := trmT_valid hv0
  have bd : ∀ (q : List Nd) (m : Nat), (∀ y ∈ q, NdG m y) → ∀ y ∈ q, y.ws.length ≤ 1000000000000 ∧ y.labs.length ≤ 1000000000000 ∧ y.kids.length ≤ 1000000000000 ∧ y.vals.length ≤ 1000000000000 := fun q m h y hy => by
    have := (h y hy).ok
    have h1 := this.lw
    have h2 := this.ll
    have h3 := this.lk
    have h4 := this.lv
    omega
  have bd3 : ∀ (q : List Nd) (m : Nat), (∀ y ∈ q, NdG m y) → ∀ y ∈ q, y.ws.length ≤ 1000000000000 ∧ y.labs.length ≤ 1000000000000 ∧ y.kids.length ≤ 1000000000000 := fun q m h y hy => ⟨(bd q m h y hy).1, (bd q m h y hy).2.1, (bd q m h y hy).2.2.1⟩
  obtain ⟨hgxx, hlxx⟩ := trmT_g hgx (by omega)
  obtain ⟨hgyy, hlyy⟩ := trmT_g hgy (by omega)
  have hag := trmT_again hv0
  refine rx ?_
  (refine d_begin (fun y => Fr [] u9 y) (by kernel_rfl) rfl ?_)
  have hS0 : Fr [] u9 u9.drew := Fr.drew _ _
  (apply d_take (i := 0); exact rfl; kernel_rfl; kernel_rfl; kernel_rfl; (intro u hu; exact (r_loadC rfl (Cells.ofBlk (hby.tr0 hu)) (by rfl))); exact hS0)
  (apply d_take (i := 1); exact rfl; kernel_rfl; kernel_rfl; kernel_rfl; (intro u hu; exact (r_loadC rfl (Cells.ofBlk (hbt9.tr0 hu)) (by rfl))); exact hS0)
  refine d_one (i := 2) rfl (by kernel_rfl) ?_
  refine s_call (refTrimP t 0 (by omega) hg hlen _ u9.drew (hn9.tr0 hS0)) rfl ?_
  rintro _ z1 ⟨sr1, rfl, hnr1, hz1⟩
  refine ⟨_, rfl, ?_⟩
  have hS1 := hS0.trans0 hz1
  refine wpList_nil (q_held hS1 ?_)
  refine d_one (i := 3) rfl (by kernel_rfl) ?_
  refine s_call (equalC (trmT t) (trmT t) _ _ z1 (hny9.tr0 hS1) hnr1 (by omega) (bd3 _ _ hgy)) rfl ?_
  rintro _ z2 ⟨p, rfl, hp, hz2⟩
  refine ⟨_, rfl, ?_⟩
  obtain rfl : p = true := hp.2 rfl
  have hS2 := hS1.trans0 hz2
  refine wpList_nil (q_held hS2 ?_)
  ((first | refine d_tx 4 hS2 ?_ | refine d_ty 4 hS2 ?_ | refine d_tn 4 hS2 ?_); (first | refine d_tx 5 hS2 ?_ | refine d_ty 5 hS2 ?_ | refine d_tn 5 hS2 ?_))
  (apply d_yes (i := 6); exact rfl; exact rfl; kernel_rfl; kernel_rfl; kernel_rfl; (intro u hu; exact (r_loadC rfl (Cells.ofBlk (hbx9.tr0 hu)) (by rfl))); exact hS2)
  (apply d_yes (i := 8); exact rfl; exact rfl; kernel_rfl; kernel_rfl; kernel_rfl; (intro u hu; exact (r_loadC rfl (Cells.ofBlk (hbx9.tr0 hu)) (by rfl))); exact hS2)
  refine d_one (i := 7) rfl (by kernel_rfl) ?_
  refine rx ?_
  refine s_call (trimP xt 1 (by omega) hgx (by omega) _ z2 (hnx9.tr0 hS2)) rfl ?_
  rintro _ z3 ⟨sr3, rfl, hnr3, hz3⟩
  refine ⟨_, rfl, ?_⟩
  have hS3 := hS2.trans0 hz3
  refine wpList_nil (q_held hS3 ?_)
  refine d_one (i := 9) rfl (by kernel_rfl) ?_
  refine rx ?_
  refine s_call (refTrimP xt 1 (by omega) hgx (by omega) _ z3 (hnx9.tr0 hS3)) rfl ?_
  rintro _ z4 ⟨sr4, rfl, hnr4, hz4⟩
  refine ⟨_, rfl, ?_⟩
  have hS4 := hS3.trans0 hz4
  refine wpList_nil (q_held hS4 ?_)
  refine d_one (i := 10) rfl (by kernel_rfl) ?_
  refine rx ?_
  refine s_call (equalC (trmT xt) (trmT xt) _ _ z4 (hnr3.tr0 hz4) hnr4 (by omega) (bd3 _ _ hgxx)) rfl ?_
  rintro _ z5 ⟨p, rfl, hp, hz5⟩
  refine ⟨_, rfl, ?_⟩
  obtain rfl : p = true := hp.2 rfl
  have hS5 := hS4.trans0 hz5
  refine wpList_nil (q_held hS5 ?_)
  ((first | refine d_tx 11 hS5 ?_ | refine d_ty 11 hS5 ?_ | refine d_tn 11 hS5 ?_); (first | refine d_tx 12 hS5 ?_ | refine d_ty 12 hS5 ?_ | refine d_tn 12 hS5 ?_); (first | refine d_tx 13 hS5 ?_ | refine d_ty 13 hS5 ?_ | refine d_tn 13 hS5 ?_))
  (apply d_yes (i := 14); exact rfl; exact rfl; kernel_rfl; kernel_rfl; kernel_rfl; (intro u hu; exact (r_loadC rfl (Cells.ofBlk (hby.tr0 hu)) (by rfl))); exact hS5)
  (apply d_yes (i := 16); exact rfl; exact rfl; kernel_rfl; kernel_rfl; kernel_rfl; (intro u hu; exact (r_loadC rfl (Cells.ofBlk (hby.tr0 hu)) (by rfl))); exact hS5)
  refine d_one (i := 15) rfl (by kernel_rfl) ?_
  refine rx ?_
  refine s_call (trimP (trmT t) 0 (by omega) hgy (by omega) _ z5 (hny9.tr0 hS5)) rfl ?_
  rintro _ z6 ⟨sr6, rfl, hnr6, hz6⟩
  refine ⟨_, rfl, ?_⟩
  rw [hag] at hnr6
  have hS6 := hS5.trans0 hz6
  refine wpList_nil (q_held hS6 ?_)
  refine d_one (i := 17) rfl (by kernel_rfl) ?_
  refine rx ?_
  refine s_call (equalC (trmT t) (trmT t) _ _ z6 hnr6 (hny9.tr0 hS6) (by omega) (bd3 _ _ hgy)) rfl ?_
  rintro _ z7 ⟨p, rfl, hp, hz7⟩
  refine ⟨_, rfl, ?_⟩
  obtain rfl : p = true := hp.2 rfl
  have hS7 := hS6.trans0 hz7
  refine wpList_nil (q_held hS7 ?_)
  ((first | refine d_tx 18 hS7 ?_ | refine d_ty 18 hS7 ?_ | refine d_tn 18 hS7 ?_); (first | refine d_tx 19 hS7 ?_ | refine d_ty 19 hS7 ?_ | refine d_tn 19 hS7 ?_))
  (refine d_done (by kernel_rfl) ?_)
  have hF10 := hF9.trans0 hS7
  have hn10 := hn9.tr0 hS7
  have hnx10 := hnx9.tr0 hS7
  have hny10 := hny9.tr0 hS7
  have hbt10 := hbt9.tr0 hS7
  have hbx10 := hbx9.tr0 hS7
  have hby10 := hby.tr0 hS7
  clear hn9 hnx9 hny9 hbt9 hbx9 hby hnr1 hnr3 hnr4 hnr6 hS0 hS1 hS2 hS3 hS4 hS5 hS6 hS7 hz1 hz2 hz3 hz4 hz5 hz6 hz7
  refine rx ?_
  (refine d_begin (fun y => Fr [] z7 y) (by kernel_rfl) rfl ?_)
  have hT0 : Fr [] z7 z7.drew := Fr.drew _ _
  (apply d_take (i := 0); exact rfl; kernel_rfl; kernel_rfl; kernel_rfl; (intro u hu; exact (r_loadC rfl (Cells.ofBlk (hbt10.tr0 hu)) (by rfl))); exact hT0)
  (apply d_take (i := 1); exact rfl; kernel_rfl; kernel_rfl; kernel_rfl; (intro u hu; exact (r_loadC rfl (Cells.ofBlk (hbx10.tr0 hu)) (by rfl))); exact hT0)
  (apply d_take (i := 3); exact rfl; kernel_rfl; kernel_rfl; kernel_rfl; (intro u hu; exact (r_loadC rfl (Cells.ofBlk (hbt10.tr0 hu)) (by rfl))); exact hT0)
  (apply d_take (i := 4); exact rfl; kernel_rfl; kernel_rfl; kernel_rfl; (intro u hu; exact (r_loadC rfl (Cells.ofBlk (hbx10.tr0 hu)) (by rfl))); exact hT0)
  refine d_one (i := 2) rfl (by kernel_rfl) ?_
  refine s_call (treeEqual t xt _ _ z7.drew (hn10.tr0 hT0) (hnx10.tr0 hT0) (by omega) (bd _ _ hg)) rfl ?_
  rintro _ z8 ⟨p, rfl, hp, hz8⟩
  refine ⟨_, rfl, ?_⟩
  have hT1 := hT0.trans0 hz8
  refine wpList_nil (q_held hT1 ?_)
  refine d_one (i := 5) rfl (by kernel_rfl) ?_
  refine s_call (equalC t xt _ _ z8 (hn10.tr0 hT1) (hnx10.tr0 hT1) (by omega) (bd3 _ _ hg)) rfl ?_
  rintro _ z9 ⟨p', rfl, hp', hz9⟩
  refine ⟨_, rfl, ?_⟩
  obtain rfl := bool_eq hp hp'
  have hT2 := hT1.trans0 hz9
  refine wpList_nil (q_held hT2 ?_)
  (apply d_take (i := 6); exact rfl; kernel_rfl; kernel_rfl; kernel_rfl; (intro u hu; exact (r_neqBB (p := false) Tryz.underlying4 rfl rfl (by cases p <;> rfl))); exact hT2)
  ((first | refine d_tx 7 hT2 ?_ | refine d_ty 7 hT2 ?_ | refine d_tn 7 hT2 ?_))
  (apply d_yes (i := 8); exact rfl; exact rfl; kernel_rfl; kernel_rfl; kernel_rfl; (intro u hu; exact (r_loadC rfl (Cells.ofBlk (hbt10.tr0 hu)) (by rfl))); exact hT2)
  (apply d_yes (i := 9); exact rfl; exact rfl; kernel_rfl; kernel_rfl; kernel_rfl; (intro u hu; exact (r_loadC rfl (Cells.ofBlk (hby10.tr0 hu)) (by rfl))); exact hT2)
  (apply d_yes (i := 11); exact rfl; exact rfl; kernel_rfl; kernel_rfl; kernel_rfl; (intro u hu; exact (r_loadC rfl (Cells.ofBlk (hbt10.tr0 hu)) (by rfl))); exact hT2)
  (apply d_yes (i := 12); exact rfl; exact rfl; kernel_rfl; kernel_rfl; kernel_rfl; (intro u hu; exact (r_loadC rfl (Cells.ofBlk (hby10.tr0 hu)) (by rfl))); exact hT2)
  refine d_one (i := 10) rfl (by kernel_rfl) ?_
  refine rx ?_
  refine s_call (treeEqual t (trmT t) _ _ z9 (hn10.tr0 hT2) (hny10.tr0 hT2) (by omega) (bd _ _ hg)) rfl ?_
  rintro _ z10 ⟨p2, rfl, hp2, hz10⟩
  refine ⟨_, rfl, ?_⟩
  have hT3 := hT2.trans0 hz10
  refine wpList_nil (q_held hT3 ?_)
  refine d_one (i := 13) rfl (by kernel_rfl) ?_
  refine rx ?_
  refine s_call (equalC t (trmT t) _ _ z10 (hn10.tr0 hT3) (hny10.tr0 hT3) (by omega) (bd3 _ _ hg)) rfl ?_
  rintro _ z11 ⟨p3, rfl, hp3, hz11⟩
  refine ⟨_, rfl, ?_⟩
  obtain rfl := bool_eq hp2 hp3
  have hT4 := hT3.trans0 hz11
  refine wpList_nil (q_held hT4 ?_)
  (apply d_yes (i := 14); exact rfl; exact rfl; kernel_rfl; kernel_rfl; kernel_rfl; (intro u hu; exact (r_neqBB (p := false) Tryz.underlying4 rfl rfl (by cases p2 <;> rfl))); exact hT4)
  ((first | refine d_tx 15 hT4 ?_ | refine d_ty 15 hT4 ?_ | refine d_tn 15 hT4 ?_); (first | refine d_tx 16 hT4 ?_ | refine d_ty 16 hT4 ?_ | refine d_tn 16 hT4 ?_))
  (apply d_yes (i := 17); exact rfl; exact rfl; kernel_rfl; kernel_rfl; kernel_rfl; (intro u hu; exact (r_loadC rfl (Cells.ofBlk (hbt10.tr0 hu)) (by rfl))); exact hT4)
  (apply d_yes (i := 18); exact rfl; exact rfl; kernel_rfl; kernel_rfl; kernel_rfl; (intro u hu; exact (r_loadC rfl (Cells.ofBlk (hbt10.tr0 hu)) (by rfl))); exact hT4)
  refine d_one (i := 19) rfl (by kernel_rfl) ?_
  refine rx ?_
  refine s_call (treeEqual t t _ _ z11 (hn10.tr0 hT4) (hn10.tr0 hT4) (by omega) (bd _ _ hg)) rfl ?_
  rintro _ z12 ⟨p4, rfl, hp4, hz12⟩
  refine ⟨_, rfl, ?_⟩
  obtain rfl : p4 = true := hp4.2 rfl
  have hT5 := hT4.trans0 hz12
  refine wpList_nil (q_held hT5 ?_)
  ((first | refine d_tx 20 hT5 ?_ | refine d_ty 20 hT5 ?_ | refine d_tn 20 hT5 ?_); (first | refine d_tx 21 hT5 ?_ | refine d_ty 21 hT5 ?_ | refine d_tn 21 hT5 ?_); (first | refine d_tx 22 hT5 ?_ | refine d_ty 22 hT5 ?_ | refine d_tn 22 hT5 ?_))
  ((first | refine d_tx 23 hT5 ?_ | refine d_ty 23 hT5 ?_ | refine d_tn 23 hT5 ?_))
  (apply d_yes (i := 24); exact rfl; exact rfl; kernel_rfl; kernel_rfl; kernel_rfl; (intro u hu; exact (r_build (vc (numV n) (.slice none 0 0)) (by rfl))); exact hT5)
  ((first | refine d_tx 26 hT5 ?_ | refine d_ty 26 hT5 ?_ | refine d_tn 26 hT5 ?_))
  (apply d_yes (i := 27); exact rfl; exact rfl; kernel_rfl; kernel_rfl; kernel_rfl; (intro u hu; exact (r_build (vc (numV n) (.slice none 0 0)) (by rfl))); exact hT5)
  (apply d_yes (i := 28); exact rfl; exact rfl; kernel_rfl; kernel_rfl; kernel_rfl; (intro u hu; exact (r_build (nc (lfN (numV n)) (.slice none 0 0) (.slice none 0 0) (.slice none 0 0) (.slice none 0 0) (.slice none 0 0)) (by rfl))); exact hT5)
  refine d_two (i := 25) (j := 29) rfl rfl (by kernel_rfl) ?oa ?ob
  case' oa =>
    refine rx ?_
    refine s_call (leafT (numV n) (.slice none 0 0) z12 (VS.nil _ _)) rfl ?_
    rintro _ zz ⟨snl, rfl, hnl, hf13a⟩
    refine ⟨_, rfl, ?_⟩
    replace hT5 := hT5.trans0 hf13a
    refine wpList_nil (q_held hT5 ?_)
    refine d_one (i := 29) rfl (by kernel_rfl) ?_
    refine rx ?_
    refine s_buildS (nc (lfN (numV n)) (.slice none 0 0) (.slice none 0 0) (.slice none 0 0) (.slice none 0 0) (.slice none 0 0)) rfl rfl rfl rfl (fun zz ho4 hf14a hs14 => ?_)
    replace hnl := hnl.tr0 hf14a
    replace hT5 := hT5.trans0 hf14a
    refine wpList_nil (q_held hT5 ?_)
    (apply d_yes (i := 30); exact rfl; exact rfl; kernel_rfl; kernel_rfl; kernel_rfl; (intro u hu; exact (r_build [.slice (some ⟨_, 0, none⟩) 1 1] (by rfl))); exact hT5)
  case' ob =>
    refine rx ?_
    refine s_buildS (nc (lfN (numV n)) (.slice none 0 0) (.slice none 0 0) (.slice none 0 0) (.slice none 0 0) (.slice none 0 0)) rfl rfl rfl rfl (fun zz ho4 hf14a hs14 => ?_)
    replace hT5 := hT5.trans0 hf14a
    refine wpList_nil (q_held hT5 ?_)
    (apply d_yes (i := 30); exact rfl; exact rfl; kernel_rfl; kernel_rfl; kernel_rfl; (intro u hu; exact (r_build [.slice (some ⟨_, 0, none⟩) 1 1] (by rfl))); exact hT5)
    refine d_one (i := 25) rfl (by kernel_rfl) ?_
    refine rx ?_
    refine s_call (leafT (numV n) (.slice none 0 0) zz (VS.nil _ _)) rfl ?_
    rintro _ zz ⟨snl, rfl, hnl, hf13a⟩
    refine ⟨_, rfl, ?_⟩
    replace ho4 := ho4.tr0 hf13a
    replace hT5 := hT5.trans0 hf13a
    refine wpList_nil (q_held hT5 ?_)
  all_goals
    have hlf : NS zz [] [lfN (numV n)] _ := ⟨_, ho4.src, fun _ _ _ _ _ => by simp, Rws.one ⟨_, _, _, _, _, rfl, Ls.nil, Ls.nil, VS.nil _ _, Ls.nil, VS.nil _ _⟩⟩
    have hnl' : NS zz [] [lfN (numV n)] snl := hnl
    refine d_one (i := 31) rfl (by kernel_rfl) ?_
    refine rx ?_
    refine s_call (equalC [lfN (numV n)] [lfN (numV n)] _ _ zz hnl' hlf (by simp) (by simp [lfN])) rfl ?_
    rintro _ z14 ⟨p5, rfl, hp5, hz14⟩
    refine ⟨_, rfl, ?_⟩
    obtain rfl : p5 = true := hp5.2 rfl
    have hT6 := hT5.trans0 hz14
    refine wpList_nil (q_held hT6 ?_)
    ((first | refine d_tx 32 hT6 ?_ | refine d_ty 32 hT6 ?_ | refine d_tn 32 hT6 ?_); (first | refine d_tx 33 hT6 ?_ | refine d_ty 33 hT6 ?_ | refine d_tn 33 hT6 ?_))
    (refine d_done (by kernel_rfl) ?_)
    have hF11 := hF10.trans0 hT6
    have hn11 := hn10.tr0 hT6
    have hny11 := hny10.tr0 hT6
    have hbt11 := hbt10.tr0 hT6
    have hby11 := hby10.tr0 hT6
    clear hlf hnl' hnl ho4 hT0 hT1 hT2 hT3 hT4 hT5 hz8 hz9 hz10 hz11 hz12 hn10 hny10 hbt10 hbx10 hby10 hnx10
    have hlt0 : ∀ (w : World), ∀ q ∈ ([] : List Nat), q < w.heap.size := fun w q hq => by simp at hq
    refine rx ?_
    refine s_call (rawP ms hms _ 14 (by omega) z14 (hy.tr0 hF11)) rfl ?_
    rintro _ w1 ⟨rv, rfl, hor, _, hfw1⟩
    refine ⟨_, rfl, ?_⟩
    have hrs : IS w1 [] (rawN ms 14) rv := Ls.ofSrc (by rw [rawN_len]; exact hor.src)
    obtain ⟨hft, hvt⟩ := trmT_fit hv0 (rawN ms 14)
    have hPl : (fitT t (rawN ms 14)).1.length ≤ 256 := by
      have hv := VT.of hv0
      unfold fitT
      rw [if_pos hv0]
      split
      · have := fit_len hv (rawN ms 14) (t.length - 1) (by omega) []
        have h0 := hv.l0 (i := t.length - 1) (by omega)
        simp only [List.length_nil] at this
        show (fit (rawN ms 14) (tA t (t.length - 1)) []).2.length ≤ 256
        omega
      · simp
    have hbt12 := hbt11.tr0 hfw1
    have hby12 := hby11.tr0 hfw1
    generalize rawN ms 14 = raw at hrs hft hvt hPl
    have hok : ∀ x ∈ t, NdOk x := fun x hx => (hg x hx).ok
    have hoky : ∀ x ∈ trmT t, NdOk x := fun x hx => (hgy x hx).ok
    refine rx ?_
    refine s_call (fitTP t hok (by omega) raw (Nat.zero_le _) [] _ rv w1 (hn11.tr0 hfw1) hrs (hlt0 _)) rfl ?_
    rintro _ w2 ⟨pv, rfl, hop, _, hfw2⟩
    refine ⟨_, rfl, ?_⟩
    have hby13 := hby12.tr0 hfw2
    refine rx ?_
    refine s_call (fitTP (trmT t) hoky (by omega) raw (Nat.zero_le _) [] _ rv w2 (hny11.tr0 (hfw1.trans0 hfw2)) (hrs.tr0 hfw2) (hlt0 _)) rfl ?_
    rintro _ w3 ⟨pv2, rfl, hop2, _, hfw3⟩
    refine ⟨_, rfl, ?_⟩
    rw [hft] at hop2 ⊢
    have hop3 := hop.tr0 hfw3
    have hf03 := (hfw1.trans0 hfw2).trans0 hfw3
    generalize fitT t raw = ft at hop2 hop3 hvt hPl
    have hp3 : IS w3 [] ft.1 pv := Own.is hop3
    have hp4 : IS w3 [] ft.1 pv2 := Own.is hop2
    have hbt3 := hbt11.tr0 hf03
    have hby3 := hby11.tr0 hf03
    have hn3 := hn11.tr0 hf03
    have hny3 := hny11.tr0 hf03
    have hF12 := hF11.trans0 hf03
    clear hbt11 hby11 hn11 hny11
    refine rx ?_
    refine s_call (valueP t hok (by omega) ft.1 (by omega) [] _ _ w3 hn3 hp3 (hlt0 _)) rfl ?_
    rintro _ w4 ⟨s4, rfl, hfw4, hV4⟩
    refine ⟨_, rfl, ?_⟩
    have hv4 := hV4 [] (hlt0 _)
    obtain ⟨as4, cs4, rfl, _⟩ := hv4.slice
    have hby4 := hby3.tr0 hfw4
    have hbt4 := hbt3.tr0 hfw4
    refine rx ?_
    refine s_alloc rfl (fun w5 hb5 hfw5 hs5 => ?_)
    refine s_storeAggB (cs := vc (valT t ft.1).1 (.slice as4 (valT t ft.1).1.kids.length cs4)) rfl rfl hb5 (VR.mem1 _ _ ⟨_, rfl, hv4⟩) rfl rfl (fun w6 hb6 hfw6 hs6 => ?_)
    obtain ⟨vb, hvb⟩ : ∃ z, z = w4.heap.size := ⟨_, rfl⟩
    rw [← hvb] at hb6 hfw6 ⊢
    have hf46 : Fr [] w4 w6 := hfw5.trans hfw6 (by simp; omega)
    have hby6 := hby4.tr0 hf46
    have hbt6 := hbt4.tr0 hf46
    have hf36 := hfw4.trans0 hf46
    clear hb5
    refine rx ?_
    refine s_call (valueP (trmT t) hoky (by omega) ft.1 (by omega) [] _ _ w6 (hny3.tr0 hf36) (hp3.tr0 hf36) (hlt0 _)) rfl ?_
    rintro _ w7 ⟨s7, rfl, hfw7, hV7⟩
    refine ⟨_, rfl, ?_⟩
    rw [hvt] at hV7 ⊢
    have hv7 := hV7 [] (hlt0 _)
    obtain ⟨as7, cs7, rfl, _⟩ := hv7.slice
    have hb67 := hb6.tr0 hfw7
    have hby7 := hby6.tr0 hfw7
    refine rx ?_
    refine s_alloc rfl (fun w8 hb8 hfw8 hs8 => ?_)
    refine s_storeAggB (cs := vc (valT t ft.1).1 (.slice as7 (valT t ft.1).1.kids.length cs7)) rfl rfl hb8 (VR.mem1 _ _ ⟨_, rfl, hv7⟩) rfl rfl (fun w9 hb9 hfw9 hs9 => ?_)
    obtain ⟨wb, hwb⟩ : ∃ z, z = w7.heap.size := ⟨_, rfl⟩
    rw [← hwb] at hb9 hfw9 ⊢
    have hf79 : Fr [] w7 w9 := hfw8.trans hfw9 (by simp; omega)
    have hb69 := hb67.tr0 hf79
    have hby9 := hby7.tr0 hf79
    have hf39 := (hf36.trans0 hfw7).trans0 hf79
    have hF13 := hF12.trans0 hf39
    clear hb8
    refine rx ?_
    refine s_call (sameInts pv pv2 ft.1 ft.1 w9 (hp3.tr0 hf39).1 (hp4.tr0 hf39).1 (by omega)) rfl ?_
    rintro _ w10 ⟨rfl, hfw10⟩
    refine ⟨_, rfl, ?_⟩
    rw [decide_eq_true rfl]
    have hb6a := hb69.tr0 hfw10
    have hb9a := hb9.tr0 hfw10
    have hby10 := hby9.tr0 hfw10
    replace hb6a : Blk w10 vb (vc (valT t ft.1).1 (.slice as4 (valT t ft.1).1.kids.length cs4)) 33 := hb6a
    replace hb9a : Blk w10 wb (vc (valT t ft.1).1 (.slice as7 (valT t ft.1).1.kids.length cs7)) 33 := hb9a
    have hv4a : VS w10 [] (valT t ft.1).1.kids (.slice as4 (valT t ft.1).1.kids.length cs4) := ((hv4.tr0 hf46).tr0 (hfw7.trans0 hf79)).tr0 hfw10
    have hv7a : VS w10 [] (valT t ft.1).1.kids (.slice as7 (valT t ft.1).1.kids.length cs7) := (hv7.tr0 hf79).tr0 hfw10
    generalize valT t ft.1 = vt at hb6a hb9a hv4a hv7a
    refine rx ?_
    refine s_call (compareR vt.1 vt.1 _ _ w10 hv4a hv7a) rfl ?_
    rintro _ w11 ⟨rfl, hfw11⟩
    refine ⟨_, rfl, ?_⟩
    rw [cmpV_refl]
    have hby11 := hby10.tr0 hfw11
    refine rx ?_
    refine s_call (validPT (trmT t) _ w11 ((hny3.tr0 hf39).tr0 (hfw10.trans0 hfw11)) hoky (by omega)) rfl ?_
    rintro _ w12 ⟨rfl, hfw12⟩
    refine ⟨_, rfl, ?_⟩
    rw [hvy]
    refine rx ?_
    refine s_call (livesP w12) rfl ?_
    rintro _ w13 ⟨rfl, hfw13⟩
    refine ⟨_, rfl, ?_⟩
    refine rx ?_
    (apply ret1; exact rfl; (conv => lhs; whnf))
    exact ⟨rfl, (((hF13.trans0 hfw10).trans0 hfw11).trans0 hfw12).trans0 hfw13⟩
end Go.Proofs.YtpochcchekoonaaGreat
