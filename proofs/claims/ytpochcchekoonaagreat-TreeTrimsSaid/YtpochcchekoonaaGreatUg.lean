/-
  Package tree: read's follow.
-/
import Derived.Test.YtpochcchekoonaaGreatA6
namespace Go.Proofs.YtpochcchekoonaaGreat
open Go.Rf Go.RowKit
set_option linter.unusedVariables false
set_option linter.unusedSimpArgs false
attribute [local irreducible] Code.wp wpList Exit.then Exit.inBlock bodyPost A Calls execOp Addr.add
def skipB (t : List Nd) (flag : Bool) (k : Nat) : Prop := lT t k = 0 ∧ (flag = false ∨ pT t k = true)
/-- how many spans a node can have -/
structure SpB (t : List Nd) (flag : Bool) (bs : Nat → Nat) : Prop where
  cho : ∀ k (hk : k < t.length), t[k].kind = 2 → ∀ q ∈ t[k].kids, bs q.toNat ≤ bs k
  seq : ∀ k (hk : k < t.length), t[k].kind = 3 → ¬ skipB t flag k → (t[k].kids.map fun q => 1 + bs q.toNat).sum ≤ bs k
  bnd : ∀ k (hk : k < t.length), t[k].kind = 4 → ¬ skipB t flag k → ∀ q ∈ t[k].kids.tail, bs (t[k].kids.headD 0).toNat + bs q.toNat ≤ bs k
def RdPost (c : Cp) (S : List Nat) (u : World) (sp : List Sp) (sv : Value) (m : Nat) : Res V → Ending → World → Prop
  | .ok v e' sp1, e, u' => ∃ s sv' sp', e = .returned (.agg (vc v s).toArray) ∧ VS u' (S ++ blks sv') v.kids s ∧ RdK c u' e' (sp ++ sp') sv' ∧ (c.flag = true → sp' = sp1) ∧ sp'.length ≤ m ∧ Fr (c.ab :: c.rb :: blks sv) u u' ∧ (∀ q ∈ blks sv', q ∈ blks sv ∨ u.heap.size ≤ q)
  | .stop i _, e, u' => e = .panicked [stp i 0] ∧ Pan c u sv u'
  | .bad, e, u' => e = .panicked [stp (-1) 11] ∧ Pan c u sv u'
def RdC (t : List Nd) (path : List Int) (bs : Nat → Nat) (flag : Bool) (k : Nat) : Prop := ∀ (c : Cp) (S : List Nat) (u : World) (a : Nat) (sp : List Sp) (sv : Value), c.flag = flag → RdCap c t path S u → RdK c u a sp sv → (c.ab ∈ S ∧ c.rb ∈ S ∧ ∀ q ∈ blks sv, q ∈ S) → (∀ q ∈ S, q < u.heap.size) → a ≤ path.length → sp.length + bs k ≤ 100000000000 →
  Calls Tryz.prog 119 (.int .i64 (k : Nat) :: c.caps).toArray u (RdPost c S u sp sv (bs k) (rd path (tA t k) a))
def contS (vs : List V) (sq : List Sp) : Res (List V) → Res (List V)
  | .ok vs2 e sp2 => .ok (vs ++ vs2) e (sq ++ sp2)
  | .stop i n => .stop i n
  | .bad => .bad
theorem contS_step {P : List Int} {s a e : Nat} {vs : List V} {sq : List Sp} {x : T} {ts : List T} {v : V} {sp1 : List Sp} (h : rd P x a = .ok v e sp1) : contS vs sq (rdS P s (x :: ts) a) = contS (vs ++ [v]) (sq ++ (s, a, e) :: sp1) (rdS P s ts e) := by
  simp only [rdS, h, Res.bind_ok]
  rcases rdS P s ts e with ⟨v2, e2, sp2⟩ | ⟨i, n⟩ | _ <;> simp [contS]
theorem contS_stop {P : List Int} {s a i n : Nat} {vs : List V} {sq : List Sp} {x : T} {ts : List T} (h : rd P x a = .stop i n) : contS vs sq (rdS P s (x :: ts) a) = .stop i n := by simp [rdS, h, contS]
theorem contS_bad {P : List Int} {s a : Nat} {vs : List V} {sq : List Sp} {x : T} {ts : List T} (h : rd P x a = .bad) : contS vs sq (rdS P s (x :: ts) a) = .bad := by simp [rdS, h, contS]

/-! spans as rows -/
def spR : World → List Nat → Sp → List Value → Prop := fun _ _ x cs => cs = [.int .i64 x.1, .int .i64 x.2.1, .int .i64 x.2.2]
theorem spStab : Stab spR 3 where
  tr h _ := h
  mono h _ := h
  len h := by rw [h]; rfl
  one h := by rw [h]; intro u hu; simp only [List.mem_cons, List.not_mem_nil, or_false] at hu; rcases hu with rfl | rfl | rfl <;> rfl
theorem spRws {R : Sp → List Value → Prop} (hR : ∀ x cs, R x cs ↔ cs = [.int .i64 x.1, .int .i64 x.2.1, .int .i64 x.2.2]) {l : List Sp} {ys : List Value} : Rws R l ys ↔ ys = spC l := by
  constructor
  · intro h
    induction h with
    | nil => rfl
    | cons h1 _ ih => rw [(hR _ _).1 h1, ih]; rfl
  · rintro rfl
    induction l with
    | nil => exact .nil
    | cons x l ih => exact .cons ((hR _ _).2 rfl) ih
theorem spOwn {w : World} {e : Nat} {l : List Sp} {v : Value} : OwnR w e 3 spR l v ↔ Own w e 3 v l.length (spC l) := by
  constructor
  · rintro ⟨ys, h1, h2⟩
    rw [(spRws (fun _ _ => Iff.rfl)).1 h2] at h1; exact h1
  · intro h
    exact ⟨_, h, (spRws (fun _ _ => Iff.rfl)).2 rfl⟩
theorem sum_tail {l : List Int} {f : Int → Nat} {j : Nat} (hj : j < l.length) : ((l.drop j).map f).sum = f l[j] + ((l.drop (j + 1)).map f).sum := by
  rw [List.drop_eq_getElem_cons hj]; rfl

set_option maxHeartbeats 32000000 in
theorem followR (t : List Nd) (hv : VT t) (hok : ∀ x ∈ t, NdOk x) (path : List Int) (bs : Nat → Nat) (flag : Bool) (hbs : SpB t flag bs) : ∀ k, k < t.length → RdC t path bs flag k := by
  refine vInd fun k hk ih => ?_
  intro c S u a sp sv hflag hc hr hin hSb ha hsp
  have htl : t.length ≤ 1000000 := by have := hv.len; omega
  have hokx := hok t[k] (by simp)
  have hlk := hokx.lk
  have hrng := hv.rng hk
  have hpl := hc.plen
  have hpS : ∀ q ∈ c.ab :: c.rb :: blks sv, q ∈ S := fun q hq => by
    rcases List.mem_cons.1 hq with rfl | h
    · exact hin.1
    rcases List.mem_cons.1 h with rfl | h
    · exact hin.2.1
    · exact hin.2.2 q h
  refine enter (l := .int .i64 (k : Nat) :: c.caps) Tryz.func119 rfl Tryz.ntmps119 rfl ?_
  unfold Cp.caps
  refine rx ?_
  refine s_alloc rfl (fun u1 hb1 hf1 hs1 => ?_)
  obtain ⟨N, hN⟩ : ∃ N, N = u.heap.size := ⟨_, rfl⟩
  rw [← hN] at hb1 ⊢
  have hNS : ∀ q ∈ N :: S, q ∈ S ∨ u.heap.size ≤ q := fun q hq => by
    rcases List.mem_cons.1 hq with h | h
    · right; omega
    · exact .inl h
  have hc1 : RdCap c t path (N :: S) u1 := (hc.mono hNS).tr0 hf1
  have hr1 := hr.tr0 hf1
  have hSb1 : ∀ q ∈ N :: S, q < u1.heap.size := fun q hq => by
    rcases List.mem_cons.1 hq with h | h
    · omega
    · have := hSb q h; omega
  have hNp : N ∉ c.ab :: c.rb :: blks sv := fun h => by have := hSb _ (hpS _ h); omega
  -- the result is put into its variable, and handed back
  have fin : ∀ (z z' : World) (v : V) (s : Value) (sv' : Value) (sp' sp1 : List Sp) (e' : Nat), rd path (tA t k) a = .ok v e' sp1 → VS z (N :: S ++ blks sv') v.kids s → RdK c z e' (sp ++ sp') sv' → (c.flag = true → sp' = sp1) → sp'.length ≤ bs k → Fr (c.ab :: c.rb :: blks sv) u1 z → (∀ q ∈ blks sv', q ∈ blks sv ∨ u1.heap.size ≤ q) → Fr [N] z z' →
      RdPost c S u sp sv (bs k) (rd path (tA t k) a) (.returned (.agg (vc v s).toArray)) z' := by
    intro z z' v s sv' sp' sp1 e' hrd hvs hpk hfl hm hfz hpv hfz'
    rw [hrd]
    refine ⟨s, sv', sp', rfl, ?_, ?_, hfl, hm, ?_, fun q hq => ?_⟩
    · exact (hvs.tr (hfz'.mono (by simp))).mono (fun q hq => .inl (by
        rcases List.mem_append.1 hq with h | h
        · simp [h]
        · simp [h]))
    · exact hpk.old hfz' (fun q hq => by
        simp only [List.mem_singleton] at hq
        subst hq
        refine ⟨fun h => hNp (by simp [h]), fun h => hNp (by simp [h]), fun h => ?_⟩
        rcases hpv _ h with h | h
        · exact hNp (by simp [h])
        · omega)
    · have h1 : Fr (c.ab :: c.rb :: blks sv) u z := (hf1.mono (by simp)).trans hfz (fun q hq => .inl hq)
      exact h1.trans hfz' (by simp; omega)
    · rcases hpv q hq with h | h
      · exact .inl h
      · right; omega
  have finP : ∀ (z : World), Fr (c.ab :: c.rb :: blks sv) u1 z → (∃ cs, cs.length = 7 ∧ Blk z c.rb cs 77) → Pan c u sv z := fun z hz hcs => ⟨hcs, (hf1.mono (by simp)).trans hz (fun q hq => .inl hq)⟩
  have htb := hc1.tb
  have hvb := hc1.vb
  have hfb := hc1.fb
  have hplb := hc1.plb
  have hPLc := Cells.ofBlk hc1.PL
  have hnodes := hc1.nodes
  obtain ⟨an, cn, hsn, _⟩ := hnodes.slice
  rw [hsn] at htb hnodes
  obtain ⟨ad, rfl, hn⟩ := NS.ptr hnodes hk
  generalize hpn : ad.add (k * 12) = pn at hn
  have hgP : ((plsT t).map Value.bool)[k]? = some (.bool (pT t k)) := by
    have := plsT_get (t := t) (n := t.length) hk hk
    rw [List.take_length] at this
    rw [List.getElem?_map, this, pT_eq hk, lT_eq hk]; rfl
  have hl0 := hv.l0 hk
  refine rx ?_
  rw [hpn]
  refine s_call (choicesP hc1.walk hk) rfl ?_
  rintro _ _ ⟨rfl, rfl⟩
  refine ⟨_, rfl, ?_⟩
  by_cases hskip : skipB t flag k
  · obtain ⟨hz, hfp⟩ := hskip
    obtain ⟨sp1, hrd, hspn⟩ := (fixed hv k hk hz).2 path a
    cases hfl : flag with
    | false =>
      rw [hfl] at hflag
      rw [hflag] at hfb
      refine rx ?_
      refine s_call (fixedP hc1.walk hk htl) rfl ?_
      rintro _ u2 ⟨s, rfl, hvs, hf2⟩
      refine ⟨_, rfl, ?_⟩
      refine s_storeAggB (cs := vc (fT t k) s) rfl rfl (hb1.tr0 hf2) (VR.mem1 (w := u2) (fT t k) _ ⟨_, rfl, hvs⟩) rfl rfl (fun u3 hb3 hf3 hs3 => ?_)
      refine rx ?_
      refine retc rfl rfl (AggT.load _ (vc (fT t k) s) rfl (fun j x hx => by rw [add_lit]; exact hb3.cell (by simpa using hx))) (fin u2 u3 (fT t k) s sv [] sp1 a hrd (hvs.mono (fun q hq => .inl ?_)) (by rw [List.append_nil]; exact hr1.tr0 hf2) (fun h => by rw [hflag] at h; cases h) (by simp) (hf2.mono (by simp)) (fun q hq => .inl hq) hf3)
      rcases List.mem_append.1 hq with h | h
      · exact h
      · exact List.mem_cons_of_mem _ (hin.2.2 q h)
    | true =>
      have hp : pT t k = true := by
        rcases hfp with h | h
        · rw [hfl] at h; cases h
        · exact h
      rw [hfl] at hflag
      rw [hflag] at hfb
      rw [hp] at hgP
      refine rx ?_
      rw [Nat.mul_one]
      refine s_loadC rfl hPLc hgP ?_
      refine rx ?_
      refine s_call (fixedP hc1.walk hk htl) rfl ?_
      rintro _ u2 ⟨s, rfl, hvs, hf2⟩
      refine ⟨_, rfl, ?_⟩
      refine s_storeAggB (cs := vc (fT t k) s) rfl rfl (hb1.tr0 hf2) (VR.mem1 (w := u2) (fT t k) _ ⟨_, rfl, hvs⟩) rfl rfl (fun u3 hb3 hf3 hs3 => ?_)
      refine rx ?_
      refine retc rfl rfl (AggT.load _ (vc (fT t k) s) rfl (fun j x hx => by rw [add_lit]; exact hb3.cell (by simpa using hx))) (fin u2 u3 (fT t k) s sv [] sp1 a hrd (hvs.mono (fun q hq => .inl ?_)) (by rw [List.append_nil]; exact hr1.tr0 hf2) (fun _ => (hspn hp).symm) (by simp) (hf2.mono (by simp)) (fun q hq => .inl hq) hf3)
      rcases List.mem_append.1 hq with h | h
      · exact h
      · exact List.mem_cons_of_mem _ (hin.2.2 q h)
  -- no short way
  have hn0 := hn
  obtain ⟨hpnS, _, hcn, ⟨sw, sl, sv0, sk, sx, rfl, _, _, hvv, hks, hxx⟩⟩ := hn
  obtain ⟨ak, ck, rfl, _⟩ := hks.slice
  refine w_cut (fun g z => g 0 = .int .i64 (k : Nat) ∧ g 5 = .pointer (some ⟨c.chb, 0, none⟩) ∧ g 6 = .pointer (some ⟨c.fob, 0, none⟩) ∧ g 7 = .pointer (some ⟨c.ab, 0, none⟩) ∧ g 8 = .pointer (some ⟨c.rb, 0, none⟩) ∧ g 10 = .pointer (some ⟨N, 0, none⟩) ∧ g 11 = .pointer (some pn) ∧ g 34 = .bool false ∧ z = u1) ?_ ?_
  · by_cases hz : lT t k = 0
    case neg =>
      refine rx ?_
      exact q_cut ⟨rfl, rfl, rfl, rfl, rfl, rfl, rfl, rfl, rfl⟩
    have hff : flag = true ∧ pT t k = false := by
      constructor
      · cases hfl : flag with
        | true => rfl
        | false => exact absurd ⟨hz, .inl hfl⟩ hskip
      · cases hp : pT t k with
        | false => rfl
        | true => exact absurd ⟨hz, .inr hp⟩ hskip
    rw [hff.2] at hgP
    rw [hff.1] at hflag
    rw [hflag] at hfb
    refine rx ?_
    rw [Nat.mul_one]
    refine s_loadC rfl hPLc hgP ?_
    refine rx ?_
    exact q_cut ⟨rfl, rfl, rfl, rfl, rfl, rfl, rfl, rfl, rfl⟩
  rintro g z ⟨g0, g5, g6, g7, g8, g10, g11, g34, rfl⟩
  rw [eq_upd g0, eq_upd g5, eq_upd g6, eq_upd g7, eq_upd g8, eq_upd g10, eq_upd g11, eq_upd g34]
  have hTS : ∀ q ∈ N :: c.ab :: c.rb :: blks sv, q ∈ N :: S := fun q hq => by
    rcases List.mem_cons.1 hq with h | h
    · simp [h]
    · exact List.mem_cons_of_mem _ (hpS q h)
  have hpnT : pn.block ∉ N :: c.ab :: c.rb :: blks sv := fun h => hpnS (hTS _ h)
  have hcz : ∀ z', Fr (N :: c.ab :: c.rb :: blks sv) z z' → Cells z' pn (nc t[k] sw sl sv0 (.slice ak t[k].kids.length ck) sx) := fun z' hz => hcn.tr hz hpnT
  have hkz : ∀ z', Fr (N :: c.ab :: c.rb :: blks sv) z z' → IS z' (N :: S) t[k].kids (.slice ak t[k].kids.length ck) := fun z' hz => hks.tr (hz.mono (fun q hq => .inl (hTS q hq)))
  have hcc : ∀ z', Fr (N :: c.ab :: c.rb :: blks sv) z z' → RdCap c t path (N :: S) z' := fun z' hz => hc1.tr (hz.mono (fun q hq => .inl (hTS q hq)))
  rcases kind5 hv hk with k0 | k1 | k2 | k3 | k4
  · exfalso
    apply hskip
    have hz : lT t k = 0 := by rw [lT_eq hk]; unfold lenN; rw [if_pos k0]
    refine ⟨hz, .inr ?_⟩
    have hkl : t[k].kids = [] := by
      have hf := hv.form hk
      unfold formN at hf
      simp only [Bool.and_eq_true] at hf
      have hu := hf.1
      unfold unusedN at hu
      have hu' := of_decide_eq_true hu
      exact List.eq_nil_of_length_eq_zero (by omega)
    rw [pT_eq hk]
    unfold plN
    rw [decide_eq_true (by omega), decide_eq_true (by omega), hkl]; rfl
  · have hopt : 0 < optN t[k] ∧ (optN t[k] : Int) = t[k].hi - t[k].lo + 1 := by unfold optN; rw [if_pos k1]; omega
    have hrde : rd path (tA t k) a = pick1 path k (optN t[k]) a fun c => .ok (numV (t[k].lo + c)) (a + 1) [] := by
      rw [tA_rng hk k1]
      simp only [rd]
      have : optN t[k] = (t[k].hi - t[k].lo + 1).toNat := by unfold optN; rw [if_pos k1]
      rw [this]
    refine rx ?_
    (refine d_begin (fun y => Fr (N :: c.ab :: c.rb :: blks sv) z y) (by kernel_rfl) rfl ?_)
    have hS0 : Fr [] z z.drew := Fr.drew _ _
    have hS : Fr (N :: c.ab :: c.rb :: blks sv) z z.drew := Fr.drew _ _
    ((first | refine d_tx 0 hS ?_ | refine d_ty 0 hS ?_ | refine d_tn 0 hS ?_); (first | refine d_tx 1 hS ?_ | refine d_ty 1 hS ?_ | refine d_tn 1 hS ?_); (first | refine d_tx 2 hS ?_ | refine d_ty 2 hS ?_ | refine d_tn 2 hS ?_))
    (apply d_take (i := 3); exact rfl; kernel_rfl; kernel_rfl; kernel_rfl; (intro u hu; exact (r_load rfl (Cells.get (hcz _ hu) rfl))); exact hS)
    (apply d_take (i := 4); exact rfl; kernel_rfl; kernel_rfl; kernel_rfl; (intro u hu; exact (r_load rfl (Blk.cell (hcc _ hu).chb rfl))); exact hS)
    ((first | refine d_tx 5 hS ?_ | refine d_ty 5 hS ?_ | refine d_tn 5 hS ?_))
    refine d_one (i := 6) rfl (by kernel_rfl) ?_
    refine s_callVP (first := []) (cap := [.pointer (some ⟨c.ab, 0, none⟩), .pointer (some ⟨c.pathb, 0, none⟩), .pointer (some ⟨c.tb, 0, none⟩)]) (chooseP hv hok (hc1.tr0 hS0) (hr1.tr0 hS0) ha (by simp [hin.1]) hk (.inl k1)) rfl rfl rfl ?_
    rintro e u2 (⟨hno, rfl, hf2⟩ | ⟨x, hx, hbad, rfl, hf2⟩ | ⟨x, hx, hxl, rfl, hr2, hf2⟩)
    · show Exit.then _ _ _ _ _
      (repeat (first | refine q_then_panic ?_ | refine q_blk_panic ?_))
      refine panic0 ?_
      rw [hrde]
      unfold pick1
      rw [hno]
      exact ⟨rfl, finP u2 ((hS0.trans0 hf2).mono (by simp)) ⟨_, rfl, ((hr1.tr0 hS0).tr0 hf2).rb⟩⟩
    · show Exit.then _ _ _ _ _
      (repeat (first | refine q_then_panic ?_ | refine q_blk_panic ?_))
      refine panic0 ?_
      rw [hrde]
      unfold pick1
      rw [hx]
      simp only [if_neg hbad]
      exact ⟨rfl, finP u2 ((hS0.trans0 hf2).mono (by simp)) ⟨_, rfl, ((hr1.tr0 hS0).tr0 hf2).rb⟩⟩
    · show wpList _ _ _ _ _ _
      have hrd : rd path (tA t k) a = .ok (numV (t[k].lo + x)) (a + 1) [] := by
        rw [hrde]
        unfold pick1
        rw [hx]
        simp only
        rw [if_pos (by omega), Int.toNat_natCast]
      have hT2 : Fr (c.ab :: c.rb :: blks sv) z u2 := (hS0.mono (by simp)).trans hf2 (by simp)
      have hT : Fr (N :: c.ab :: c.rb :: blks sv) z u2 := hT2.mono (fun q hq => .inl (List.mem_cons_of_mem _ hq))
      refine wpList_nil (q_held hT ?_)
      ((first | refine d_tx 7 hT ?_ | refine d_ty 7 hT ?_ | refine d_tn 7 hT ?_))
      (apply d_take (i := 8) (v := .agg (vc (numV (t[k].lo + x)) (.slice none 0 0)).toArray); exact rfl; kernel_rfl; kernel_rfl; kernel_rfl; (intro u hu; exact r_build (vc (numV (t[k].lo + x)) (.slice none 0 0)) (by rfl)); exact hT)
      refine d_one (i := 9) rfl (by kernel_rfl) ?_
      refine s_storeAggB (cs := vc (numV (t[k].lo + x)) (.slice none 0 0)) rfl rfl (hb1.tr hT2 hNp) (VR.mem1 (w := u2) (S := []) (numV (t[k].lo + x)) _ ⟨_, rfl, VS.nil _ _⟩) rfl rfl (fun u3 hb3 hf3 hs3 => ?_)
      refine wpList_nil (q_held (hT.trans hf3 (by simp)) ?_)
      (refine d_done (by kernel_rfl) ?_)
      refine rx ?_
      exact retc rfl rfl (AggT.load _ (vc (numV (t[k].lo + x)) (.slice none 0 0)) rfl (fun j x hx => by rw [add_lit]; exact hb3.cell (by simpa using hx))) (fin u2 u3 _ _ sv [] [] (a + 1) hrd (VS.nil _ _) (by rw [List.append_nil]; exact hr2) (fun _ => rfl) (by simp) hT2 (fun q hq => .inl hq) hf3)
  · have hcho := hv.cho hk k2
    have hoe : optN t[k] = t[k].kids.length := by unfold optN; rw [if_neg (by omega)]
    have hrde : rd path (tA t k) a = pick1 path k (optN t[k]) a fun c => rdN path (kidsT t t[k].kids) c (a + 1) := by
      rw [tA_cho hv hk k2]
      simp only [rd]
      rw [kidsT_len, hoe]
    refine rx ?_
    (refine d_begin (fun y => Fr (N :: c.ab :: c.rb :: blks sv) z y) (by kernel_rfl) rfl ?_)
    have hS0 : Fr [] z z.drew := Fr.drew _ _
    have hS : Fr (N :: c.ab :: c.rb :: blks sv) z z.drew := Fr.drew _ _
    (apply d_take (i := 0); exact rfl; kernel_rfl; kernel_rfl; kernel_rfl; (intro u hu; exact (r_load rfl (Blk.cell (hcc _ hu).fob rfl))); exact hS)
    ((first | refine d_tx 1 hS ?_ | refine d_ty 1 hS ?_ | refine d_tn 1 hS ?_); (first | refine d_tx 2 hS ?_ | refine d_ty 2 hS ?_ | refine d_tn 2 hS ?_); (first | refine d_tx 3 hS ?_ | refine d_ty 3 hS ?_ | refine d_tn 3 hS ?_))
    (apply d_take (i := 4); exact rfl; kernel_rfl; kernel_rfl; kernel_rfl; (intro u hu; exact (r_load rfl (Cells.get (hcz _ hu) rfl))); exact hS)
    (apply d_take (i := 5); exact rfl; kernel_rfl; kernel_rfl; kernel_rfl; (intro u hu; exact (r_load rfl (Blk.cell (hcc _ hu).chb rfl))); exact hS)
    ((first | refine d_tx 6 hS ?_ | refine d_ty 6 hS ?_ | refine d_tn 6 hS ?_))
    refine d_one (i := 7) rfl (by kernel_rfl) ?_
    refine s_callVP (first := []) (cap := [.pointer (some ⟨c.ab, 0, none⟩), .pointer (some ⟨c.pathb, 0, none⟩), .pointer (some ⟨c.tb, 0, none⟩)]) (chooseP hv hok (hc1.tr0 hS0) (hr1.tr0 hS0) ha (by simp [hin.1]) hk (.inr k2)) rfl rfl rfl ?_
    rintro e u2 (⟨hno, rfl, hf2⟩ | ⟨x, hx, hbad, rfl, hf2⟩ | ⟨x, hx, hxl, rfl, hr2, hf2⟩)
    · show Exit.then _ _ _ _ _
      (repeat (first | refine q_then_panic ?_ | refine q_blk_panic ?_))
      refine panic0 ?_
      rw [hrde]
      unfold pick1
      rw [hno]
      exact ⟨rfl, finP u2 ((hS0.trans0 hf2).mono (by simp)) ⟨_, rfl, ((hr1.tr0 hS0).tr0 hf2).rb⟩⟩
    · show Exit.then _ _ _ _ _
      (repeat (first | refine q_then_panic ?_ | refine q_blk_panic ?_))
      refine panic0 ?_
      rw [hrde]
      unfold pick1
      rw [hx]
      simp only [if_neg hbad]
      exact ⟨rfl, finP u2 ((hS0.trans0 hf2).mono (by simp)) ⟨_, rfl, ((hr1.tr0 hS0).tr0 hf2).rb⟩⟩
    · show wpList _ _ _ _ _ _
      have hxk : x < t[k].kids.length := by omega
      obtain ⟨q, hq, hqk⟩ := hv.kid hk (List.getElem_mem hxk)
      have hrd : rd path (tA t k) a = rd path (tA t q) (a + 1) := by
        rw [hrde]
        unfold pick1
        rw [hx]
        simp only
        rw [if_pos (by omega), Int.toNat_natCast, rdN_get _ _ _ _ (by rw [kidsT_len]; exact hxk)]
        simp only [kidsT, List.getElem_map, hq, Int.toNat_natCast]
      have hbq := hbs.cho k hk k2 _ (List.getElem_mem hxk)
      rw [hq, Int.toNat_natCast] at hbq
      have hT2 : Fr (c.ab :: c.rb :: blks sv) z u2 := (hS0.mono (by simp)).trans hf2 (by simp)
      have hT : Fr (N :: c.ab :: c.rb :: blks sv) z u2 := hT2.mono (fun q hq => .inl (List.mem_cons_of_mem _ hq))
      have hka : ∃ ad2, ak = some ad2 := by obtain ⟨ad2, e, _⟩ := Ls.at hks hxk; exact ⟨ad2, e⟩
      obtain ⟨ad2, rfl⟩ := hka
      have hcellz : ∀ z', Fr (N :: c.ab :: c.rb :: blks sv) z z' → z'.cell? (ad2.add x) = some (.int .i64 q) := fun z' hz => by
        obtain ⟨ad', e', hc'⟩ := Ls.at (hkz z' hz) hxk
        cases e'
        rw [hq] at hc'
        exact hc'
      have halt : a < path.length := (List.getElem?_eq_some_iff.1 hx).1
      refine wpList_nil (q_held hT ?_)
      (apply d_take (i := 8); exact rfl; kernel_rfl; kernel_rfl; kernel_rfl; (intro u hu; exact (r_index1 (j := x) rfl rfl rfl (by omega) rfl)); exact hT)
      (apply d_take (i := 9); exact rfl; kernel_rfl; kernel_rfl; kernel_rfl; (intro u hu; exact (r_load rfl (hcellz _ hu))); exact hT)
      refine d_one (i := 10) rfl (by kernel_rfl) ?_
      refine s_callVP (first := []) (cap := c.caps) (ih q hqk c (N :: S) u2 (a + 1) sp sv hflag (hcc _ hT) hr2 ⟨by simp [hin.1], by simp [hin.2.1], fun y hy => by simp [hin.2.2 y hy]⟩ (fun y hy => ?_) (by omega) (by omega)) rfl rfl rfl ?_
      · have := hSb1 y hy; have := hT.size; omega
      intro e u3 hpost
      rcases hres : rd path (tA t q) (a + 1) with ⟨v, e', sp1⟩ | ⟨i, n⟩ | _
      · rw [hres] at hpost
        obtain ⟨s, sv', sp', rfl, hvs3, hr3, hfl3, hm3, hf3, hk3⟩ := hpost
        show wpList _ _ _ _ _ _
        have hT3 : Fr (c.ab :: c.rb :: blks sv) z u3 := hT2.trans hf3 (fun y hy => .inl hy)
        have hT3' : Fr (N :: c.ab :: c.rb :: blks sv) z u3 := hT3.mono (fun q hq => .inl (List.mem_cons_of_mem _ hq))
        refine wpList_nil (q_held hT3' ?_)
        refine d_one (i := 11) rfl (by kernel_rfl) ?_
        refine s_storeAggB (cs := vc v s) rfl rfl (hb1.tr hT3 hNp) (VR.mem1 (w := u3) v _ ⟨_, rfl, hvs3⟩) rfl rfl (fun u4 hb4 hf4 hs4 => ?_)
        refine wpList_nil (q_held (hT3'.trans hf4 (by simp)) ?_)
        (refine d_done (by kernel_rfl) ?_)
        refine rx ?_
        refine retc rfl rfl (AggT.load _ (vc v s) rfl (fun j x hx => by rw [add_lit]; exact hb4.cell (by simpa using hx))) (fin u3 u4 v s sv' sp' sp1 e' (by rw [hrd, hres]) hvs3 hr3 hfl3 (by omega) hT3 (fun y hy => ?_) hf4)
        rcases hk3 y hy with h | h
        · exact .inl h
        · right; have := hT.size; omega
      · rw [hres] at hpost
        obtain ⟨rfl, hcs, hf3⟩ := hpost
        show Exit.then _ _ _ _ _
        (repeat (first | refine q_then_panic ?_ | refine q_blk_panic ?_))
        refine panic0 ?_
        rw [hrd, hres]
        exact ⟨rfl, finP u3 (hT2.trans hf3 (fun y hy => .inl hy)) hcs⟩
      · rw [hres] at hpost
        obtain ⟨rfl, hcs, hf3⟩ := hpost
        show Exit.then _ _ _ _ _
        (repeat (first | refine q_then_panic ?_ | refine q_blk_panic ?_))
        refine panic0 ?_
        rw [hrd, hres]
        exact ⟨rfl, finP u3 (hT2.trans hf3 (fun y hy => .inl hy)) hcs⟩
  · have hrde : rd path (tA t k) a = (rdS path a (kidsT t t[k].kids) a).bind fun vs e sp => .ok (madeV t[k] vs) e sp := by
      rw [tA_seq hv hk k3]
      simp only [rd]
    have hsq := hv.seq hk k3
    have hb3 := hbs.seq k hk k3 hskip
    have hab1 := hr1.ab
    have hNS1 : ∀ y ∈ c.ab :: c.rb :: blks sv, y ∈ N :: S := fun y hy => List.mem_cons_of_mem _ (hpS y hy)
    refine rx ?_
    refine c_loopK 17 [13, 14, 15, 16] (σ := Nat × List V × Value × Nat × List Sp × List Sp × Value) (fun s g y => g 90 = .slice ak t[k].kids.length ck ∧ g 91 = .int .i64 t[k].kids.length ∧ g 92 = .int .i64 (s.1 : Nat) ∧ g 13 = s.2.2.1 ∧ s.1 ≤ t[k].kids.length ∧ s.2.2.2.1 ≤ path.length ∧ rdS path a (kidsT t t[k].kids) a = contS s.2.1 s.2.2.2.2.1 (rdS path a (kidsT t (t[k].kids.drop s.1)) s.2.2.2.1) ∧ s.2.1.length ≤ s.1 ∧ (c.flag = true → s.2.2.2.2.2.1 = s.2.2.2.2.1) ∧ s.2.2.2.2.2.1.length + ((t[k].kids.drop s.1).map fun q => 1 + bs q.toNat).sum ≤ bs k ∧
        OwnR y 33 4 (plusR VR (N :: S ++ blks s.2.2.2.2.2.2)) s.2.1 s.2.2.1 ∧ RdK c y s.2.2.2.1 (sp ++ s.2.2.2.2.2.1) s.2.2.2.2.2.2 ∧ (∀ q ∈ blks s.2.2.2.2.2.2, q ∈ blks sv ∨ z.heap.size ≤ q) ∧ (∀ q ∈ blks s.2.2.1, z.heap.size ≤ q ∧ q ∉ blks s.2.2.2.2.2.2) ∧ Fr (c.ab :: c.rb :: blks sv) z y)
      (fun s => t[k].kids.length - s.1) (0, [], .slice none 0 0, a, [], [], sv) ⟨rfl, rfl, rfl, rfl, Nat.zero_le _, ha, ?_, Nat.le_refl _, fun _ => rfl, by simp only [List.drop_zero, List.length_nil]; omega, OwnR.nil _ _ _ _, by simp only [List.append_nil]; exact hr1, fun q hq => .inl hq, fun q hq => by simp [blks, Value.ownBlock] at hq, Fr.refl _ _⟩ ?_
    · simp only [List.drop_zero]
      rcases rdS path a (kidsT t t[k].kids) a with ⟨v2, e2, sp2⟩ | ⟨i, n⟩ | _ <;> simp [contS]
    rintro ⟨j, vs, kv, aj, sq, sqa, svj⟩ g y ⟨h90, h91, h92, h13, hj, haj, hval, hvl, hfl, hbd, ho, hrk, hpv, hkv, hfz⟩
    simp only at h92 h13 hj haj hval hvl hfl hbd ho hrk hpv hkv
    obtain ⟨a13, c13, rfl⟩ := ho.slice
    rw [eq_upd h13, eq_upd h90, eq_upd h91, eq_upd h92]
    have hszz := hfz.size
    have hS2 : ∀ q ∈ N :: S ++ blks svj, q ∈ N :: S ∨ z.heap.size ≤ q := fun q hq => by
      rcases List.mem_append.1 hq with h | h
      · exact .inl h
      · rcases hpv q h with h | h
        · exact .inl (hNS1 q (by simp [h]))
        · exact .inr h
    have hlpk := hrk.own.lt
    have hlkv := ho.lt
    have hfzN : Fr (N :: c.ab :: c.rb :: blks sv) z y := hfz.mono (fun q hq => .inl (List.mem_cons_of_mem _ hq))
    by_cases hjl : j < t[k].kids.length
    case neg =>
      have hnil : t[k].kids.drop j = [] := List.drop_eq_nil_of_le (by omega)
      rw [hnil] at hval
      simp only [kidsT, List.map_nil, rdS, contS, List.append_nil] at hval
      have hrd : rd path (tA t k) a = .ok (madeV t[k] vs) aj sq := by
        rw [hrde]
        unfold kidsT
        rw [hval]; rfl
      have hvs := vsP ho (by omega) (fun q hq hm => by
        have h1 := hkv q hq
        rcases List.mem_append.1 hm with h | h
        · have := hSb1 q h; omega
        · exact h1.2 h)
      have hcnz := hcz y hfzN
      have hnz : PN y (N :: S) t[k] pn := hn0.tr (hfz.mono (fun q hq => .inl (hNS1 q hq)))
      refine rx ?_
      refine s_call (madeP t[k] pn vs _ y (hnz.mono (by simp)) hvs.any) rfl ?_
      rintro _ z1 ⟨rfl, hf4⟩
      refine ⟨_, rfl, ?_⟩
      have hfz1 := hfz.trans0 hf4
      refine s_storeAggB (cs := vc (madeV t[k] vs) (.slice a13 vs.length c13)) rfl rfl (hb1.tr hfz1 hNp) (VR.mem1 (w := y) (S := []) (madeV t[k] vs) _ ⟨_, rfl, by rw [madeV_kids]; exact hvs.any⟩) rfl rfl (fun z2 hb5 hf5 hs5 => ?_)
      refine rx ?_
      exact retc rfl rfl (AggT.load _ (vc (madeV t[k] vs) (.slice a13 vs.length c13)) rfl (fun j x hx => by rw [add_lit]; exact hb5.cell (by simpa using hx))) (fin z1 z2 _ _ svj sqa sq aj hrd (by rw [madeV_kids]; exact hvs.tr0 hf4) (hrk.tr0 hf4) hfl (by omega) hfz1 hpv hf5)
    have hka : ∃ ad2, ak = some ad2 := by obtain ⟨ad2, e, _⟩ := Ls.at hks hjl; exact ⟨ad2, e⟩
    obtain ⟨ad2, rfl⟩ := hka
    obtain ⟨q, hq, hqk⟩ := hv.kid hk (List.getElem_mem hjl)
    obtain ⟨ad', e', hcell⟩ := Ls.at (hkz y hfzN) hjl
    cases e'
    rw [hq] at hcell
    have hdk : kidsT t (t[k].kids.drop j) = tA t q :: kidsT t (t[k].kids.drop (j + 1)) := by
      rw [List.drop_eq_getElem_cons hjl]
      simp only [kidsT, List.map_cons, hq, Int.toNat_natCast]
    rw [hdk] at hval
    rw [sum_tail hjl, hq, Int.toNat_natCast] at hbd
    obtain ⟨a5, c5, rfl⟩ := hrk.own.slice
    have hrb := hrk.rb
    have hab := hrk.ab
    have hspl : (sp ++ sqa).length = sp.length + sqa.length := List.length_append
    refine rx ?_
    rw [Nat.mul_one]
    refine s_load rfl hcell ?_
    refine rx ?_
    refine s_buildA [.int .i64 a, .int .i64 aj, .int .i64 aj] rfl ?_
    refine s_pushA (R := spR) (a := (a, aj, aj)) (cs := [.int .i64 a, .int .i64 aj, .int .i64 aj]) (spOwn.2 hrk.own) spStab rfl rfl rfl rfl rfl rfl rfl (by unfold maxLen; omega) (by omega) (fun svn y1 ho1 hf1y hk1 => ?_)
    rw [spOwn] at ho1
    have hsz1 := hf1y.size
    have hrb1 := hrb.tr hf1y hrk.d.2.2
    have hab1' := hab.tr hf1y hrk.d.2.1
    have hon := ho1.one
    have hdn : c.ab ∉ blks svn ∧ c.rb ∉ blks svn := ⟨fun h => by
      rcases hk1 _ h with h | h
      · exact hrk.d.2.1 h
      · have := hab.lt; omega, fun h => by
      rcases hk1 _ h with h | h
      · exact hrk.d.2.2 h
      · have := hrb.lt; omega⟩
    refine rx ?_
    ((with_reducible apply s_storeB); exact rfl; (conv => lhs; whnf); exact hon; exact hrb1; exact rfl)
    intro y2 hb2 hf2 hs2
    have hrk2 : RdK c y2 aj (sp ++ sqa ++ [(a, aj, aj)]) svn := ⟨hab1'.tr hf2 (by simp; exact hrk.d.1), hb2, ho1.tr hf2 (fun q hq hm => by simp at hm; subst hm; exact hdn.2 hq), ⟨hrk.d.1, hdn.1, hdn.2⟩⟩
    have hpvn : ∀ q ∈ blks svn, q ∈ blks sv ∨ z.heap.size ≤ q := fun q hq => by
      rcases hk1 q hq with h | h
      · exact hpv q h
      · right; omega
    have hfz2 : Fr (c.ab :: c.rb :: blks sv) z y2 := (hfz.trans hf1y (fun q hq => by
      rcases hpv q hq with h | h
      · left; simp [h]
      · exact .inr h)).trans hf2 (by simp)
    have hsz2 := hfz2.size
    have hkvn : ∀ q ∈ blks (.slice a13 vs.length c13), q ∉ blks svn := fun q hq hm => by
      rcases hk1 q hm with h | h
      · exact (hkv q hq).2 h
      · have := hlkv q hq; omega
    have hcS : RdCap c t path ((N :: S ++ blks svn) ++ blks (.slice a13 vs.length c13)) y2 := hc1.turn (hfz2.mono (fun q hq => .inl (hNS1 q hq))) (fun q hq => by
      rcases List.mem_append.1 hq with h | h
      · rcases List.mem_append.1 h with h | h
        · exact .inl h
        · rcases hpvn q h with h | h
          · exact .inl (hNS1 q (by simp [h]))
          · exact .inr h
      · exact .inr (hkv q h).1)
    have hfob := hcS.fob
    have hdis : ∀ q ∈ blks (.slice a13 vs.length c13), q ∉ c.ab :: c.rb :: blks svn := fun q hq hm => by
      have h1 := (hkv q hq).1
      rcases List.mem_cons.1 hm with h | h
      · have := hSb1 c.ab (List.mem_cons_of_mem _ hin.1); omega
      rcases List.mem_cons.1 h with h | h
      · have := hSb1 c.rb (List.mem_cons_of_mem _ hin.2.1); omega
      · exact hkvn q hq h
    have ho2 : OwnR y2 33 4 (plusR VR (N :: S ++ blks svn)) vs (.slice a13 vs.length c13) := by
      have hf02 : Fr (c.rb :: blks (.slice a5 (sp ++ sqa).length c5)) y y2 := (hf1y.mono (fun q hq => .inl (List.mem_cons_of_mem _ hq))).trans hf2 (by simp)
      refine ownTurn ho hf02 (fun q hq => ?_) (fun q hq hm => ?_) (fun q hq => ?_)
      · rcases List.mem_cons.1 hq with h | h
        · subst h; exact List.mem_append.2 (.inl (List.mem_cons_of_mem _ hin.2.1))
        · exact List.mem_append.2 (.inr h)
      · rcases List.mem_cons.1 hm with h | h
        · subst h; exact hdis _ hq (by simp)
        · exact (hkv q hq).2 h
      · rcases List.mem_append.1 hq with h | h
        · exact .inl (List.mem_append.2 (.inl h))
        · rcases hk1 q h with h | h
          · exact .inl (List.mem_append.2 (.inr h))
          · exact .inr h
    refine rx ?_
    refine s_callVP (first := []) (cap := c.caps) (ih q hqk c ((N :: S ++ blks svn) ++ blks (.slice a13 vs.length c13)) y2 aj (sp ++ sqa ++ [(a, aj, aj)]) svn hflag hcS hrk2 ⟨by simp [hin.1], by simp [hin.2.1], fun y hy => by simp [hy]⟩ (fun q hq => ?_) haj (by simp only [List.length_append, List.length_cons, List.length_nil]; omega)) rfl rfl rfl ?_
    · rcases List.mem_append.1 hq with h | h
      · rcases List.mem_append.1 h with h | h
        · have := hSb1 q h; omega
        · exact hrk2.own.lt q h
      · have := hlkv q h; omega
    intro e y3 hpost
    rcases hres : rd path (tA t q) aj with ⟨v, e', sp1⟩ | ⟨i, n⟩ | _
    rotate_left
    · rw [hres] at hpost
      obtain ⟨rfl, hcs, hf3⟩ := hpost
      show Exit.then _ _ _ _ _
      (repeat (first | refine q_then_panic ?_ | refine q_blk_panic ?_))
      refine panic0 ?_
      rw [hrde, hval, contS_stop hres]
      exact ⟨rfl, finP y3 (hfz2.trans hf3 (fun q hq => by
        rcases List.mem_cons.1 hq with h | h
        · left; simp [h]
        rcases List.mem_cons.1 h with h | h
        · left; simp [h]
        · rcases hpvn q h with h | h
          · left; simp [h]
          · exact .inr h)) hcs⟩
    · rw [hres] at hpost
      obtain ⟨rfl, hcs, hf3⟩ := hpost
      show Exit.then _ _ _ _ _
      (repeat (first | refine q_then_panic ?_ | refine q_blk_panic ?_))
      refine panic0 ?_
      rw [hrde, hval, contS_bad hres]
      exact ⟨rfl, finP y3 (hfz2.trans hf3 (fun q hq => by
        rcases List.mem_cons.1 hq with h | h
        · left; simp [h]
        rcases List.mem_cons.1 h with h | h
        · left; simp [h]
        · rcases hpvn q h with h | h
          · left; simp [h]
          · exact .inr h)) hcs⟩
    rw [hres] at hpost
    obtain ⟨s, svm, sp', rfl, hvs3, hrk3, hfl3, hm3, hf3, hk3⟩ := hpost
    show wpList _ _ _ _ _ _
    rw [contS_step hres] at hval
    have hend := rd_end path (tA t q) aj haj hres
    have hfz3 : Fr (c.ab :: c.rb :: blks sv) z y3 := hfz2.trans hf3 (fun q hq => by
        rcases List.mem_cons.1 hq with h | h
        · left; simp [h]
        rcases List.mem_cons.1 h with h | h
        · left; simp [h]
        · rcases hpvn q h with h | h
          · left; simp [h]
          · exact .inr h)
    have hsz3 := hfz3.size
    have hpvm : ∀ q ∈ blks svm, q ∈ blks sv ∨ z.heap.size ≤ q := fun q hq => by
      rcases hk3 q hq with h | h
      · exact hpvn q h
      · right; omega
    have ho3 : OwnR y3 33 4 (plusR VR (N :: S ++ blks svm)) vs (.slice a13 vs.length c13) := ownTurn ho2 hf3 (fun q hq => by
      rcases List.mem_cons.1 hq with h | h
      · subst h; exact List.mem_append.2 (.inl (List.mem_cons_of_mem _ hin.1))
      rcases List.mem_cons.1 h with h | h
      · subst h; exact List.mem_append.2 (.inl (List.mem_cons_of_mem _ hin.2.1))
      · exact List.mem_append.2 (.inr h)) hdis (fun q hq => by
      rcases List.mem_append.1 hq with h | h
      · exact .inl (List.mem_append.2 (.inl h))
      · rcases hk3 q h with h | h
        · exact .inl (List.mem_append.2 (.inr h))
        · exact .inr h)
    have hkv3 : ∀ q ∈ blks (.slice a13 vs.length c13), z.heap.size ≤ q ∧ q ∉ blks svm := fun q hq => ⟨(hkv q hq).1, fun hm => by
      rcases hk3 q hm with h | h
      · exact hkvn q hq h
      · have := hlkv q hq; omega⟩
    have stP : Stab (plusR VR (N :: S ++ blks svm)) 4 := plusStab vrStab
    refine s_pushA (R := plusR VR (N :: S ++ blks svm)) (a := v) (cs := vc v s) ho3 stP rfl rfl rfl ⟨s, rfl, (hvs3.mono (fun y hy => .inl ?_))⟩ rfl rfl rfl (by unfold maxLen; omega) (by omega) (fun v4 y4 ho4 hf4 hk4 => ?_)
    · rcases List.mem_append.1 hy with h | h
      · exact List.mem_append.2 (.inl (List.mem_append.2 (.inr h)))
      · rcases List.mem_append.1 h with h | h
        · exact List.mem_append.2 (.inl (List.mem_append.2 (.inl (List.mem_append.2 (.inl h)))))
        · exact List.mem_append.2 (.inr h)
    have hlp3 := hrk3.own.lt
    have hrk4 := hrk3.old hf4 (fun q hq => ⟨fun e => hdis q hq (by simp [e]), fun e => hdis q hq (by simp [e]), fun h => (hkv3 q hq).2 h⟩)
    have hfz4 := hfz3.trans hf4 (fun q hq => .inr (hkv q hq).1)
    obtain ⟨a6, c6, hsvm⟩ := hrk4.own.slice
    have hown4 := hrk4.own
    have hrb4 := hrk4.rb
    have hab4 := hrk4.ab
    rw [hsvm] at hrb4 hown4
    have hl6 : (sp ++ sqa ++ [(a, aj, aj)] ++ sp').length = sp.length + sqa.length + 1 + sp'.length := by simp only [List.length_append, List.length_cons, List.length_nil]
    have ha6 : ∃ ad6, a6 = some ad6 := by
      cases a6 with
      | some x => exact ⟨x, rfl⟩
      | none => exfalso; rcases hown4.2 with ⟨h1, h2⟩ | ⟨g1, cap, cur, h1, _⟩
                · injection h1 with _ h3; omega
                · cases h1
    obtain ⟨ad6, rfl⟩ := ha6
    refine rx ?_
    (refine d_begin (fun y => Blk y c.rb [.int .i64 0, .int .i64 0, .string .empty, .slice none 0 0, .int .i64 0, .slice (some ad6) (sp ++ sqa ++ [(a, aj, aj)] ++ sp').length c6, .int .i64 0] 77 ∧ Blk y c.ab [.int .i64 e'] 3) (by kernel_rfl) rfl ?_)
    have hD0 : Fr [] y4 y4.drew := Fr.drew _ _
    have hS : Blk y4.drew c.rb [.int .i64 0, .int .i64 0, .string .empty, .slice none 0 0, .int .i64 0, .slice (some ad6) (sp ++ sqa ++ [(a, aj, aj)] ++ sp').length c6, .int .i64 0] 77 ∧ Blk y4.drew c.ab [.int .i64 e'] 3 := ⟨hrb4.tr0 hD0, hab4.tr0 hD0⟩
    ((first | refine d_tx 0 hS ?_ | refine d_ty 0 hS ?_ | refine d_tn 0 hS ?_))
    (apply d_take (i := 1); exact rfl; kernel_rfl; kernel_rfl; kernel_rfl; (intro u hu; exact (r_load rfl (Blk.cell hu.1 rfl))); exact hS)
    ((first | refine d_tx 2 hS ?_ | refine d_ty 2 hS ?_ | refine d_tn 2 hS ?_))
    (apply d_take (i := 3); exact rfl; kernel_rfl; kernel_rfl; kernel_rfl; (intro u hu; exact (r_load rfl (Blk.cell hu.2 rfl))); exact hS)
    (apply d_take (i := 4); exact rfl; kernel_rfl; kernel_rfl; kernel_rfl; (intro u hu; exact (r_indexAddr (j := (sp ++ sqa).length) rfl rfl rfl (by omega) rfl)); exact hS)
    (apply d_take (i := 5); exact rfl; kernel_rfl; kernel_rfl; kernel_rfl; (intro u hu; exact (r_addrArr (j := 2) rfl rfl (by omega))); exact hS)
    refine d_one (i := 6) rfl (by kernel_rfl) ?_
    refine s_storeRow1 (q := (sp ++ sqa).length * 3 + 2) (u := .int .i64 e') (hown4.tr0 hD0) rfl rfl (add_add _ _ _) rfl rfl (by omega) (fun y5 ho5 hf5 hs5 => ?_)
    have he5 : sp ++ sqa ++ [(a, aj, aj)] ++ sp' = (sp ++ sqa) ++ (a, aj, aj) :: sp' := by simp
    have hd4 := hrk4.d
    have hlp4 := hrk4.own.lt
    have hlv4 := ho4.lt
    rw [← hsvm] at ho5 hf5
    rw [he5, spC_set] at ho5
    have hl5 : ((sp ++ sqa) ++ (a, aj, aj) :: sp').length = (sp ++ (sqa ++ (a, aj, e') :: sp')).length := by simp
    have he6 : (sp ++ sqa) ++ (a, aj, e') :: sp' = sp ++ (sqa ++ (a, aj, e') :: sp') := by simp
    rw [hl5, he6] at ho5
    have hrb5 := (hrk4.rb.tr0 hD0).tr hf5 hd4.2.2
    have hab5 := (hrk4.ab.tr0 hD0).tr hf5 hd4.2.1
    have hrk5 : RdK c y5 e' (sp ++ (sqa ++ (a, aj, e') :: sp')) svm := ⟨hab5, hrb5, ho5, hd4⟩
    have hfz5 : Fr (c.ab :: c.rb :: blks sv) z y5 := (hfz4.trans0 hD0).trans hf5 (fun q hq => by
      rcases hpvm q hq with h | h
      · left; simp [h]
      · exact .inr h)
    have hv4m : ∀ q ∈ blks v4, z.heap.size ≤ q ∧ q ∉ blks svm := fun q hq => by
      rcases hk4 q hq with h | h
      · exact hkv3 q h
      · refine ⟨by omega, fun hm => ?_⟩
        have := hlp3 q hm; omega
    have ho5v : OwnR y5 33 4 (plusR VR (N :: S ++ blks svm)) (vs ++ [v]) v4 := ownTurn (ho4.tr0 stP hD0) hf5 (fun q hq => List.mem_append.2 (.inr hq)) (fun q hq => (hv4m q hq).2) (fun q hq => .inl hq)
    rw [hsvm] at hrb5
    refine wpList_nil (q_held ⟨hrb5, hab5⟩ ?_)
    (refine d_done (by kernel_rfl) ?_)
    refine rx ?_
    exact q_roundK (j + 1, vs ++ [v], v4, e', sq ++ (a, aj, e') :: sp1, sqa ++ (a, aj, e') :: sp', svm) (by (repeat (first | exact Keep.mrg _ _ _ _ | (refine Keep.hi rfl ?_) | (refine Keep.one rfl ?_) | exact Keep.all rfl | (refine Keep.inn rfl ?_) | (refine Keep.set rfl ?_)))) ⟨rfl, rfl, rfl, rfl, by simp only; omega, hend.2, hval, by simp only [List.length_append, List.length_cons, List.length_nil]; omega, fun h => by simp only; rw [hfl h, hfl3 h], by simp only [List.length_append, List.length_cons]; omega, ho5v, hrk5, hpvm, hv4m, hfz5⟩ (by simp only; omega)
  · have hbd4 := hv.bind hk k4
    obtain ⟨q, hq, hqe, hqs⟩ := hv.first hk k4
    have h0 : 0 < t[k].kids.length := by omega
    have hb4 := hbs.bnd k hk k4 hskip
    rw [hqe, Int.toNat_natCast] at hb4
    have hrde : rd path (tA t k) a = (rd path (tA t q) a).bind fun v e sp => (rdN path (kidsT t t[k].kids.tail) (fndV t[k].vals v).1 e).bind fun v2 e2 sp2 => .ok v2 e2 (sp ++ sp2) := by
      rw [tA_bnd hv hk k4, hqe, Int.toNat_natCast]
      simp only [rd]
    rw [headD_get h0] at hqe
    have htl0 : 0 < t[k].kids.tail.length := by rw [List.length_tail]; omega
    have hb40 := hb4 _ (List.getElem_mem htl0)
    obtain ⟨ad2, e2, hcell⟩ := Ls.at hks h0
    subst e2
    have hcellz : ∀ z', Fr (N :: c.ab :: c.rb :: blks sv) z z' → z'.cell? (ad2.add 0) = some (.int .i64 q) := fun z' hz => by
      obtain ⟨ad', e', hc'⟩ := Ls.at (hkz z' hz) h0
      cases e'
      rw [hqe] at hc'
      exact hc'
    refine rx ?_
    (refine d_begin (fun y => Fr (N :: c.ab :: c.rb :: blks sv) z y) (by kernel_rfl) rfl ?_)
    have hS0 : Fr [] z z.drew := Fr.drew _ _
    have hS : Fr (N :: c.ab :: c.rb :: blks sv) z z.drew := Fr.drew _ _
    (apply d_take (i := 0); exact rfl; kernel_rfl; kernel_rfl; kernel_rfl; (intro u hu; exact (r_load rfl (Blk.cell (hcc _ hu).fob rfl))); exact hS)
    ((first | refine d_tx 1 hS ?_ | refine d_ty 1 hS ?_ | refine d_tn 1 hS ?_); (first | refine d_tx 2 hS ?_ | refine d_ty 2 hS ?_ | refine d_tn 2 hS ?_); (first | refine d_tx 3 hS ?_ | refine d_ty 3 hS ?_ | refine d_tn 3 hS ?_))
    (apply d_take (i := 4); exact rfl; kernel_rfl; kernel_rfl; kernel_rfl; (intro u hu; exact (r_load rfl (Cells.get (hcz _ hu) rfl))); exact hS)
    ((first | refine d_tx 5 hS ?_ | refine d_ty 5 hS ?_ | refine d_tn 5 hS ?_))
    (apply d_take (i := 6); exact rfl; kernel_rfl; kernel_rfl; kernel_rfl; (intro u hu; exact (r_load rfl (Blk.cell (hcc _ hu).fob rfl))); exact hS)
    ((first | refine d_tx 7 hS ?_ | refine d_ty 7 hS ?_ | refine d_tn 7 hS ?_); (first | refine d_tx 8 hS ?_ | refine d_ty 8 hS ?_ | refine d_tn 8 hS ?_); (first | refine d_tx 9 hS ?_ | refine d_ty 9 hS ?_ | refine d_tn 9 hS ?_))
    (apply d_take (i := 10); exact rfl; kernel_rfl; kernel_rfl; kernel_rfl; (intro u hu; exact (r_load rfl (Cells.get (hcz _ hu) rfl))); exact hS)
    (apply d_take (i := 11); exact rfl; kernel_rfl; kernel_rfl; kernel_rfl; (intro u hu; exact (r_index1 (j := 0) rfl rfl rfl (by omega) rfl)); exact hS)
    (apply d_take (i := 12); exact rfl; kernel_rfl; kernel_rfl; kernel_rfl; (intro u hu; exact (r_load rfl (hcellz _ hu))); exact hS)
    refine d_one (i := 13) rfl (by kernel_rfl) ?_
    refine s_callVP (first := []) (cap := c.caps) (ih q hq c (N :: S) z.drew a sp sv hflag (hcc _ hS) (hr1.tr0 hS0) ⟨by simp [hin.1], by simp [hin.2.1], fun y hy => by simp [hin.2.2 y hy]⟩ (fun y hy => ?_) ha (by omega)) rfl rfl rfl ?_
    · have := hSb1 y hy; have := hS0.size; omega
    intro e u2 hpost
    rcases hres : rd path (tA t q) a with ⟨v1, e1, sp1⟩ | ⟨i, n⟩ | _
    rotate_left
    · rw [hres] at hpost
      obtain ⟨rfl, hcs, hf3⟩ := hpost
      show Exit.then _ _ _ _ _
      (repeat (first | refine q_then_panic ?_ | refine q_blk_panic ?_))
      refine panic0 ?_
      rw [hrde, hres]
      exact ⟨rfl, finP u2 ((hS0.mono (by simp)).trans hf3 (fun y hy => .inl hy)) hcs⟩
    · rw [hres] at hpost
      obtain ⟨rfl, hcs, hf3⟩ := hpost
      show Exit.then _ _ _ _ _
      (repeat (first | refine q_then_panic ?_ | refine q_blk_panic ?_))
      refine panic0 ?_
      rw [hrde, hres]
      exact ⟨rfl, finP u2 ((hS0.mono (by simp)).trans hf3 (fun y hy => .inl hy)) hcs⟩
    rw [hres] at hpost
    obtain ⟨s1, sv1, sp1', rfl, hvs2, hr2, hfl2, hm2, hf2, hk2⟩ := hpost
    show wpList _ _ _ _ _ _
    rw [hres, Res.bind_ok] at hrde
    have hend := rd_end path (tA t q) a ha hres
    have hT2 : Fr (c.ab :: c.rb :: blks sv) z u2 := (hS0.mono (by simp)).trans hf2 (fun y hy => .inl hy)
    have hT2' : Fr (N :: c.ab :: c.rb :: blks sv) z u2 := hT2.mono (fun q hq => .inl (List.mem_cons_of_mem _ hq))
    have hk2' : ∀ y ∈ blks sv1, y ∈ blks sv ∨ z.heap.size ≤ y := fun y hy => by
      rcases hk2 y hy with h | h
      · exact .inl h
      · right; have := hS0.size; omega
    refine wpList_nil (q_held hT2' ?_)
    refine d_one (i := 14) rfl (by kernel_rfl) ?_
    have hn2 : PN u2 (N :: S) t[k] pn := hn0.tr (hT2'.mono (fun y hy => .inl (hTS y hy)))
    refine s_call (caseP t[k] pn v1 s1 u2 hbd4.2.2 hokx.lv (hn2.mono (by simp)) hvs2.any) rfl ?_
    rintro _ u3 ⟨rfl, hf3⟩
    refine ⟨_, rfl, ?_⟩
    obtain ⟨i1, hi1⟩ : ∃ i1, (fndV t[k].vals v1).1 = i1 := ⟨_, rfl⟩
    have hil : i1 < t[k].vals.length := by
      rw [← hi1]
      exact fnd_idx hbd4.2.2 (rd_mem hv q (by omega) _ _ _ _ _ hres _ hqs)
    have hil' : i1 + 1 < t[k].kids.length := by omega
    obtain ⟨r, hr', hrk⟩ := hv.kid hk (List.getElem_mem hil')
    have htl : i1 < t[k].kids.tail.length := by rw [List.length_tail]; omega
    have hre : t[k].kids.tail[i1] = (r : Int) := by rw [List.getElem_tail, hr']
    rw [hi1, rdN_get _ _ _ _ (by rw [kidsT_len]; exact htl)] at hrde
    simp only [kidsT, List.getElem_map, hre, Int.toNat_natCast] at hrde
    have hbr := hb4 _ (List.getElem_mem htl)
    rw [hre, Int.toNat_natCast] at hbr
    rw [hi1]
    have hcell1 : ∀ z', Fr (N :: c.ab :: c.rb :: blks sv) z z' → z'.cell? (ad2.add (i1 + 1)) = some (.int .i64 r) := fun z' hz => by
      obtain ⟨ad', e', hc'⟩ := Ls.at (hkz z' hz) hil'
      cases e'
      rw [hr'] at hc'
      exact hc'
    have hT3 := hT2.trans0 hf3
    have hT3' := hT2'.trans0 hf3
    have hr3 := hr2.tr0 hf3
    refine wpList_nil (q_held hT3' ?_)
    (apply d_take (i := 15); exact rfl; kernel_rfl; kernel_rfl; kernel_rfl; (intro u hu; exact (r_index1 (j := i1 + 1) rfl rfl rfl (by omega) rfl)); exact hT3')
    (apply d_take (i := 16); exact rfl; kernel_rfl; kernel_rfl; kernel_rfl; (intro u hu; exact (r_load rfl (hcell1 _ hu))); exact hT3')
    refine d_one (i := 17) rfl (by kernel_rfl) ?_
    have hS2 : ∀ y ∈ (N :: S) ++ blks sv1, y ∈ N :: S ∨ z.heap.size ≤ y := fun y hy => by
      rcases List.mem_append.1 hy with h | h
      · exact .inl h
      · rcases hk2' y h with h | h
        · exact .inl (List.mem_cons_of_mem _ (hin.2.2 y h))
        · exact .inr h
    have hc3 := hc1.turn (T := (N :: S) ++ blks sv1) (hT3'.mono (fun y hy => .inl (hTS y hy))) hS2
    have hlt3 := hr3.own.lt
    refine s_callVP (first := []) (cap := c.caps) (ih r hrk c ((N :: S) ++ blks sv1) u3 e1 (sp ++ sp1') sv1 hflag hc3 hr3 ⟨by simp [hin.1], by simp [hin.2.1], fun y hy => by simp [hy]⟩ (fun y hy => ?_) hend.2 (by rw [List.length_append]; omega)) rfl rfl rfl ?_
    · rcases List.mem_append.1 hy with h | h
      · have := hSb1 y h; have := hT3.size; omega
      · exact hlt3 y h
    intro e u4 hpost
    have hk24 : ∀ y ∈ c.ab :: c.rb :: blks sv1, y ∈ c.ab :: c.rb :: blks sv ∨ z.heap.size ≤ y := fun y hy => by
      rcases List.mem_cons.1 hy with h | h
      · left; simp [h]
      rcases List.mem_cons.1 h with h | h
      · left; simp [h]
      · rcases hk2' y h with h | h
        · left; simp [h]
        · exact .inr h
    rcases hres4 : rd path (tA t r) e1 with ⟨v, e', sp2⟩ | ⟨i, n⟩ | _
    rotate_left
    · rw [hres4] at hpost
      obtain ⟨rfl, hcs, hf4⟩ := hpost
      show Exit.then _ _ _ _ _
      (repeat (first | refine q_then_panic ?_ | refine q_blk_panic ?_))
      refine panic0 ?_
      rw [hrde, hres4]
      exact ⟨rfl, finP u4 (hT3.trans hf4 hk24) hcs⟩
    · rw [hres4] at hpost
      obtain ⟨rfl, hcs, hf4⟩ := hpost
      show Exit.then _ _ _ _ _
      (repeat (first | refine q_then_panic ?_ | refine q_blk_panic ?_))
      refine panic0 ?_
      rw [hrde, hres4]
      exact ⟨rfl, finP u4 (hT3.trans hf4 hk24) hcs⟩
    rw [hres4] at hpost
    obtain ⟨s, sv', sp', rfl, hvs4, hr4, hfl4, hm4, hf4, hk4⟩ := hpost
    show wpList _ _ _ _ _ _
    rw [hres4, Res.bind_ok] at hrde
    have hT4 : Fr (c.ab :: c.rb :: blks sv) z u4 := hT3.trans hf4 hk24
    have hT4' : Fr (N :: c.ab :: c.rb :: blks sv) z u4 := hT4.mono (fun q hq => .inl (List.mem_cons_of_mem _ hq))
    refine wpList_nil (q_held hT4' ?_)
    refine d_one (i := 18) rfl (by kernel_rfl) ?_
    refine s_storeAggB (cs := vc v s) rfl rfl (hb1.tr hT4 hNp) (VR.mem1 (w := u4) v _ ⟨_, rfl, hvs4⟩) rfl rfl (fun u5 hb5 hf5 hs5 => ?_)
    refine wpList_nil (q_held (hT4'.trans hf5 (by simp)) ?_)
    (refine d_done (by kernel_rfl) ?_)
    refine rx ?_
    refine retc rfl rfl (AggT.load _ (vc v s) rfl (fun j x hx => by rw [add_lit]; exact hb5.cell (by simpa using hx))) (fin u4 u5 v s sv' (sp1' ++ sp') (sp1 ++ sp2) e' hrde (hvs4.mono (fun y hy => .inl ?_)) (by rw [← List.append_assoc]; exact hr4) (fun h => by rw [hfl2 h, hfl4 h]) (by rw [List.length_append]; omega) hT4 (fun y hy => ?_) hf5)
    · rcases List.mem_append.1 hy with h | h
      · exact List.mem_append.2 (.inl (List.mem_append.2 (.inl h)))
      · exact List.mem_append.2 (.inr h)
    · rcases hk4 y hy with h | h
      · exact hk2' y h
      · right; have := hT3.size; omega
end Go.Proofs.YtpochcchekoonaaGreat
