/-
  Package tree's decoder: lists of numbers, texts, values, nodes. Package tree's decoder: values and nodes.
-/
import Derived.Test.YtpochcchekoonaaGreatY1
import Derived.Test.YtpochcchekoonaaGreatRd
import Derived.Test.YtpochcchekoonaaGreatAk
namespace Go.Proofs.YtpochcchekoonaaGreat
open Go.Rf Go.RowKit
set_option linter.unusedVariables false
set_option linter.unusedSimpArgs false
theorem IsR.far {w : World} {p : Nat} {v v' : Value} {bs bs' : List Int} {e : Int} (h : IsR w p v bs e) (hs : Sub v v') (hl : bs'.length ≤ bs.length) {S : List Nat} (hS : ∀ b ∈ S, w.heap.size ≤ b) : Off v' (bs'.map (.int .u8)) S :=
  hs.off (ys := bs.map (.int .u8)) (by simp only [List.length_map]; omega) (h.2.1.off hS)
def IsD (w : World) (d r : Nat) (v : Value) (m : Int) (s : DS) : Prop := Blk w d [.pointer (some ⟨r, 0, none⟩), .int .i64 m, .bool s.bad] 102 ∧ IsR w r v s.bs s.e
def DStep (d r : Nat) (m : Int) (w : World) (v : Value) (s' : DS) (w' : World) : Prop := ∃ v', IsD w' d r v' m s' ∧ Fr [d, r] w w' ∧ Sub v v'
theorem IsR.trF {u u' : World} {r : Nat} {v : Value} {bs : List Int} {e : Int} {T : List Nat} (h : IsR u r v bs e) (hf : Fr T u u') (hr : r ∉ T) (ho : Off v (bs.map (.int .u8)) T) : IsR u' r v bs e :=
  ⟨h.1.tr hf hr, h.2.1.tr hf ho, h.2.2.1, h.2.2.2⟩
theorem IsR.tr0 {u u' : World} {r : Nat} {v : Value} {bs : List Int} {e : Int} (h : IsR u r v bs e) (hf : Fr [] u u') : IsR u' r v bs e :=
  ⟨h.1.tr0 hf, h.2.1.tr0 hf, h.2.2.1, h.2.2.2⟩
theorem IsD.ne {u : World} {d r : Nat} {v : Value} {m : Int} {s : DS} (h : IsD u d r v m s) : d ≠ r := h.1.ne h.2.1 (by decide)
theorem IsD.trF {u u' : World} {d r : Nat} {v : Value} {m : Int} {s : DS} {T : List Nat} (h : IsD u d r v m s) (hf : Fr T u u') (hd : d ∉ T) (hr : r ∉ T) (ho : Off v (s.bs.map (.int .u8)) T) : IsD u' d r v m s :=
  ⟨h.1.tr hf hd, h.2.trF hf hr ho⟩
theorem IsD.tr0 {u u' : World} {d r : Nat} {v : Value} {m : Int} {s : DS} (h : IsD u d r v m s) (hf : Fr [] u u') : IsD u' d r v m s :=
  ⟨h.1.tr0 hf, h.2.tr0 hf⟩
theorem IsD.old {u u' : World} {d r : Nat} {v : Value} {m : Int} {s : DS} {T : List Nat} (h : IsD u d r v m s) (hf : Fr T u u') (hT : ∀ b ∈ T, u.heap.size ≤ b) : IsD u' d r v m s :=
  h.trF hf (fun hm => by have := hT _ hm; have := h.1.lt; omega) (fun hm => by have := hT _ hm; have := h.2.1.lt; omega) (h.2.far (Sub.refl _) (Nat.le_refl _) hT)
theorem IsD.rstep {u u' : World} {d r : Nat} {v : Value} {m : Int} {s : DS} {bs' : List Int} {e' : Int} (h : IsD u d r v m s) (hs : RStep r u v bs' e' u') : ∃ v', IsD u' d r v' m ⟨bs', e', s.bad⟩ ∧ Fr [r] u u' ∧ Sub v v' := by
  obtain ⟨v', h1, h2, h3⟩ := hs
  exact ⟨v', ⟨h.1.tr h2 (by simp [h.ne]), h1⟩, h2, h3⟩
/-- the decoder is told that the encoding is bad -/
theorem IsD.setBad {u u' : World} {d r : Nat} {v : Value} {m : Int} {s : DS} {b : Bool} (h : IsD u d r v m s) (hb : Blk u' d [.pointer (some ⟨r, 0, none⟩), .int .i64 m, .bool b] 102) (hf : Fr [d] u u') (ho : Off v (s.bs.map (.int .u8)) [d]) : IsD u' d r v m ⟨s.bs, s.e, b⟩ :=
  ⟨hb, h.2.trF hf (by simp [Ne.symm h.ne]) ho⟩
/-- the source lies in no decoder -/
theorem IsD.off {u : World} {d r : Nat} {v : Value} {m : Int} {s : DS} (h : IsD u d r v m s) (hO : Off v (s.bs.map (.int .u8)) [d]) : Off v (s.bs.map (.int .u8)) [d] := hO
theorem dGo_bad {α : Type} {el : DS → α × DS} {q : DS} (h : q.bad = true) : ∀ k, dGo el k q = ([], q)
  | 0 => rfl
  | k + 1 => by rw [dGo, if_pos h]
def iR (w : World) (S : List Nat) (x : Int) (cs : List Value) : Prop := cs = [.int .i64 x]
def tR (w : World) (S : List Nat) (x : ByteArray) (cs : List Value) : Prop := cs = [.string x]
theorem iStab : Stab iR 1 := ⟨fun h _ => h, fun h _ => h, fun h => by rw [h]; rfl, fun h u hu => by rw [h] at hu; simp at hu; subst hu; rfl⟩
theorem tStab : Stab tR 1 := ⟨fun h _ => h, fun h _ => h, fun h => by rw [h]; rfl, fun h u hu => by rw [h] at hu; simp at hu; subst hu; rfl⟩
theorem rws_map {α : Type} {c : α → Value} {R : α → List Value → Prop} (hR : ∀ x cs, R x cs → cs = [c x]) {l : List α} {ys : List Value} (h : Rws R l ys) : ys = l.map c := by
  induction h with
  | nil => rfl
  | cons h1 _ ih => rw [hR _ _ h1, ih]; rfl
theorem Sl.is {w : World} {S : List Nat} {l : List Int} {sl : Value} (h : Sl w S (iR w S) l sl) : IS w S l sl := by
  obtain ⟨ys, h1, h2, h3⟩ := h
  have := rws_map (c := Value.int .i64) (fun x cs h => h) h3
  subst this
  exact ⟨h1, h2⟩
theorem Sl.ts {w : World} {S : List Nat} {l : List ByteArray} {sl : Value} (h : Sl w S (tR w S) l sl) : TS w S l sl := by
  obtain ⟨ys, h1, h2, h3⟩ := h
  have := rws_map (c := Value.string) (fun x cs h => h) h3
  subst this
  exact ⟨h1, h2⟩
section
variable {α : Type} {Rp : World → List Nat → α → List Value → Prop} {k : Nat}
/-- off some more blocks -/
def Rm (Rp : World → List Nat → α → List Value → Prop) (S0 : List Nat) (w : World) (S : List Nat) (x : α) (cs : List Value) : Prop := Rp w (S0 ++ S) x cs
theorem Rm.stab (hs : Stab Rp k) (S0 : List Nat) : Stab (Rm Rp S0) k where
  tr := fun h hf => hs.tr h (hf.mono (fun b hb => .inl (by simp [hb])))
  mono := fun {w S T x cs} h hT => hs.mono (T := S0 ++ T) h (fun b hb => by
    rcases List.mem_append.1 hb with h | h
    · exact .inl (by simp [h])
    · rcases hT b h with h | h
      · exact .inl (by simp [h])
      · exact .inr h)
  len := fun h => hs.len h
  one := fun h => hs.one h
structure LI (Rp : World → List Nat → α → List Value → Prop) (e k : Nat) (w : World) (S0 : List Nat) (d r : Nat) (m : Int) (v : Value) (B : Nat) (s0 : DS) (el : DS → α × DS) (n : Int) (i : Nat) (q : DS) (l : List α) (vl vr : Value) (z : World) : Prop where
  dd : IsD z d r vr m q
  fr : Fr [d, r] w z
  sub : Sub v vr
  len : q.bs.length ≤ B
  own : OwnR z e k (Rm Rp S0) l vl
  new : ∀ b ∈ blks vl, w.heap.size ≤ b
  ll : l.length = i
  nm : q.bad = false → n ≤ m
  lb : l.length ≤ 100000000000
  go : dGo el n.toNat s0 = (l ++ (dGo el (n.toNat - i) q).1, (dGo el (n.toNat - i) q).2)
theorem OwnR.slS {w w0 : World} {e : Nat} {S0 : List Nat} {l : List α} {vl : Value} (hs : Stab Rp k) (h : OwnR w e k (Rm Rp S0) l vl) (hn : ∀ b ∈ blks vl, w0.heap.size ≤ b) (hS : ∀ b ∈ S0, b < w0.heap.size) : Sl w S0 (Rp w S0) l vl := by
  obtain ⟨ys, h1, h2⟩ := h
  refine ⟨ys, h1.src, fun ad n c e hp hm => ?_, h2.imp (fun x cs _ hr => hs.mono hr (fun b hb => .inl (by simp [hb])))⟩
  have hb : ad.block ∈ blks vl := by
    rcases h1.2 with ⟨hv, h0⟩ | ⟨g, cap, cur, hv, _⟩
    · rw [hv] at e; cases e
    · subst hv
      simp only [Value.slice.injEq, Option.some.injEq] at e
      rw [← e.1]; simp [blks, Value.ownBlock]
  have := hn _ hb
  have := hS _ hm
  omega
/-- what a function that reads one element does -/
def ElC (kf : Nat) (args : List Value) (Rp : World → List Nat → α → List Value → Prop) (el : DS → α × DS) (m : Int) (d r B : Nat) (w : World) : Prop :=
  ∀ (q : DS) (vq : Value) (u : World) (S : List Nat), Fr [d, r] w u → IsD u d r vq m q → Off vq (q.bs.map (.int .u8)) [d] → q.bs.length ≤ B → (∀ b ∈ S, b < u.heap.size) →
    Calls Tryz.prog kf args.toArray u fun e u' => ∃ x cs, e = .returned x ∧ x.cells = cs.toArray ∧ Rp u' S (el q).1 cs ∧ DStep d r m u vq (el q).2 u'
end
attribute [local irreducible] Code.wp wpList Exit.then Exit.inBlock bodyPost A Calls execOp Addr.add
set_option maxHeartbeats 8000000 in
theorem dList_int {α : Type} {Rp : World → List Nat → α → List Value → Prop} (hs : Stab Rp 1) (el : DS → α × DS) (hk : Kp el) (kf : Nat) [FnT Tryz.prog kf] (first cap : List Value) (m : Int) (hm : m ≤ 100000000000) (d r : Nat) (S0 : List Nat) (s : DS) (v : Value) (w : World)
    (hI : IsD w d r v m s) (hO : Off v (s.bs.map (.int .u8)) [d]) (hd0 : d ∈ S0) (hr0 : r ∈ S0) (hS0 : ∀ b ∈ S0, b < w.heap.size) (H : ElC kf (first ++ cap) Rp el m d r s.bs.length w) :
    Calls Tryz.prog 98 #[.pointer (some ⟨d, 0, none⟩), .func (.func kf) first.toArray cap.toArray] w fun e w' => ∃ sl, e = .returned sl ∧ Sl w' S0 (Rp w' S0) (dLst m el s).1 sl ∧ (dLst m el s).1.length ≤ 100000000000 ∧ DStep d r m w v (dLst m el s).2 w' := by
  have hb0 := hI.1
  refine enter Tryz.func98 rfl Tryz.ntmps98 rfl ?_
  refine rx ?_
  refine s_call (rInt r v s.bs s.e w hI.2) rfl ?_
  rintro _ w1 ⟨rfl, hst⟩
  refine ⟨_, rfl, ?_⟩
  obtain ⟨v1, hD1, hf1, hsub1⟩ := hI.rstep hst
  clear hst
  have hkp := dI_kp s hI.2.2.2.2
  have hO1 : Off v1 ((dI s).2.bs.map (.int .u8)) [d] := hsub1.off (ys := s.bs.map (.int .u8)) (by have := hkp.len; simp only [List.length_map]; omega) hO
  have hgo : dLst m el s = dGo el (dI s).1.toNat (dBad m (dI s)) := rfl
  rw [hgo]
  have hD1 : IsD w1 d r v1 m (dI s).2 := hD1
  have hnn : (rdI s.bs s.e).1 = (dI s).1 := rfl
  rw [hnn]
  have hl1 : (dI s).2.bs.length ≤ s.bs.length := hkp.len
  generalize dI s = y at hD1 hO1 hl1
  obtain ⟨n, q1⟩ := y
  simp only at hD1 hO1 hl1 ⊢
  have hb1 := hD1.1
  (refine rr ?_; refine wpList_nil ?_; refine q_then ?_; refine wp_seq ?_; refine c_cut (fun g z => g 0 = .pointer (some ⟨d, 0, none⟩) ∧ g 1 = .func (.func kf) first.toArray cap.toArray ∧ g 5 = .int .i64 n ∧ IsD z d r v1 m (dBad m (n, q1)) ∧ Fr [d] w1 z) ?_ ?_)
  · by_cases h1 : n < 0 ∨ m < n
    · have hE : dBad m (n, q1) = ⟨q1.bs, q1.e, true⟩ := by simp only [dBad, decide_eq_true h1, Bool.or_true]
      by_cases h2 : n < 0
      · refine rx ?_
        ((with_reducible apply s_storeB); exact rfl; (conv => lhs; whnf); exact rfl; exact hb1; exact rfl)
        intro z hbz hfz hsz
        refine rx ?_
        exact q_cut ⟨rfl, rfl, rfl, by rw [hE]; exact hD1.setBad hbz hfz hO1, hfz⟩
      · refine rx ?_
        ((with_reducible apply s_storeB); exact rfl; (conv => lhs; whnf); exact rfl; exact hb1; exact rfl)
        intro z hbz hfz hsz
        refine rx ?_
        exact q_cut ⟨rfl, rfl, rfl, by rw [hE]; exact hD1.setBad hbz hfz hO1, hfz⟩
    · refine rx ?_
      refine q_cut ⟨rfl, rfl, rfl, ?_, Fr.refl _ _⟩
      have hE : dBad m (n, q1) = q1 := by simp only [dBad, decide_eq_false h1, Bool.or_false]
      rw [hE]; exact hD1
  rintro g1 w2 ⟨k0, k1, k5, hD2, hf2⟩
  rw [eq_upd k0, eq_upd k1, eq_upd k5]
  have hF2 : Fr [d, r] w w2 := (hf1.mono (fun b hb => .inl (by simp at hb; simp [hb]))).trans hf2 (fun b hb => .inl (by simp at hb; simp [hb]))
  have hnm2 : (dBad m (n, q1)).bad = false → n ≤ m := fun h => by
    simp only [dBad, Bool.or_eq_false_iff] at h
    have := of_decide_eq_false h.2
    omega
  have hl2 : (dBad m (n, q1)).bs.length ≤ s.bs.length := hl1
  generalize dBad m (n, q1) = s0 at hD2 hnm2 hl2
  clear hD1 hb1 hO1
  refine rx ?_
  refine c_loopK 8 [6, 7] (σ := Nat × DS × List α × Value × Value) (fun st g z => g 6 = st.2.2.2.1 ∧ g 7 = .int .i64 (st.1 : Nat) ∧ LI Rp 3 1 w S0 d r m v s.bs.length s0 el n st.1 st.2.1 st.2.2.1 st.2.2.2.1 st.2.2.2.2 z) (fun st => n.toNat - st.1) (0, s0, [], .slice none 0 0, v1)
    ⟨rfl, rfl, ⟨hD2, hF2, hsub1, hl2, OwnR.nil _ _ _ _, by simp [blks, Value.ownBlock], rfl, hnm2, by simp, by simp⟩⟩ ?_
  rintro ⟨i, q, l, vl, vr⟩ g z ⟨h6, h7, L⟩
  simp only at h6 h7 L
  rw [eq_upd h6, eq_upd h7]
  have hbz := L.dd.1
  by_cases hlt : (i : Int) < n
  case neg =>
    refine rx ?_
    (apply ret1; exact rfl; (conv => lhs; whnf))
    have h0 : n.toNat - i = 0 := by omega
    have hg := L.go
    rw [h0, dGo, List.append_nil] at hg
    rw [hg]
    exact ⟨_, rfl, OwnR.slS hs L.own L.new hS0, L.lb, vr, L.dd, L.fr, L.sub⟩
  rcases hbq : q.bad with _ | _
  case true =>
    rw [hbq] at hbz
    refine rx ?_
    (apply ret1; exact rfl; (conv => lhs; whnf))
    have hg := L.go
    rw [dGo_bad hbq, List.append_nil] at hg
    rw [hg]
    exact ⟨_, rfl, OwnR.slS hs L.own L.new hS0, L.lb, vr, L.dd, L.fr, L.sub⟩
  rw [hbq] at hbz
  have hnm := L.nm hbq
  have hdl : ∀ b ∈ blks vl, b ≠ d ∧ b ≠ r := fun b hb => by
    have := L.new b hb
    have := hS0 _ hd0
    have := hS0 _ hr0
    omega
  have hoq : Off vr (q.bs.map (.int .u8)) [d] := L.sub.off (ys := s.bs.map (.int .u8)) (by have := L.len; simp only [List.length_map]; omega) hO
  refine rx ?_
  refine s_callV (first := first) (cap := cap) (vs := []) (all := first ++ cap) (H q vr z (S0 ++ blks vl) L.fr L.dd hoq L.len (fun b hb => ?lt)) rfl rfl (by simp) ?_
  case lt =>
    rcases List.mem_append.1 hb with h | h
    · have := hS0 b h; have := L.fr.size; omega
    · exact L.own.lt b h
  rintro _ z1 ⟨x, cs, rfl, hxc, hrp, vr', hD', hf', hsub'⟩
  refine ⟨_, rfl, ?_⟩
  have hown1 : OwnR z1 3 1 (Rm Rp S0) l vl := by
    obtain ⟨ys, h1, h2⟩ := L.own
    exact ⟨ys, h1.tr hf' (fun b hb hm => by have := hdl b hb; simp only [List.mem_cons, List.not_mem_nil, or_false] at hm; omega), h2.imp (fun x cs _ h => hs.tr h (hf'.mono (fun b hb => by
      simp only [List.mem_cons, List.not_mem_nil, or_false] at hb
      rcases hb with rfl | rfl
      · exact .inl (by simp [hd0])
      · exact .inl (by simp [hr0]))))⟩
  have hkl := hk q L.dd.2.2.2.2
  have hll := L.ll
  refine s_pushA (l := l) (a := (el q).1) hown1 (Rm.stab hs S0) rfl rfl hxc hrp rfl rfl rfl (by unfold maxLen; omega) (by omega) (fun v' z2 hO2 hf2' hk2 => ?_)
  have hnew' : ∀ b ∈ blks v', w.heap.size ≤ b := fun b hb => by
    rcases hk2 b hb with h | h
    · exact L.new b h
    · have := hf'.size; have := L.fr.size; omega
  have hsz : (el q).2.bs.length ≤ s.bs.length := Nat.le_trans hkl.len L.len
  refine rx ?_
  refine q_roundK (i + 1, (el q).2, l ++ [(el q).1], v', vr') (by (repeat (first | exact Keep.mrg _ _ _ _ | (refine Keep.hi rfl ?_) | (refine Keep.one rfl ?_) | exact Keep.all rfl | (refine Keep.inn rfl ?_) | (refine Keep.set rfl ?_)))) ⟨rfl, rfl, ⟨?_, ?_, L.sub.trans hsub', hsz, hO2, hnew', by simp only [List.length_append, List.length_cons, List.length_nil]; omega, fun _ => hnm, by simp only [List.length_append, List.length_cons, List.length_nil]; omega, ?_⟩⟩ (by simp only; omega)
  · exact hD'.trF hf2' (fun h => (hdl _ h).1 rfl) (fun h => (hdl _ h).2 rfl) (hI.2.far (L.sub.trans hsub') hsz L.new)
  · exact (L.fr.trans hf' (fun b hb => .inl hb)).trans hf2' (fun b hb => .inr (L.new b hb))
  · have hg := L.go
    have hsu : n.toNat - i = (n.toNat - (i + 1)) + 1 := by omega
    rw [hsu, dGo, if_neg (by rw [hbq]; simp)] at hg
    rw [hg]
    simp
set_option maxHeartbeats 8000000 in
theorem dList_str {α : Type} {Rp : World → List Nat → α → List Value → Prop} (hs : Stab Rp 1) (el : DS → α × DS) (hk : Kp el) (kf : Nat) [FnT Tryz.prog kf] (first cap : List Value) (m : Int) (hm : m ≤ 100000000000) (d r : Nat) (S0 : List Nat) (s : DS) (v : Value) (w : World)
    (hI : IsD w d r v m s) (hO : Off v (s.bs.map (.int .u8)) [d]) (hd0 : d ∈ S0) (hr0 : r ∈ S0) (hS0 : ∀ b ∈ S0, b < w.heap.size) (H : ElC kf (first ++ cap) Rp el m d r s.bs.length w) :
    Calls Tryz.prog 99 #[.pointer (some ⟨d, 0, none⟩), .func (.func kf) first.toArray cap.toArray] w fun e w' => ∃ sl, e = .returned sl ∧ Sl w' S0 (Rp w' S0) (dLst m el s).1 sl ∧ (dLst m el s).1.length ≤ 100000000000 ∧ DStep d r m w v (dLst m el s).2 w' := by
  have hb0 := hI.1
  refine enter Tryz.func99 rfl Tryz.ntmps99 rfl ?_
  refine rx ?_
  refine s_call (rInt r v s.bs s.e w hI.2) rfl ?_
  rintro _ w1 ⟨rfl, hst⟩
  refine ⟨_, rfl, ?_⟩
  obtain ⟨v1, hD1, hf1, hsub1⟩ := hI.rstep hst
  clear hst
  have hkp := dI_kp s hI.2.2.2.2
  have hO1 : Off v1 ((dI s).2.bs.map (.int .u8)) [d] := hsub1.off (ys := s.bs.map (.int .u8)) (by have := hkp.len; simp only [List.length_map]; omega) hO
  have hgo : dLst m el s = dGo el (dI s).1.toNat (dBad m (dI s)) := rfl
  rw [hgo]
  have hD1 : IsD w1 d r v1 m (dI s).2 := hD1
  have hnn : (rdI s.bs s.e).1 = (dI s).1 := rfl
  rw [hnn]
  have hl1 : (dI s).2.bs.length ≤ s.bs.length := hkp.len
  generalize dI s = y at hD1 hO1 hl1
  obtain ⟨n, q1⟩ := y
  simp only at hD1 hO1 hl1 ⊢
  have hb1 := hD1.1
  (refine rr ?_; refine wpList_nil ?_; refine q_then ?_; refine wp_seq ?_; refine c_cut (fun g z => g 0 = .pointer (some ⟨d, 0, none⟩) ∧ g 1 = .func (.func kf) first.toArray cap.toArray ∧ g 5 = .int .i64 n ∧ IsD z d r v1 m (dBad m (n, q1)) ∧ Fr [d] w1 z) ?_ ?_)
  · by_cases h1 : n < 0 ∨ m < n
    · have hE : dBad m (n, q1) = ⟨q1.bs, q1.e, true⟩ := by simp only [dBad, decide_eq_true h1, Bool.or_true]
      by_cases h2 : n < 0
      · refine rx ?_
        ((with_reducible apply s_storeB); exact rfl; (conv => lhs; whnf); exact rfl; exact hb1; exact rfl)
        intro z hbz hfz hsz
        refine rx ?_
        exact q_cut ⟨rfl, rfl, rfl, by rw [hE]; exact hD1.setBad hbz hfz hO1, hfz⟩
      · refine rx ?_
        ((with_reducible apply s_storeB); exact rfl; (conv => lhs; whnf); exact rfl; exact hb1; exact rfl)
        intro z hbz hfz hsz
        refine rx ?_
        exact q_cut ⟨rfl, rfl, rfl, by rw [hE]; exact hD1.setBad hbz hfz hO1, hfz⟩
    · refine rx ?_
      refine q_cut ⟨rfl, rfl, rfl, ?_, Fr.refl _ _⟩
      have hE : dBad m (n, q1) = q1 := by simp only [dBad, decide_eq_false h1, Bool.or_false]
      rw [hE]; exact hD1
  rintro g1 w2 ⟨k0, k1, k5, hD2, hf2⟩
  rw [eq_upd k0, eq_upd k1, eq_upd k5]
  have hF2 : Fr [d, r] w w2 := (hf1.mono (fun b hb => .inl (by simp at hb; simp [hb]))).trans hf2 (fun b hb => .inl (by simp at hb; simp [hb]))
  have hnm2 : (dBad m (n, q1)).bad = false → n ≤ m := fun h => by
    simp only [dBad, Bool.or_eq_false_iff] at h
    have := of_decide_eq_false h.2
    omega
  have hl2 : (dBad m (n, q1)).bs.length ≤ s.bs.length := hl1
  generalize dBad m (n, q1) = s0 at hD2 hnm2 hl2
  clear hD1 hb1 hO1
  refine rx ?_
  refine c_loopK 8 [6, 7] (σ := Nat × DS × List α × Value × Value) (fun st g z => g 6 = st.2.2.2.1 ∧ g 7 = .int .i64 (st.1 : Nat) ∧ LI Rp 9 1 w S0 d r m v s.bs.length s0 el n st.1 st.2.1 st.2.2.1 st.2.2.2.1 st.2.2.2.2 z) (fun st => n.toNat - st.1) (0, s0, [], .slice none 0 0, v1)
    ⟨rfl, rfl, ⟨hD2, hF2, hsub1, hl2, OwnR.nil _ _ _ _, by simp [blks, Value.ownBlock], rfl, hnm2, by simp, by simp⟩⟩ ?_
  rintro ⟨i, q, l, vl, vr⟩ g z ⟨h6, h7, L⟩
  simp only at h6 h7 L
  rw [eq_upd h6, eq_upd h7]
  have hbz := L.dd.1
  by_cases hlt : (i : Int) < n
  case neg =>
    refine rx ?_
    (apply ret1; exact rfl; (conv => lhs; whnf))
    have h0 : n.toNat - i = 0 := by omega
    have hg := L.go
    rw [h0, dGo, List.append_nil] at hg
    rw [hg]
    exact ⟨_, rfl, OwnR.slS hs L.own L.new hS0, L.lb, vr, L.dd, L.fr, L.sub⟩
  rcases hbq : q.bad with _ | _
  case true =>
    rw [hbq] at hbz
    refine rx ?_
    (apply ret1; exact rfl; (conv => lhs; whnf))
    have hg := L.go
    rw [dGo_bad hbq, List.append_nil] at hg
    rw [hg]
    exact ⟨_, rfl, OwnR.slS hs L.own L.new hS0, L.lb, vr, L.dd, L.fr, L.sub⟩
  rw [hbq] at hbz
  have hnm := L.nm hbq
  have hdl : ∀ b ∈ blks vl, b ≠ d ∧ b ≠ r := fun b hb => by
    have := L.new b hb
    have := hS0 _ hd0
    have := hS0 _ hr0
    omega
  have hoq : Off vr (q.bs.map (.int .u8)) [d] := L.sub.off (ys := s.bs.map (.int .u8)) (by have := L.len; simp only [List.length_map]; omega) hO
  refine rx ?_
  refine s_callV (first := first) (cap := cap) (vs := []) (all := first ++ cap) (H q vr z (S0 ++ blks vl) L.fr L.dd hoq L.len (fun b hb => ?lt)) rfl rfl (by simp) ?_
  case lt =>
    rcases List.mem_append.1 hb with h | h
    · have := hS0 b h; have := L.fr.size; omega
    · exact L.own.lt b h
  rintro _ z1 ⟨x, cs, rfl, hxc, hrp, vr', hD', hf', hsub'⟩
  refine ⟨_, rfl, ?_⟩
  have hown1 : OwnR z1 9 1 (Rm Rp S0) l vl := by
    obtain ⟨ys, h1, h2⟩ := L.own
    exact ⟨ys, h1.tr hf' (fun b hb hm => by have := hdl b hb; simp only [List.mem_cons, List.not_mem_nil, or_false] at hm; omega), h2.imp (fun x cs _ h => hs.tr h (hf'.mono (fun b hb => by
      simp only [List.mem_cons, List.not_mem_nil, or_false] at hb
      rcases hb with rfl | rfl
      · exact .inl (by simp [hd0])
      · exact .inl (by simp [hr0]))))⟩
  have hkl := hk q L.dd.2.2.2.2
  have hll := L.ll
  refine s_pushA (l := l) (a := (el q).1) hown1 (Rm.stab hs S0) rfl rfl hxc hrp rfl rfl rfl (by unfold maxLen; omega) (by omega) (fun v' z2 hO2 hf2' hk2 => ?_)
  have hnew' : ∀ b ∈ blks v', w.heap.size ≤ b := fun b hb => by
    rcases hk2 b hb with h | h
    · exact L.new b h
    · have := hf'.size; have := L.fr.size; omega
  have hsz : (el q).2.bs.length ≤ s.bs.length := Nat.le_trans hkl.len L.len
  refine rx ?_
  refine q_roundK (i + 1, (el q).2, l ++ [(el q).1], v', vr') (by (repeat (first | exact Keep.mrg _ _ _ _ | (refine Keep.hi rfl ?_) | (refine Keep.one rfl ?_) | exact Keep.all rfl | (refine Keep.inn rfl ?_) | (refine Keep.set rfl ?_)))) ⟨rfl, rfl, ⟨?_, ?_, L.sub.trans hsub', hsz, hO2, hnew', by simp only [List.length_append, List.length_cons, List.length_nil]; omega, fun _ => hnm, by simp only [List.length_append, List.length_cons, List.length_nil]; omega, ?_⟩⟩ (by simp only; omega)
  · exact hD'.trF hf2' (fun h => (hdl _ h).1 rfl) (fun h => (hdl _ h).2 rfl) (hI.2.far (L.sub.trans hsub') hsz L.new)
  · exact (L.fr.trans hf' (fun b hb => .inl hb)).trans hf2' (fun b hb => .inr (L.new b hb))
  · have hg := L.go
    have hsu : n.toNat - i = (n.toNat - (i + 1)) + 1 := by omega
    rw [hsu, dGo, if_neg (by rw [hbq]; simp)] at hg
    rw [hg]
    simp
set_option maxHeartbeats 8000000 in
theorem dList_val {α : Type} {Rp : World → List Nat → α → List Value → Prop} (hs : Stab Rp 4) (el : DS → α × DS) (hk : Kp el) (kf : Nat) [FnT Tryz.prog kf] (first cap : List Value) (m : Int) (hm : m ≤ 100000000000) (d r : Nat) (S0 : List Nat) (s : DS) (v : Value) (w : World)
    (hI : IsD w d r v m s) (hO : Off v (s.bs.map (.int .u8)) [d]) (hd0 : d ∈ S0) (hr0 : r ∈ S0) (hS0 : ∀ b ∈ S0, b < w.heap.size) (H : ElC kf (first ++ cap) Rp el m d r s.bs.length w) :
    Calls Tryz.prog 100 #[.pointer (some ⟨d, 0, none⟩), .func (.func kf) first.toArray cap.toArray] w fun e w' => ∃ sl, e = .returned sl ∧ Sl w' S0 (Rp w' S0) (dLst m el s).1 sl ∧ (dLst m el s).1.length ≤ 100000000000 ∧ DStep d r m w v (dLst m el s).2 w' := by
  have hb0 := hI.1
  refine enter Tryz.func100 rfl Tryz.ntmps100 rfl ?_
  refine rx ?_
  refine s_call (rInt r v s.bs s.e w hI.2) rfl ?_
  rintro _ w1 ⟨rfl, hst⟩
  refine ⟨_, rfl, ?_⟩
  obtain ⟨v1, hD1, hf1, hsub1⟩ := hI.rstep hst
  clear hst
  have hkp := dI_kp s hI.2.2.2.2
  have hO1 : Off v1 ((dI s).2.bs.map (.int .u8)) [d] := hsub1.off (ys := s.bs.map (.int .u8)) (by have := hkp.len; simp only [List.length_map]; omega) hO
  have hgo : dLst m el s = dGo el (dI s).1.toNat (dBad m (dI s)) := rfl
  rw [hgo]
  have hD1 : IsD w1 d r v1 m (dI s).2 := hD1
  have hnn : (rdI s.bs s.e).1 = (dI s).1 := rfl
  rw [hnn]
  have hl1 : (dI s).2.bs.length ≤ s.bs.length := hkp.len
  generalize dI s = y at hD1 hO1 hl1
  obtain ⟨n, q1⟩ := y
  simp only at hD1 hO1 hl1 ⊢
  have hb1 := hD1.1
  (refine rr ?_; refine wpList_nil ?_; refine q_then ?_; refine wp_seq ?_; refine c_cut (fun g z => g 0 = .pointer (some ⟨d, 0, none⟩) ∧ g 1 = .func (.func kf) first.toArray cap.toArray ∧ g 5 = .int .i64 n ∧ IsD z d r v1 m (dBad m (n, q1)) ∧ Fr [d] w1 z) ?_ ?_)
  · by_cases h1 : n < 0 ∨ m < n
    · have hE : dBad m (n, q1) = ⟨q1.bs, q1.e, true⟩ := by simp only [dBad, decide_eq_true h1, Bool.or_true]
      by_cases h2 : n < 0
      · refine rx ?_
        ((with_reducible apply s_storeB); exact rfl; (conv => lhs; whnf); exact rfl; exact hb1; exact rfl)
        intro z hbz hfz hsz
        refine rx ?_
        exact q_cut ⟨rfl, rfl, rfl, by rw [hE]; exact hD1.setBad hbz hfz hO1, hfz⟩
      · refine rx ?_
        ((with_reducible apply s_storeB); exact rfl; (conv => lhs; whnf); exact rfl; exact hb1; exact rfl)
        intro z hbz hfz hsz
        refine rx ?_
        exact q_cut ⟨rfl, rfl, rfl, by rw [hE]; exact hD1.setBad hbz hfz hO1, hfz⟩
    · refine rx ?_
      refine q_cut ⟨rfl, rfl, rfl, ?_, Fr.refl _ _⟩
      have hE : dBad m (n, q1) = q1 := by simp only [dBad, decide_eq_false h1, Bool.or_false]
      rw [hE]; exact hD1
  rintro g1 w2 ⟨k0, k1, k5, hD2, hf2⟩
  rw [eq_upd k0, eq_upd k1, eq_upd k5]
  have hF2 : Fr [d, r] w w2 := (hf1.mono (fun b hb => .inl (by simp at hb; simp [hb]))).trans hf2 (fun b hb => .inl (by simp at hb; simp [hb]))
  have hnm2 : (dBad m (n, q1)).bad = false → n ≤ m := fun h => by
    simp only [dBad, Bool.or_eq_false_iff] at h
    have := of_decide_eq_false h.2
    omega
  have hl2 : (dBad m (n, q1)).bs.length ≤ s.bs.length := hl1
  generalize dBad m (n, q1) = s0 at hD2 hnm2 hl2
  clear hD1 hb1 hO1
  refine rx ?_
  refine c_loopK 8 [6, 7] (σ := Nat × DS × List α × Value × Value) (fun st g z => g 6 = st.2.2.2.1 ∧ g 7 = .int .i64 (st.1 : Nat) ∧ LI Rp 33 4 w S0 d r m v s.bs.length s0 el n st.1 st.2.1 st.2.2.1 st.2.2.2.1 st.2.2.2.2 z) (fun st => n.toNat - st.1) (0, s0, [], .slice none 0 0, v1)
    ⟨rfl, rfl, ⟨hD2, hF2, hsub1, hl2, OwnR.nil _ _ _ _, by simp [blks, Value.ownBlock], rfl, hnm2, by simp, by simp⟩⟩ ?_
  rintro ⟨i, q, l, vl, vr⟩ g z ⟨h6, h7, L⟩
  simp only at h6 h7 L
  rw [eq_upd h6, eq_upd h7]
  have hbz := L.dd.1
  by_cases hlt : (i : Int) < n
  case neg =>
    refine rx ?_
    (apply ret1; exact rfl; (conv => lhs; whnf))
    have h0 : n.toNat - i = 0 := by omega
    have hg := L.go
    rw [h0, dGo, List.append_nil] at hg
    rw [hg]
    exact ⟨_, rfl, OwnR.slS hs L.own L.new hS0, L.lb, vr, L.dd, L.fr, L.sub⟩
  rcases hbq : q.bad with _ | _
  case true =>
    rw [hbq] at hbz
    refine rx ?_
    (apply ret1; exact rfl; (conv => lhs; whnf))
    have hg := L.go
    rw [dGo_bad hbq, List.append_nil] at hg
    rw [hg]
    exact ⟨_, rfl, OwnR.slS hs L.own L.new hS0, L.lb, vr, L.dd, L.fr, L.sub⟩
  rw [hbq] at hbz
  have hnm := L.nm hbq
  have hdl : ∀ b ∈ blks vl, b ≠ d ∧ b ≠ r := fun b hb => by
    have := L.new b hb
    have := hS0 _ hd0
    have := hS0 _ hr0
    omega
  have hoq : Off vr (q.bs.map (.int .u8)) [d] := L.sub.off (ys := s.bs.map (.int .u8)) (by have := L.len; simp only [List.length_map]; omega) hO
  refine rx ?_
  refine s_callV (first := first) (cap := cap) (vs := []) (all := first ++ cap) (H q vr z (S0 ++ blks vl) L.fr L.dd hoq L.len (fun b hb => ?lt)) rfl rfl (by simp) ?_
  case lt =>
    rcases List.mem_append.1 hb with h | h
    · have := hS0 b h; have := L.fr.size; omega
    · exact L.own.lt b h
  rintro _ z1 ⟨x, cs, rfl, hxc, hrp, vr', hD', hf', hsub'⟩
  refine ⟨_, rfl, ?_⟩
  have hown1 : OwnR z1 33 4 (Rm Rp S0) l vl := by
    obtain ⟨ys, h1, h2⟩ := L.own
    exact ⟨ys, h1.tr hf' (fun b hb hm => by have := hdl b hb; simp only [List.mem_cons, List.not_mem_nil, or_false] at hm; omega), h2.imp (fun x cs _ h => hs.tr h (hf'.mono (fun b hb => by
      simp only [List.mem_cons, List.not_mem_nil, or_false] at hb
      rcases hb with rfl | rfl
      · exact .inl (by simp [hd0])
      · exact .inl (by simp [hr0]))))⟩
  have hkl := hk q L.dd.2.2.2.2
  have hll := L.ll
  refine s_pushA (l := l) (a := (el q).1) hown1 (Rm.stab hs S0) rfl rfl hxc hrp rfl rfl rfl (by unfold maxLen; omega) (by omega) (fun v' z2 hO2 hf2' hk2 => ?_)
  have hnew' : ∀ b ∈ blks v', w.heap.size ≤ b := fun b hb => by
    rcases hk2 b hb with h | h
    · exact L.new b h
    · have := hf'.size; have := L.fr.size; omega
  have hsz : (el q).2.bs.length ≤ s.bs.length := Nat.le_trans hkl.len L.len
  refine rx ?_
  refine q_roundK (i + 1, (el q).2, l ++ [(el q).1], v', vr') (by (repeat (first | exact Keep.mrg _ _ _ _ | (refine Keep.hi rfl ?_) | (refine Keep.one rfl ?_) | exact Keep.all rfl | (refine Keep.inn rfl ?_) | (refine Keep.set rfl ?_)))) ⟨rfl, rfl, ⟨?_, ?_, L.sub.trans hsub', hsz, hO2, hnew', by simp only [List.length_append, List.length_cons, List.length_nil]; omega, fun _ => hnm, by simp only [List.length_append, List.length_cons, List.length_nil]; omega, ?_⟩⟩ (by simp only; omega)
  · exact hD'.trF hf2' (fun h => (hdl _ h).1 rfl) (fun h => (hdl _ h).2 rfl) (hI.2.far (L.sub.trans hsub') hsz L.new)
  · exact (L.fr.trans hf' (fun b hb => .inl hb)).trans hf2' (fun b hb => .inr (L.new b hb))
  · have hg := L.go
    have hsu : n.toNat - i = (n.toNat - (i + 1)) + 1 := by omega
    rw [hsu, dGo, if_neg (by rw [hbq]; simp)] at hg
    rw [hg]
    simp
set_option maxHeartbeats 8000000 in
theorem dList_nod {α : Type} {Rp : World → List Nat → α → List Value → Prop} (hs : Stab Rp 12) (el : DS → α × DS) (hk : Kp el) (kf : Nat) [FnT Tryz.prog kf] (first cap : List Value) (m : Int) (hm : m ≤ 100000000000) (d r : Nat) (S0 : List Nat) (s : DS) (v : Value) (w : World)
    (hI : IsD w d r v m s) (hO : Off v (s.bs.map (.int .u8)) [d]) (hd0 : d ∈ S0) (hr0 : r ∈ S0) (hS0 : ∀ b ∈ S0, b < w.heap.size) (H : ElC kf (first ++ cap) Rp el m d r s.bs.length w) :
    Calls Tryz.prog 57 #[.pointer (some ⟨d, 0, none⟩), .func (.func kf) first.toArray cap.toArray] w fun e w' => ∃ sl, e = .returned sl ∧ Sl w' S0 (Rp w' S0) (dLst m el s).1 sl ∧ (dLst m el s).1.length ≤ 100000000000 ∧ DStep d r m w v (dLst m el s).2 w' := by
  have hb0 := hI.1
  refine enter Tryz.func57 rfl Tryz.ntmps57 rfl ?_
  refine rx ?_
  refine s_call (rInt r v s.bs s.e w hI.2) rfl ?_
  rintro _ w1 ⟨rfl, hst⟩
  refine ⟨_, rfl, ?_⟩
  obtain ⟨v1, hD1, hf1, hsub1⟩ := hI.rstep hst
  clear hst
  have hkp := dI_kp s hI.2.2.2.2
  have hO1 : Off v1 ((dI s).2.bs.map (.int .u8)) [d] := hsub1.off (ys := s.bs.map (.int .u8)) (by have := hkp.len; simp only [List.length_map]; omega) hO
  have hgo : dLst m el s = dGo el (dI s).1.toNat (dBad m (dI s)) := rfl
  rw [hgo]
  have hD1 : IsD w1 d r v1 m (dI s).2 := hD1
  have hnn : (rdI s.bs s.e).1 = (dI s).1 := rfl
  rw [hnn]
  have hl1 : (dI s).2.bs.length ≤ s.bs.length := hkp.len
  generalize dI s = y at hD1 hO1 hl1
  obtain ⟨n, q1⟩ := y
  simp only at hD1 hO1 hl1 ⊢
  have hb1 := hD1.1
  (refine rr ?_; refine wpList_nil ?_; refine q_then ?_; refine wp_seq ?_; refine c_cut (fun g z => g 0 = .pointer (some ⟨d, 0, none⟩) ∧ g 1 = .func (.func kf) first.toArray cap.toArray ∧ g 5 = .int .i64 n ∧ IsD z d r v1 m (dBad m (n, q1)) ∧ Fr [d] w1 z) ?_ ?_)
  · by_cases h1 : n < 0 ∨ m < n
    · have hE : dBad m (n, q1) = ⟨q1.bs, q1.e, true⟩ := by simp only [dBad, decide_eq_true h1, Bool.or_true]
      by_cases h2 : n < 0
      · refine rx ?_
        ((with_reducible apply s_storeB); exact rfl; (conv => lhs; whnf); exact rfl; exact hb1; exact rfl)
        intro z hbz hfz hsz
        refine rx ?_
        exact q_cut ⟨rfl, rfl, rfl, by rw [hE]; exact hD1.setBad hbz hfz hO1, hfz⟩
      · refine rx ?_
        ((with_reducible apply s_storeB); exact rfl; (conv => lhs; whnf); exact rfl; exact hb1; exact rfl)
        intro z hbz hfz hsz
        refine rx ?_
        exact q_cut ⟨rfl, rfl, rfl, by rw [hE]; exact hD1.setBad hbz hfz hO1, hfz⟩
    · refine rx ?_
      refine q_cut ⟨rfl, rfl, rfl, ?_, Fr.refl _ _⟩
      have hE : dBad m (n, q1) = q1 := by simp only [dBad, decide_eq_false h1, Bool.or_false]
      rw [hE]; exact hD1
  rintro g1 w2 ⟨k0, k1, k5, hD2, hf2⟩
  rw [eq_upd k0, eq_upd k1, eq_upd k5]
  have hF2 : Fr [d, r] w w2 := (hf1.mono (fun b hb => .inl (by simp at hb; simp [hb]))).trans hf2 (fun b hb => .inl (by simp at hb; simp [hb]))
  have hnm2 : (dBad m (n, q1)).bad = false → n ≤ m := fun h => by
    simp only [dBad, Bool.or_eq_false_iff] at h
    have := of_decide_eq_false h.2
    omega
  have hl2 : (dBad m (n, q1)).bs.length ≤ s.bs.length := hl1
  generalize dBad m (n, q1) = s0 at hD2 hnm2 hl2
  clear hD1 hb1 hO1
  refine rx ?_
  refine c_loopK 8 [6, 7] (σ := Nat × DS × List α × Value × Value) (fun st g z => g 6 = st.2.2.2.1 ∧ g 7 = .int .i64 (st.1 : Nat) ∧ LI Rp 36 12 w S0 d r m v s.bs.length s0 el n st.1 st.2.1 st.2.2.1 st.2.2.2.1 st.2.2.2.2 z) (fun st => n.toNat - st.1) (0, s0, [], .slice none 0 0, v1)
    ⟨rfl, rfl, ⟨hD2, hF2, hsub1, hl2, OwnR.nil _ _ _ _, by simp [blks, Value.ownBlock], rfl, hnm2, by simp, by simp⟩⟩ ?_
  rintro ⟨i, q, l, vl, vr⟩ g z ⟨h6, h7, L⟩
  simp only at h6 h7 L
  rw [eq_upd h6, eq_upd h7]
  have hbz := L.dd.1
  by_cases hlt : (i : Int) < n
  case neg =>
    refine rx ?_
    (apply ret1; exact rfl; (conv => lhs; whnf))
    have h0 : n.toNat - i = 0 := by omega
    have hg := L.go
    rw [h0, dGo, List.append_nil] at hg
    rw [hg]
    exact ⟨_, rfl, OwnR.slS hs L.own L.new hS0, L.lb, vr, L.dd, L.fr, L.sub⟩
  rcases hbq : q.bad with _ | _
  case true =>
    rw [hbq] at hbz
    refine rx ?_
    (apply ret1; exact rfl; (conv => lhs; whnf))
    have hg := L.go
    rw [dGo_bad hbq, List.append_nil] at hg
    rw [hg]
    exact ⟨_, rfl, OwnR.slS hs L.own L.new hS0, L.lb, vr, L.dd, L.fr, L.sub⟩
  rw [hbq] at hbz
  have hnm := L.nm hbq
  have hdl : ∀ b ∈ blks vl, b ≠ d ∧ b ≠ r := fun b hb => by
    have := L.new b hb
    have := hS0 _ hd0
    have := hS0 _ hr0
    omega
  have hoq : Off vr (q.bs.map (.int .u8)) [d] := L.sub.off (ys := s.bs.map (.int .u8)) (by have := L.len; simp only [List.length_map]; omega) hO
  refine rx ?_
  refine s_callV (first := first) (cap := cap) (vs := []) (all := first ++ cap) (H q vr z (S0 ++ blks vl) L.fr L.dd hoq L.len (fun b hb => ?lt)) rfl rfl (by simp) ?_
  case lt =>
    rcases List.mem_append.1 hb with h | h
    · have := hS0 b h; have := L.fr.size; omega
    · exact L.own.lt b h
  rintro _ z1 ⟨x, cs, rfl, hxc, hrp, vr', hD', hf', hsub'⟩
  refine ⟨_, rfl, ?_⟩
  have hown1 : OwnR z1 36 12 (Rm Rp S0) l vl := by
    obtain ⟨ys, h1, h2⟩ := L.own
    exact ⟨ys, h1.tr hf' (fun b hb hm => by have := hdl b hb; simp only [List.mem_cons, List.not_mem_nil, or_false] at hm; omega), h2.imp (fun x cs _ h => hs.tr h (hf'.mono (fun b hb => by
      simp only [List.mem_cons, List.not_mem_nil, or_false] at hb
      rcases hb with rfl | rfl
      · exact .inl (by simp [hd0])
      · exact .inl (by simp [hr0]))))⟩
  have hkl := hk q L.dd.2.2.2.2
  have hll := L.ll
  refine s_pushA (l := l) (a := (el q).1) hown1 (Rm.stab hs S0) rfl rfl hxc hrp rfl rfl rfl (by unfold maxLen; omega) (by omega) (fun v' z2 hO2 hf2' hk2 => ?_)
  have hnew' : ∀ b ∈ blks v', w.heap.size ≤ b := fun b hb => by
    rcases hk2 b hb with h | h
    · exact L.new b h
    · have := hf'.size; have := L.fr.size; omega
  have hsz : (el q).2.bs.length ≤ s.bs.length := Nat.le_trans hkl.len L.len
  refine rx ?_
  refine q_roundK (i + 1, (el q).2, l ++ [(el q).1], v', vr') (by (repeat (first | exact Keep.mrg _ _ _ _ | (refine Keep.hi rfl ?_) | (refine Keep.one rfl ?_) | exact Keep.all rfl | (refine Keep.inn rfl ?_) | (refine Keep.set rfl ?_)))) ⟨rfl, rfl, ⟨?_, ?_, L.sub.trans hsub', hsz, hO2, hnew', by simp only [List.length_append, List.length_cons, List.length_nil]; omega, fun _ => hnm, by simp only [List.length_append, List.length_cons, List.length_nil]; omega, ?_⟩⟩ (by simp only; omega)
  · exact hD'.trF hf2' (fun h => (hdl _ h).1 rfl) (fun h => (hdl _ h).2 rfl) (hI.2.far (L.sub.trans hsub') hsz L.new)
  · exact (L.fr.trans hf' (fun b hb => .inl hb)).trans hf2' (fun b hb => .inr (L.new b hb))
  · have hg := L.go
    have hsu : n.toNat - i = (n.toNat - (i + 1)) + 1 := by omega
    rw [hsu, dGo, if_neg (by rw [hbq]; simp)] at hg
    rw [hg]
    simp
end Go.Proofs.YtpochcchekoonaaGreat
namespace Go.Rf
open Go.RowKit
set_option linter.unusedVariables false
section
variable {P : Program} {n : Nat} {f : Env} {w : World} {d : Nat} {ty : TypeId} {ps : String} {af : Array Edge} {gd : Option (Nat × Bool)}
theorem r_makeFunc {fn : Fn} {first captured : List Operand} {a b : List Value} (h1 : evs n f first = a) (h2 : evs n f captured = b) : (execOp (ev n f) ⟨some d, .makeFunc fn first.toArray captured.toArray, ty, ps, af, gd⟩).run P w = .ok (.value (.func fn a.toArray b.toArray)) w := by
  simp only [execOp, Instr.makeFunc, List.map_toArray, evs_map, h1, h2]; simp
end
end Go.Rf
namespace Go.Proofs.YtpochcchekoonaaGreat
open Go.Rf Go.RowKit
set_option linter.unusedVariables false
set_option linter.unusedSimpArgs false
theorem dInt {u : World} {d r : Nat} {v : Value} {m : Int} {s : DS} (h : IsD u d r v m s) :
    Calls Tryz.prog 24 #[.pointer (some ⟨r, 0, none⟩)] u fun e u' => e = .returned (.int .i64 (dI s).1) ∧ ∃ v', IsD u' d r v' m (dI s).2 ∧ Fr [r] u u' ∧ Sub v v' :=
  (rInt r v s.bs s.e u h.2).mono fun e u' ⟨h1, h2⟩ => ⟨h1, h.rstep h2⟩
theorem dText {u : World} {d r : Nat} {v : Value} {m : Int} {s : DS} (h : IsD u d r v m s) (hl : s.bs.length ≤ 1000000000000) :
    Calls Tryz.prog 97 #[.pointer (some ⟨r, 0, none⟩)] u fun e u' => e = .returned (.string (dT s).1) ∧ ∃ v', IsD u' d r v' m (dT s).2 ∧ Fr [r] u u' ∧ Sub v v' :=
  (rText r v s.bs s.e u h.2 hl).mono fun e u' ⟨h1, h2⟩ => ⟨h1, h.rstep h2⟩
theorem elInt (m : Int) (d r B : Nat) (w : World) : ElC 24 ([.pointer (some ⟨r, 0, none⟩)] ++ []) iR dI m d r B w := fun q vq u S _ hD _ _ _ =>
  (dInt hD).mono fun e u' ⟨h1, v', h2, h3, h4⟩ => ⟨_, [.int .i64 (dI q).1], h1, rfl, rfl, v', h2, h3.mono (fun b hb => .inl (by simp at hb; simp [hb])), h4⟩
theorem elText (m : Int) (d r B : Nat) (hB : B ≤ 1000000000000) (w : World) : ElC 97 ([.pointer (some ⟨r, 0, none⟩)] ++ []) tR dT m d r B w := fun q vq u S _ hD _ hl _ =>
  (dText hD (by omega)).mono fun e u' ⟨h1, v', h2, h3, h4⟩ => ⟨_, [.string (dT q).1], h1, rfl, rfl, v', h2, h3.mono (fun b hb => .inl (by simp at hb; simp [hb])), h4⟩
def Hd (m : Int) (d r b2 : Nat) (y : World) : Prop := (∃ b, Blk y d [.pointer (some ⟨r, 0, none⟩), .int .i64 m, .bool b] 102) ∧ Blk y b2 [.pointer (some ⟨d, 0, none⟩)] 100
theorem IsD.dk {u : World} {d r b2 : Nat} {v : Value} {m : Int} {s : DS} (h : IsD u d r v m s) (hb : Blk u b2 [.pointer (some ⟨d, 0, none⟩)] 100) : Hd m d r b2 u := ⟨⟨_, h.1⟩, hb⟩
def ValC (m : Int) (d r f : Nat) : Prop := ∀ (L : Int) (hL : L = 131073 - f) (s : DS) (v : Value) (w : World) (S : List Nat), IsD w d r v m s → Off v (s.bs.map (.int .u8)) [d] → s.bs.length ≤ 100000000000 → (∀ b ∈ S, b < w.heap.size) →
  Calls Tryz.prog 102 #[.pointer (some ⟨d, 0, none⟩), .int .i64 L] w fun e w' => ∃ sl, e = .returned (.agg (vc (dVal m f s).1 sl).toArray) ∧ VS w' S (dVal m f s).1.kids sl ∧ DStep d r m w v (dVal m f s).2 w'
attribute [local irreducible] Code.wp wpList Exit.then Exit.inBlock bodyPost A Calls execOp Addr.add
set_option maxHeartbeats 4000000 in
theorem valClo {m : Int} {d r f : Nat} (hf : f ≤ 131072) (h : ValC m d r f) (b2 b3 : Nat) (L0 : Int) (hL : L0 + 1 = 131073 - f) (w0 : World) (B : Nat) (hB : B ≤ 100000000000) (hb2 : Blk w0 b2 [.pointer (some ⟨d, 0, none⟩)] 100) (hb3 : Blk w0 b3 [.int .i64 L0] 3) (h2 : b2 ∉ [d, r]) (h3 : b3 ∉ [d, r]) :
    ElC 130 ([] ++ [.pointer (some ⟨b2, 0, none⟩), .pointer (some ⟨b3, 0, none⟩)]) VR (dVal m f) m d r B w0 := fun q vq u S hfu hD hoff hl hS => by
  have hb2u := hb2.tr hfu h2
  have hb3u := hb3.tr hfu h3
  refine enter Tryz.func130 rfl Tryz.ntmps130 rfl ?_
  refine rx ?_
  refine s_alloc rfl (fun u1 hb1 hf1 hs1 => ?_)
  have hb2' := hb2u.tr0 hf1
  have hb3' := hb3u.tr0 hf1
  refine rx ?_
  refine s_call (h (L0 + 1) hL q vq u1 (u.heap.size :: S) (hD.tr0 hf1) hoff (by omega) (fun b hb => by
    rcases List.mem_cons.1 hb with rfl | hb
    · omega
    · have := hS b hb; omega)) rfl ?_
  rintro _ u2 ⟨sl, rfl, hsl, v', hD', hf', hsub'⟩
  refine ⟨_, rfl, ?_⟩
  have hlt : u.heap.size ∉ [d, r] := fun hm => by
    simp only [List.mem_cons, List.not_mem_nil, or_false] at hm
    have := hD.1.lt
    have := hD.2.1.lt
    omega
  refine s_storeAggB (cs := vc (dVal m f q).1 sl) rfl rfl (hb1.tr hf' hlt) (VR.mem1 (w := u2) (S := []) _ _ ⟨_, rfl, hsl.any⟩) rfl rfl (fun u3 hb3 hf3 hs3 => ?_)
  refine rx ?_
  have hlt2 : u.heap.size ∉ [d, r] := hlt
  refine retc rfl rfl (AggT.load _ (vc (dVal m f q).1 sl) rfl (fun j x hx => by rw [add_lit]; exact hb3.cell (by simpa using hx))) ⟨_, _, rfl, rfl, ⟨sl, rfl, (hsl.tr (hf3.mono (by simp))).mono (fun b hb => .inl (by simp [hb]))⟩, v', ?_, (hf1.mono (by simp)).trans hf' (fun b hb => .inl hb) |>.trans hf3 (by simp), hsub'⟩
  refine hD'.trF hf3 (fun hm => hlt2 (by simp at hm; simp [hm])) (fun hm => hlt2 (by simp at hm; simp [hm])) ?_
  exact hD.2.far hsub' (dVal_kp m f q hD.2.2.2.2).len (by simp)
set_option maxHeartbeats 16000000 in
theorem valC {m : Int} (hm : m ≤ 100000000000) {d r : Nat} : ∀ f : Nat, f ≤ 131072 → ValC m d r f
  | 0, _ => fun L hL s v w S hI hO hl hS => by
    refine enter Tryz.func102 rfl Tryz.ntmps102 rfl ?_
    refine rx ?_
    refine s_box (l := [.pointer (some ⟨d, 0, none⟩)]) rfl rfl (fun w1 hb1 hf1 hs1 => ?_)
    refine s_box (l := [.int .i64 L]) rfl rfl (fun w2 hb2 hf2 hs2 => ?_)
    refine s_alloc rfl (fun w3 hb3 hf3 hs3 => ?_)
    have hF3 := (hf1.trans0 hf2).trans0 hf3
    have hb1' := (hb1.tr0 hf2).tr0 hf3
    have hb2' := hb2.tr0 hf3
    have hD3 := hI.tr0 hF3
    have hdb := hD3.1
    have hdl := hI.1.lt
    have hrl := hI.2.1.lt
    refine rx ?_
    ((with_reducible apply s_storeB); exact rfl; (conv => lhs; whnf); exact rfl; exact hdb; exact rfl)
    intro w4 hb4 hf4 hs4
    have hb34 := hb3.tr hf4 (by simp; omega)
    refine rx ?_
    refine s_build (vc (numV 0) (.slice none 0 0)) rfl ?_
    refine s_storeAggB (cs := vc (numV 0) (.slice none 0 0)) rfl rfl hb34 (VR.mem1 (w := w4) (S := []) (numV 0) _ ⟨_, rfl, VS.nil _ _⟩) rfl rfl (fun w5 hb5 hf5 hs5 => ?_)
    refine rx ?_
    refine retc rfl rfl (AggT.load _ (vc (numV 0) (.slice none 0 0)) rfl (fun j x hx => by rw [add_lit]; exact hb5.cell (by simpa using hx))) ⟨_, rfl, VS.nil _ _, v, ?_, ?_, Sub.refl _⟩
    · exact (hD3.setBad hb4 hf4 hO).trF hf5 (by simp; omega) (by simp; omega) (hI.2.far (Sub.refl _) (Nat.le_refl _) (by simp; omega))
    · exact ((hF3.mono (by simp)).trans hf4 (by simp)).trans hf5 (by simp; omega)
  | f + 1, hf => fun L hL s v w S hI hO hl hS => by
    refine enter Tryz.func102 rfl Tryz.ntmps102 rfl ?_
    refine rx ?_
    refine s_box (l := [.pointer (some ⟨d, 0, none⟩)]) rfl rfl (fun w1 hb1 hf1 hs1 => ?_)
    refine s_box (l := [.int .i64 L]) rfl rfl (fun w2 hb2 hf2 hs2 => ?_)
    refine s_alloc rfl (fun w3 hb3 hf3 hs3 => ?_)
    have hF3 := (hf1.trans0 hf2).trans0 hf3
    have hb1' := (hb1.tr0 hf2).tr0 hf3
    have hb2' := hb2.tr0 hf3
    have hD3 := hI.tr0 hF3
    have hdl := hI.1.lt
    have hrl := hI.2.1.lt
    clear hb1 hb2
    obtain ⟨N2, hN2⟩ : ∃ y, y = w.heap.size := ⟨_, rfl⟩
    obtain ⟨N3, hN3⟩ : ∃ y, y = w1.heap.size := ⟨_, rfl⟩
    obtain ⟨N4, hN4⟩ : ∃ y, y = w2.heap.size := ⟨_, rfl⟩
    rw [← hN2] at hb1' ⊢
    rw [← hN3] at hb2' ⊢
    rw [← hN4] at hb3 ⊢
    have hlt3 : N4 < w3.heap.size := hb3.lt
    rcases hq1 : dI s with ⟨k1, s1⟩
    rcases hq2 : dI s1 with ⟨k2, s2⟩
    rcases hq3 : dT s2 with ⟨st, s3⟩
    have hdv : dVal m (f + 1) s = (⟨k1, k2, st, (dLst m (dVal m f) s3).1⟩, (dLst m (dVal m f) s3).2) := by simp only [dVal, hq1, hq2, hq3]
    have e1 : (dI s).1 = k1 := by rw [hq1]
    have e1' : (dI s).2 = s1 := by rw [hq1]
    have e2 : (dI s1).1 = k2 := by rw [hq2]
    have e2' : (dI s1).2 = s2 := by rw [hq2]
    have e3 : (dT s2).1 = st := by rw [hq3]
    have e3' : (dT s2).2 = s3 := by rw [hq3]
    have kp1 := dI_kp s hI.2.2.2.2
    rw [e1'] at kp1
    have kp2 := dI_kp s1 kp1.bys
    rw [e2'] at kp2
    have kp3 := dT_kp s2 kp2.bys
    rw [e3'] at kp3
    have l1 := kp1.len
    have l2 := kp2.len
    have l3 := kp3.len
    rw [hdv]
    clear hdv hq1 hq2 hq3
    (refine rr ?_; refine wpList_nil ?_; refine q_then ?_; refine wp_seq ?_; refine c_cut (fun g z => g 2 = .pointer (some ⟨N2, 0, none⟩) ∧ g 3 = .pointer (some ⟨N3, 0, none⟩) ∧ g 4 = .pointer (some ⟨N4, 0, none⟩) ∧ w3 = z) ?_ ?_)
    · refine rx ?_
      exact q_cut ⟨rfl, rfl, rfl, rfl⟩
    rintro g _ ⟨j2, j3, j4, rfl⟩
    rw [eq_upd j2, eq_upd j3, eq_upd j4]
    refine wp_seq ?_
    refine c_cut (fun g z => g 2 = .pointer (some ⟨N2, 0, none⟩) ∧ g 3 = .pointer (some ⟨N3, 0, none⟩) ∧ g 4 = .pointer (some ⟨N4, 0, none⟩) ∧ ∃ bb v3, g 5 = .pointer (some ⟨bb, 0, none⟩) ∧ Blk z bb (vc ⟨k1, k2, st, []⟩ (.slice none 0 0)) 33 ∧ N4 < bb ∧ IsD z d r v3 m s3 ∧ Fr [r] w3 z ∧ Sub v v3) ?_ ?_
    · (refine d_begin (Hd m d r N2) (by kernel_rfl) rfl ?_)
      have hFr : Fr [r] w3 w3.drew := Fr.drew _ _
      have hDD := hD3.tr0 (Fr.drew [] w3)
      have hS : Hd m d r N2 w3.drew := hDD.dk (hb1'.tr0 (Fr.drew [] w3))
      have hSub := Sub.refl v
      have hsz : w3.heap.size ≤ w3.drew.heap.size := hFr.size
      ((first | refine d_tx 0 hS ?_ | refine d_ty 0 hS ?_ | refine d_tn 0 hS ?_); (first | refine d_tx 1 hS ?_ | refine d_ty 1 hS ?_ | refine d_tn 1 hS ?_); (first | refine d_tx 2 hS ?_ | refine d_ty 2 hS ?_ | refine d_tn 2 hS ?_))
      (apply d_take (i := 3); exact rfl; kernel_rfl; kernel_rfl; kernel_rfl; (intro u hu; exact (r_load rfl (Blk.cell hu.1.choose_spec rfl))); exact hS)
      ((first | refine d_tx 5 hS ?_ | refine d_ty 5 hS ?_ | refine d_tn 5 hS ?_); (first | refine d_tx 6 hS ?_ | refine d_ty 6 hS ?_ | refine d_tn 6 hS ?_); (first | refine d_tx 7 hS ?_ | refine d_ty 7 hS ?_ | refine d_tn 7 hS ?_))
      (apply d_take (i := 8); exact rfl; kernel_rfl; kernel_rfl; kernel_rfl; (intro u hu; exact (r_load rfl (Blk.cell hu.1.choose_spec rfl))); exact hS)
      ((first | refine d_tx 10 hS ?_ | refine d_ty 10 hS ?_ | refine d_tn 10 hS ?_); (first | refine d_tx 11 hS ?_ | refine d_ty 11 hS ?_ | refine d_tn 11 hS ?_); (first | refine d_tx 12 hS ?_ | refine d_ty 12 hS ?_ | refine d_tn 12 hS ?_))
      (apply d_take (i := 13); exact rfl; kernel_rfl; kernel_rfl; kernel_rfl; (intro u hu; exact (r_load rfl (Blk.cell hu.1.choose_spec rfl))); exact hS)
      refine d_two (i := 4) (j := 16) rfl rfl (by kernel_rfl) ?qa1 ?qb1
      case' qa1 =>
        refine s_call (dInt hDD) rfl ?_
        rintro _ zz ⟨rfl, vn, hDn, hfn, hsn⟩
        refine ⟨_, rfl, ?_⟩
        rw [e1'] at hDn
        rw [e1]
        (first | (replace hbb := hbb.tr hfn (by simp; omega)) | skip)
        replace hS := hDn.dk (hS.2.tr hfn (by simp; omega))
        replace hDD := hDn
        replace hFr := hFr.trans hfn (fun b hb => .inl hb)
        replace hSub := hSub.trans hsn
        replace hsz := Nat.le_trans hsz hfn.size
        refine wpList_nil (q_held hS ?_)
        refine d_two (i := 9) (j := 16) rfl rfl (by kernel_rfl) ?qa2 ?qb2
        case' qa2 =>
          refine s_call (dInt hDD) rfl ?_
          rintro _ zz ⟨rfl, vn, hDn, hfn, hsn⟩
          refine ⟨_, rfl, ?_⟩
          rw [e2'] at hDn
          rw [e2]
          (first | (replace hbb := hbb.tr hfn (by simp; omega)) | skip)
          replace hS := hDn.dk (hS.2.tr hfn (by simp; omega))
          replace hDD := hDn
          replace hFr := hFr.trans hfn (fun b hb => .inl hb)
          replace hSub := hSub.trans hsn
          replace hsz := Nat.le_trans hsz hfn.size
          refine wpList_nil (q_held hS ?_)
          refine d_two (i := 14) (j := 16) rfl rfl (by kernel_rfl) ?qa3 ?qb3
          case' qa3 =>
            refine s_call (dText hDD (by omega)) rfl ?_
            rintro _ zz ⟨rfl, vn, hDn, hfn, hsn⟩
            refine ⟨_, rfl, ?_⟩
            rw [e3'] at hDn
            rw [e3]
            (first | (replace hbb := hbb.tr hfn (by simp; omega)) | skip)
            replace hS := hDn.dk (hS.2.tr hfn (by simp; omega))
            replace hDD := hDn
            replace hFr := hFr.trans hfn (fun b hb => .inl hb)
            replace hSub := hSub.trans hsn
            replace hsz := Nat.le_trans hsz hfn.size
            refine wpList_nil (q_held hS ?_)
            (apply d_take (i := 15) (v := .agg ((vc ⟨k1, k2, st, []⟩ (.slice none 0 0))).toArray); exact rfl; kernel_rfl; kernel_rfl; kernel_rfl; (intro u hu; exact r_build ((vc ⟨k1, k2, st, []⟩ (.slice none 0 0))) (by rfl)); exact hS)
            refine d_one (i := 16) rfl (by kernel_rfl) ?_
            refine s_allocG rfl (fun bb zz hge hbb hfx => ?_)
            have hbN := Nat.le_trans hsz hge
            replace hDD := hDD.tr0 hfx
            replace hS := hDD.dk (hS.2.tr0 hfx)
            replace hFr := hFr.trans0 hfx
            replace hsz := Nat.le_trans hsz hfx.size
            refine wpList_nil (q_held hS ?_)
          case' qb3 =>
            refine s_allocG rfl (fun bb zz hge hbb hfx => ?_)
            have hbN := Nat.le_trans hsz hge
            replace hDD := hDD.tr0 hfx
            replace hS := hDD.dk (hS.2.tr0 hfx)
            replace hFr := hFr.trans0 hfx
            replace hsz := Nat.le_trans hsz hfx.size
            refine wpList_nil (q_held hS ?_)
            refine d_one (i := 14) rfl (by kernel_rfl) ?_
            refine s_call (dText hDD (by omega)) rfl ?_
            rintro _ zz ⟨rfl, vn, hDn, hfn, hsn⟩
            refine ⟨_, rfl, ?_⟩
            rw [e3'] at hDn
            rw [e3]
            (first | (replace hbb := hbb.tr hfn (by simp; omega)) | skip)
            replace hS := hDn.dk (hS.2.tr hfn (by simp; omega))
            replace hDD := hDn
            replace hFr := hFr.trans hfn (fun b hb => .inl hb)
            replace hSub := hSub.trans hsn
            replace hsz := Nat.le_trans hsz hfn.size
            refine wpList_nil (q_held hS ?_)
            (apply d_take (i := 15) (v := .agg ((vc ⟨k1, k2, st, []⟩ (.slice none 0 0))).toArray); exact rfl; kernel_rfl; kernel_rfl; kernel_rfl; (intro u hu; exact r_build ((vc ⟨k1, k2, st, []⟩ (.slice none 0 0))) (by rfl)); exact hS)
        case' qb2 =>
          refine s_allocG rfl (fun bb zz hge hbb hfx => ?_)
          have hbN := Nat.le_trans hsz hge
          replace hDD := hDD.tr0 hfx
          replace hS := hDD.dk (hS.2.tr0 hfx)
          replace hFr := hFr.trans0 hfx
          replace hsz := Nat.le_trans hsz hfx.size
          refine wpList_nil (q_held hS ?_)
          refine d_one (i := 9) rfl (by kernel_rfl) ?_
          refine s_call (dInt hDD) rfl ?_
          rintro _ zz ⟨rfl, vn, hDn, hfn, hsn⟩
          refine ⟨_, rfl, ?_⟩
          rw [e2'] at hDn
          rw [e2]
          (first | (replace hbb := hbb.tr hfn (by simp; omega)) | skip)
          replace hS := hDn.dk (hS.2.tr hfn (by simp; omega))
          replace hDD := hDn
          replace hFr := hFr.trans hfn (fun b hb => .inl hb)
          replace hSub := hSub.trans hsn
          replace hsz := Nat.le_trans hsz hfn.size
          refine wpList_nil (q_held hS ?_)
          refine d_one (i := 14) rfl (by kernel_rfl) ?_
          refine s_call (dText hDD (by omega)) rfl ?_
          rintro _ zz ⟨rfl, vn, hDn, hfn, hsn⟩
          refine ⟨_, rfl, ?_⟩
          rw [e3'] at hDn
          rw [e3]
          (first | (replace hbb := hbb.tr hfn (by simp; omega)) | skip)
          replace hS := hDn.dk (hS.2.tr hfn (by simp; omega))
          replace hDD := hDn
          replace hFr := hFr.trans hfn (fun b hb => .inl hb)
          replace hSub := hSub.trans hsn
          replace hsz := Nat.le_trans hsz hfn.size
          refine wpList_nil (q_held hS ?_)
          (apply d_take (i := 15) (v := .agg ((vc ⟨k1, k2, st, []⟩ (.slice none 0 0))).toArray); exact rfl; kernel_rfl; kernel_rfl; kernel_rfl; (intro u hu; exact r_build ((vc ⟨k1, k2, st, []⟩ (.slice none 0 0))) (by rfl)); exact hS)
      case' qb1 =>
        refine s_allocG rfl (fun bb zz hge hbb hfx => ?_)
        have hbN := Nat.le_trans hsz hge
        replace hDD := hDD.tr0 hfx
        replace hS := hDD.dk (hS.2.tr0 hfx)
        replace hFr := hFr.trans0 hfx
        replace hsz := Nat.le_trans hsz hfx.size
        refine wpList_nil (q_held hS ?_)
        refine d_one (i := 4) rfl (by kernel_rfl) ?_
        refine s_call (dInt hDD) rfl ?_
        rintro _ zz ⟨rfl, vn, hDn, hfn, hsn⟩
        refine ⟨_, rfl, ?_⟩
        rw [e1'] at hDn
        rw [e1]
        (first | (replace hbb := hbb.tr hfn (by simp; omega)) | skip)
        replace hS := hDn.dk (hS.2.tr hfn (by simp; omega))
        replace hDD := hDn
        replace hFr := hFr.trans hfn (fun b hb => .inl hb)
        replace hSub := hSub.trans hsn
        replace hsz := Nat.le_trans hsz hfn.size
        refine wpList_nil (q_held hS ?_)
        refine d_one (i := 9) rfl (by kernel_rfl) ?_
        refine s_call (dInt hDD) rfl ?_
        rintro _ zz ⟨rfl, vn, hDn, hfn, hsn⟩
        refine ⟨_, rfl, ?_⟩
        rw [e2'] at hDn
        rw [e2]
        (first | (replace hbb := hbb.tr hfn (by simp; omega)) | skip)
        replace hS := hDn.dk (hS.2.tr hfn (by simp; omega))
        replace hDD := hDn
        replace hFr := hFr.trans hfn (fun b hb => .inl hb)
        replace hSub := hSub.trans hsn
        replace hsz := Nat.le_trans hsz hfn.size
        refine wpList_nil (q_held hS ?_)
        refine d_one (i := 14) rfl (by kernel_rfl) ?_
        refine s_call (dText hDD (by omega)) rfl ?_
        rintro _ zz ⟨rfl, vn, hDn, hfn, hsn⟩
        refine ⟨_, rfl, ?_⟩
        rw [e3'] at hDn
        rw [e3]
        (first | (replace hbb := hbb.tr hfn (by simp; omega)) | skip)
        replace hS := hDn.dk (hS.2.tr hfn (by simp; omega))
        replace hDD := hDn
        replace hFr := hFr.trans hfn (fun b hb => .inl hb)
        replace hSub := hSub.trans hsn
        replace hsz := Nat.le_trans hsz hfn.size
        refine wpList_nil (q_held hS ?_)
        (apply d_take (i := 15) (v := .agg ((vc ⟨k1, k2, st, []⟩ (.slice none 0 0))).toArray); exact rfl; kernel_rfl; kernel_rfl; kernel_rfl; (intro u hu; exact r_build ((vc ⟨k1, k2, st, []⟩ (.slice none 0 0))) (by rfl)); exact hS)
      all_goals
        refine d_one (i := 17) rfl (by kernel_rfl) ?_
        refine s_storeAggB (cs := vc ⟨k1, k2, st, []⟩ (.slice none 0 0)) rfl rfl hbb (VR.mem1 (w := w3) (S := []) ⟨k1, k2, st, []⟩ _ ⟨_, rfl, VS.nil _ _⟩) rfl rfl (fun z2 hbz hfz hsz2 => ?_)
        have hD9 := hDD.trF hfz (by simp; omega) (by simp; omega) (hI.2.far hSub (by omega) (by simp; omega))
        refine wpList_nil (q_held (hD9.dk (hS.2.tr hfz (by simp; omega))) ?_)
        (refine d_done (by kernel_rfl) ?_)
        exact q_cut ⟨rfl, rfl, rfl, _, _, rfl, hbz, by omega, hD9, hFr.trans hfz (by simp; omega), hSub⟩
    rintro g z ⟨j2, j3, j4, bb, v3, j5, hbb, hbN, hDz, hFz, hsz⟩
    rw [eq_upd j2, eq_upd j3, eq_upd j4, eq_upd j5]
    have hbz2 := hb1'.tr hFz (by simp; omega)
    have hbz3 := hb2'.tr hFz (by simp; omega)
    have hbz4 := hb3.tr hFz (by simp; omega)
    have hltb := hbb.lt
    have hO3 : Off v3 (s3.bs.map (.int .u8)) [d] := hsz.off (ys := s.bs.map (.int .u8)) (by simp only [List.length_map]; omega) hO
    refine rx ?_
    refine s_makeFunc (a := []) (b := [.pointer (some ⟨N2, 0, none⟩), .pointer (some ⟨N3, 0, none⟩)]) rfl rfl ?_
    refine rx ?_
    refine s_call (dList_val vrStab (dVal m f) (dVal_kp m f) 130 [] [.pointer (some ⟨N2, 0, none⟩), .pointer (some ⟨N3, 0, none⟩)] m hm d r (d :: r :: bb :: N4 :: S) s3 v3 z hDz hO3 (by simp) (by simp) (fun b hb => ?lt) (valClo (by omega) (valC hm f (by omega)) N2 N3 L (by omega) z _ (by omega) hbz2 hbz3 (by simp; omega) (by simp; omega))) rfl ?_
    case lt =>
      have := hFz.size
      have := hF3.size
      simp only [List.mem_cons] at hb
      rcases hb with rfl | rfl | rfl | rfl | hb
      · omega
      · omega
      · omega
      · omega
      · have := hS b hb; omega
    rintro _ z1 ⟨sl, rfl, hsl, hll, v4, hD4, hf4, hsub4⟩
    refine ⟨_, rfl, ?_⟩
    have hvs := VS.ofSl (by omega) hsl
    have hkd : DK s3 (dLst m (dVal m f) s3).2 := dLst_kp (dVal_kp m f) s3 kp3.bys
    have hone := hvs.one
    have l4 := hkd.len
    generalize dLst m (dVal m f) s3 = y at hvs hD4 l4
    obtain ⟨ks, s4⟩ := y
    simp only at hvs hD4 l4 ⊢
    have hbb1 := hbb.tr hf4 (by simp; omega)
    have hbz41 := hbz4.tr hf4 (by simp; omega)
    refine rx ?_
    ((with_reducible apply s_storeB); exact rfl; (conv => lhs; whnf); exact hone; exact hbb1; exact rfl)
    intro z2 hb2z hf2z hs2z
    have hbb2 : Blk z2 bb (vc ⟨k1, k2, st, ks⟩ sl) 33 := hb2z
    have hvs2 := hvs.tr (hf2z.mono (T := d :: r :: bb :: N4 :: S) (by simp))
    have hbz42 := hbz41.tr hf2z (by simp; omega)
    refine rx ?_
    refine s_storeAggB (cs := vc ⟨k1, k2, st, ks⟩ sl) rfl rfl hbz42 (VR.mem1 (w := z2) (S := []) ⟨k1, k2, st, ks⟩ _ ⟨_, rfl, hvs2.any⟩) rfl rfl (fun z3 hb3z hf3z hs3z => ?_)
    refine rx ?_
    refine retc rfl rfl (AggT.load _ (vc ⟨k1, k2, st, ks⟩ sl) rfl (fun j x hx => by rw [add_lit]; exact hb3z.cell (by simpa using hx))) ⟨_, rfl, (hvs2.tr (hf3z.mono (by simp))).mono (fun b hb => .inl (by simp [hb])), v4, ?_, ?_, hsz.trans hsub4⟩
    · exact (hD4.trF hf2z (by simp; omega) (by simp; omega) (hI.2.far (hsz.trans hsub4) (by omega) (by simp; omega))).trF hf3z (by simp; omega) (by simp; omega) (hI.2.far (hsz.trans hsub4) (by omega) (by simp; omega))
    · exact ((((hF3.mono (by simp)).trans hFz (by simp)).trans hf4 (fun b hb => .inl hb)).trans hf2z (by simp; omega)).trans hf3z (by simp; omega)
end Go.Proofs.YtpochcchekoonaaGreat
