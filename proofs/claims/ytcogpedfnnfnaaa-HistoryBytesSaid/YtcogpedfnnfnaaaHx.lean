/-
  The reference's Spoilt: a history with a part changed.
-/
import Derived.Test.YtcogpedfnnfnaaaHd
import Derived.Test.YtcogpedfnnfnaaaM1
namespace Go.Rf
open Go.RowKit
set_option linter.unusedVariables false
/-- a relation on rows that speaks of more blocks -/
def plusR {α : Type} (R : World → List Nat → α → List Value → Prop) (B : List Nat) : World → List Nat → α → List Value → Prop := fun w S x cs => R w (S ++ B) x cs
theorem plusStab {α : Type} {R : World → List Nat → α → List Value → Prop} {k : Nat} (h : Stab R k) (B : List Nat) : Stab (plusR R B) k where
  tr := fun hr hf => h.tr hr (hf.mono (fun b hb => .inl (by simp [hb])))
  mono := fun hr hT => h.mono hr (fun b hb => by
    rcases List.mem_append.1 hb with h1 | h1
    · rcases hT b h1 with h2 | h2
      · exact .inl (by simp [h2])
      · exact .inr h2
    · exact .inl (by simp [h1]))
  len := fun hr => h.len hr
  one := fun hr => h.one hr
theorem patchRw {α : Type} {R : World → List Nat → α → List Value → Prop} {k : Nat} (hs : Stab R k) {w : World} {S : List Nat} {l : List α} {ys us : List Value} {j off : Nat} {x : α} (hr : Rws (R w S) l ys) (hj : j < l.length) (ho : off + us.length ≤ k)
    (hx : ∀ cs, R w S l[j] cs → R w S x (cs.take off ++ us ++ cs.drop (off + us.length))) : Rws (R w S) (l.set j x) (ys.take (j * k + off) ++ us ++ ys.drop (j * k + off + us.length)) := by
  obtain ⟨cs, h1, h2⟩ := Rws.get (fun x cs h => hs.len h) hr hj
  have hlen := Rws.len (k := k) (fun x cs h => hs.len h) hr
  rw [Go.Proofs.Ytcogpedfnnfnaaa.row_patch h2 (hs.len h1) ho (by rw [hlen]; exact Nat.mul_le_mul_right _ hj)]
  exact Rws.set (k := k) (fun x cs h => hs.len h) hr (hx cs h1) hj
section
variable {P : Program} {ops : Array Oper} {Q : Exit → Act → World → Prop} {rest : List Oper} {n : Nat} {f : Env} {w : World}
variable {ty : TypeId} {ps : String} {af : Array Edge} {x y : Operand} {t : Nat} {α : Type} {R : World → List Nat → α → List Value → Prop} {e k c j off : Nat} {l : List α} {x' : α} {ao : Option Addr} {a b : Addr}
theorem s_putR1 {u : Value} [O : OneT P t] (ho : OwnR w e k R l (.slice ao l.length c)) (hs : Stab R k) (hao : ao = some a) (hj : j < l.length) (hx : ev n f x = .pointer (some b)) (hb : b = a.add (j * k + off)) (hv : ev n f y = u) (h1 : u.oneCell' = true) (hoff : off < k)
    (hR : ∀ cs, R w (blks (.slice ao l.length c)) l[j] cs → R w (blks (.slice ao l.length c)) x' (cs.take off ++ [u] ++ cs.drop (off + 1)))
    (h : ∀ w', OwnR w' e k R (l.set j x') (.slice ao l.length c) → Fr (blks (.slice ao l.length c)) w w' → w'.heap.size = w.heap.size → wpList P ops Q rest (A n f) w') : wpList P ops Q (⟨none, .store t x y, ty, ps, af, none⟩ :: rest) (A n f) w := by
  obtain ⟨ys, h2, h3⟩ := ho
  have hq : j * k + off < l.length * k := by
    have : (j + 1) * k ≤ l.length * k := Nat.mul_le_mul_right _ hj
    rw [Nat.succ_mul] at this; omega
  refine s_storeRow1 (q := j * k + off) h2 hao hx hb hv h1 hq (fun w' ho' hf' hs' => h w' ⟨_, by rw [List.length_set]; exact ho', ?_⟩ hf' hs')
  exact (patchRw hs (us := [u]) h3 hj (by simp; omega) hR).imp (fun _ _ _ hr => hs.tr hr hf')
theorem s_putRA {m : Nat} {us : List Value} [O : AggT P t m] (ho : OwnR w e k R l (.slice ao l.length c)) (hs : Stab R k) (hao : ao = some a) (hj : j < l.length) (hx : ev n f x = .pointer (some b)) (hb : b = a.add (j * k + off)) (hv : ev n f y = .agg us.toArray) (hm : us.length = m) (h1 : ∀ u ∈ us, u.oneCell' = true) (hoff : off + m ≤ k)
    (hR : ∀ cs, R w (blks (.slice ao l.length c)) l[j] cs → R w (blks (.slice ao l.length c)) x' (cs.take off ++ us ++ cs.drop (off + us.length)))
    (h : ∀ w', OwnR w' e k R (l.set j x') (.slice ao l.length c) → Fr (blks (.slice ao l.length c)) w w' → w'.heap.size = w.heap.size → wpList P ops Q rest (A n f) w') : wpList P ops Q (⟨none, .store t x y, ty, ps, af, none⟩ :: rest) (A n f) w := by
  obtain ⟨ys, h2, h3⟩ := ho
  have hq : j * k + off + m ≤ l.length * k := by
    have : (j + 1) * k ≤ l.length * k := Nat.mul_le_mul_right _ hj
    rw [Nat.succ_mul] at this; omega
  refine s_storeRowA (q := j * k + off) (m := m) (cs := us) h2 hao hx hb hv hm h1 hq (fun w' ho' hf' hs' => h w' ⟨_, by rw [List.length_set]; exact ho', ?_⟩ hf' hs')
  rw [← hm]
  exact (patchRw hs (us := us) h3 hj (by omega) hR).imp (fun _ _ _ hr => hs.tr hr hf')
end
end Go.Rf
namespace Go.Proofs.Ytcogpedfnnfnaaa
open Go.Rf Go.RowKit
set_option linter.unusedVariables false
set_option maxHeartbeats 8000000
attribute [local irreducible] Code.wp wpList Exit.then Exit.inBlock bodyPost A Calls execOp Addr.add

def spNames : List ByteArray := [⟨#[]⟩, ⟨#[120]⟩, ⟨#[97, 98, 99, 100, 101, 102, 103, 104, 105, 106, 107, 108, 109, 110, 111, 112]⟩, ⟨#[97, 98, 99, 100, 101, 102, 103, 104, 105, 106, 107, 108, 109, 110, 111, 112, 113]⟩]
def spLeaf (c : Int) : V := ⟨arnd c 5, c, ⟨#[]⟩, []⟩
def spEv (q c : Int) (e : Ev) : Ev :=
  if q = 0 then { e with kind := c } else if q = 1 then { e with client := c } else if q = 2 then { e with name := spNames.getD (arnd c 4).toNat ⟨#[]⟩ } else if q = 3 then { e with res := spLeaf c } else { e with args := e.args ++ [spLeaf c] }
def spoilt (l : List Ev) (a b c : Int) : List Ev :=
  match l[(arnd a l.length).toNat]? with
  | none => []
  | some e => if arnd b 7 < 5 then l.set (arnd a l.length).toNat (spEv (arnd b 7) c e) else if arnd b 7 = 5 then l ++ [e] else l.take (arnd a l.length).toNat ++ l.drop ((arnd a l.length).toNat + 1)
theorem spoilt_len (l : List Ev) (a b c : Int) : (spoilt l a b c).length ≤ l.length + 1 := by
  unfold spoilt
  split
  · simp
  · split
    · simp
    · split
      · simp
      · simp; omega
theorem spEv_ok {q c : Int} {e : Ev} (h : EvOk e) : EvOk (spEv q c e) := by
  unfold spEv
  split
  · exact ⟨h.args, h.res⟩
  split
  · exact ⟨h.args, h.res⟩
  split
  · exact ⟨h.args, h.res⟩
  split
  · exact ⟨h.args, leafOk _ _⟩
  · refine ⟨fun v hv => ?_, h.res⟩
    rcases List.mem_append.1 hv with h1 | h1
    · exact h.args v h1
    · simp at h1; subst h1; exact leafOk _ _
theorem spoilt_ok {l : List Ev} {a b c : Int} (h : ∀ e ∈ l, EvOk e) : ∀ e ∈ spoilt l a b c, EvOk e := by
  intro e he
  unfold spoilt at he
  split at he
  · cases he
  · rename_i x hx
    have hxm : x ∈ l := List.mem_of_getElem? hx
    split at he
    · rcases List.mem_or_eq_of_mem_set he with h1 | h1
      · exact h e h1
      · subst h1; exact spEv_ok (h x hxm)
    · split at he
      · rcases List.mem_append.1 he with h1 | h1
        · exact h e h1
        · simp at h1; subst h1; exact h _ hxm
      · rcases List.mem_append.1 he with h1 | h1
        · exact h e (List.mem_of_mem_take h1)
        · exact h e (List.mem_of_mem_drop h1)

set_option maxRecDepth 4000 in
theorem spoiltC (l : List Ev) (sl : Value) (a b c : Int) (w : World) (hl : EvS w l sl) (hb : l.length ≤ 1000) (hargs : ∀ e ∈ l, e.args.length ≤ 1000) (ha : InI64 a) (hbI : InI64 b) (hc : InI64 c) :
    Calls Try.prog 13 #[sl, .int .i64 a, .int .i64 b, .int .i64 c] w fun e w' => ∃ v', e = .returned v' ∧ OwnR w' 46 8 EvR (spoilt l a b c) v' ∧ (∀ k ∈ blks v', w.heap.size ≤ k) ∧ Fr [] w w' := by
  obtain ⟨ao, cc, rfl, hcc⟩ := Sl.slice hl
  refine enter Try.func13 rfl Try.ntmps13 rfl ?_
  refine rx ?_
  obtain ⟨ys, hsrc, _, hrows⟩ := id hl
  refine s_appR (l := []) (al := l) (OwnR.nil _ _ _ _) evStab rfl rfl hsrc hrows rfl (by unfold maxLen; simp; omega) (by simp; omega) (fun v1 u1 ho1 hf1 hk1 _ => ?_)
  rw [List.nil_append] at ho1
  have hF1 : Fr [] w u1 := hf1
  have hk1 : ∀ k ∈ blks v1, w.heap.size ≤ k := fun k hk => by
    rcases hk1 k hk with h | h
    · simp [blks, Value.ownBlock] at h
    · exact h
  clear hf1
  obtain ⟨av, cv, hv⟩ := ho1.slice
  subst hv
  by_cases hn : l.length = 0
  · refine rx ?_
    (apply ret1; exact rfl; (conv => lhs; whnf))
    have hl0 : l = [] := List.length_eq_zero_iff.1 hn
    have : spoilt l a b c = l := by subst hl0; rfl
    rw [this]
    exact ⟨_, rfl, ho1, hk1, hF1⟩
  refine rx ?_
  refine s_call (around a l.length u1 ha.1 ha.2 (by omega)) rfl ?_
  rintro _ _ ⟨rfl, rfl⟩
  refine ⟨_, rfl, ?_⟩
  have hi := arnd_range (a := a) (m := (l.length : Int)) (by omega)
  have hsp : spoilt l a b c = match l[(arnd a l.length).toNat]? with
    | none => []
    | some e => if arnd b 7 < 5 then l.set (arnd a l.length).toNat (spEv (arnd b 7) c e) else if arnd b 7 = 5 then l ++ [e] else l.take (arnd a l.length).toNat ++ l.drop ((arnd a l.length).toNat + 1) := rfl
  obtain ⟨i, hia⟩ : ∃ i : Nat, arnd a l.length = (i : Int) := ⟨(arnd a l.length).toNat, by omega⟩
  rw [hia] at hi hsp ⊢
  have hil : i < l.length := by omega
  rw [Int.toNat_natCast, List.getElem?_eq_getElem hil] at hsp
  simp only at hsp
  refine rx ?_
  refine s_call (around b 7 u1 hbI.1 hbI.2 (by omega)) rfl ?_
  rintro _ _ ⟨rfl, rfl⟩
  refine ⟨_, rfl, ?_⟩
  have hq := arnd_range (a := b) (m := 7) (by omega)
  generalize arnd b 7 = q at hq hsp
  have hsl := ho1.sl evStab
  obtain ⟨ad, cs, rfl, ⟨sa, sr, rfl, hva, hvr⟩, hcell⟩ := Sl.at hsl evLen hil
  have hal := hargs l[i] (by simp)
  by_cases q0 : q = 0
  · rw [if_pos (by omega)] at hsp
    have hx : spEv q c l[i] = { l[i] with kind := c } := by unfold spEv; rw [if_pos q0]
    rw [hx] at hsp
    refine rx ?_
    refine s_putR1 (j := i) (off := 0) (x' := { l[i] with kind := c }) ho1 evStab rfl hil rfl (add_add _ _ _) rfl rfl (by decide) ?_ (fun u2 ho2 hf2 hs2 => ?_)
    · rintro cs ⟨sa, sr, rfl, h1, h2⟩; exact ⟨sa, sr, rfl, h1, h2⟩
    refine rx ?_
    (apply ret1; exact rfl; (conv => lhs; whnf))
    rw [hsp]
    exact ⟨_, rfl, by simpa using ho2, hk1, hF1.trans hf2 (fun k hk => .inr (hk1 k hk))⟩
  by_cases q1 : q = 1
  · rw [if_pos (by omega)] at hsp
    have hx : spEv q c l[i] = { l[i] with client := c } := by unfold spEv; rw [if_neg q0, if_pos q1]
    rw [hx] at hsp
    refine rx ?_
    refine s_putR1 (j := i) (off := 1) (x' := { l[i] with client := c }) ho1 evStab rfl hil rfl (add_add _ _ _) rfl rfl (by decide) ?_ (fun u2 ho2 hf2 hs2 => ?_)
    · rintro cs ⟨sa, sr, rfl, h1, h2⟩; exact ⟨sa, sr, rfl, h1, h2⟩
    refine rx ?_
    (apply ret1; exact rfl; (conv => lhs; whnf))
    rw [hsp]
    exact ⟨_, rfl, by simpa using ho2, hk1, hF1.trans hf2 (fun k hk => .inr (hk1 k hk))⟩
  by_cases q2 : q = 2
  · rw [if_pos (by omega)] at hsp
    have h4 := arnd_range (a := c) (m := 4) (by omega)
    obtain ⟨j, hj⟩ : ∃ j : Nat, arnd c 4 = (j : Int) := ⟨(arnd c 4).toNat, by omega⟩
    have hj4 : j < 4 := by omega
    obtain ⟨nm, hnm⟩ : ∃ nm, spNames[j]? = some nm := ⟨_, List.getElem?_eq_getElem (by simpa [spNames] using hj4)⟩
    have hx : spEv q c l[i] = { l[i] with name := nm } := by
      unfold spEv; rw [if_neg q0, if_neg q1, if_pos q2, hj, Int.toNat_natCast, List.getD, hnm]; rfl
    rw [hx] at hsp
    refine rx ?_
    refine s_buildS (spNames.map .string) rfl rfl rfl rfl (fun u2 ho2 hf2 hs2 => ?_)
    have hcl := src_cell (j := j) (u := .string nm) ho2.src (by rw [List.getElem?_map, hnm]; rfl)
    refine rx ?_
    refine s_call (around c 4 u2 hc.1 hc.2 (by omega)) rfl ?_
    rintro _ _ ⟨rfl, rfl⟩
    refine ⟨_, rfl, ?_⟩
    rw [hj]
    refine s_index1 rfl rfl rfl hj4 rfl ?_
    refine s_load rfl hcl ?_
    refine rx ?_
    refine s_putR1 (j := i) (off := 2) (x' := { l[i] with name := nm }) (ho1.tr0 evStab hf2) evStab rfl hil rfl (add_add _ _ _) rfl rfl (by decide) ?_ (fun u3 ho3 hf3 hs3 => ?_)
    · rintro cs ⟨sa, sr, rfl, h1, h2⟩; exact ⟨sa, sr, rfl, h1, h2⟩
    refine rx ?_
    (apply ret1; exact rfl; (conv => lhs; whnf))
    rw [hsp]
    exact ⟨_, rfl, by simpa using ho3, hk1, (hF1.trans0 hf2).trans hf3 (fun k hk => .inr (hk1 k hk))⟩
  by_cases q3 : q = 3
  · rw [if_pos (by omega)] at hsp
    have h5 := arnd_range (a := c) (m := 5) (by omega)
    have hx : spEv q c l[i] = { l[i] with res := spLeaf c } := by unfold spEv; rw [if_neg q0, if_neg q1, if_neg q2, if_pos q3]
    rw [hx] at hsp
    refine rx ?_
    refine s_call (around c 5 u1 hc.1 hc.2 (by omega)) rfl ?_
    rintro _ _ ⟨rfl, rfl⟩
    refine ⟨_, rfl, ?_⟩
    refine rx ?_
    refine s_build (vc (spLeaf c) (.slice none 0 0)) rfl ?_
    refine rx ?_
    refine s_putRA (j := i) (off := 4) (m := 4) (us := vc (spLeaf c) (.slice none 0 0)) (x' := { l[i] with res := spLeaf c }) ho1 evStab rfl hil rfl (add_add _ _ _) rfl rfl (VR.mem1 (w := u1) (S := []) (spLeaf c) _ ⟨_, rfl, VS.nil _ _⟩) (by decide) ?_ (fun u2 ho2 hf2 hs2 => ?_)
    · rintro cs ⟨sa, sr, rfl, h1, h2⟩; exact ⟨sa, _, rfl, h1, VS.nil _ _⟩
    refine rx ?_
    (apply ret1; exact rfl; (conv => lhs; whnf))
    rw [hsp]
    exact ⟨_, rfl, by simpa using ho2, hk1, hF1.trans hf2 (fun k hk => .inr (hk1 k hk))⟩
  by_cases q4 : q = 4
  · rw [if_pos (by omega)] at hsp
    have h5 := arnd_range (a := c) (m := 5) (by omega)
    have hx : spEv q c l[i] = { l[i] with args := l[i].args ++ [spLeaf c] } := by unfold spEv; rw [if_neg q0, if_neg q1, if_neg q2, if_neg q3]
    rw [hx] at hsp
    obtain ⟨ysr, hown1, hrws1⟩ := id ho1
    obtain ⟨cs, ⟨sa', sr', hcs, hva', hvr'⟩, hgc⟩ := Rws.get (fun x cs h => evStab.len h) hrws1 hil
    have hcell2 := (Cells.ofSrc hown1.src).sub (i * 8) 8
    rw [hgc, hcs] at hcell2
    clear hcell hva hvr
    obtain ⟨aa, ca, hsa, _⟩ := hva'.slice
    subst hsa
    refine rx ?_
    refine s_build0 (fun u2 ho2 hf2 hs2 => ?_)
    have hcell3 := hcell2.tr0 hf2
    clear hcell2
    refine rx ?_
    have hva2 : VS u2 (blks (.slice (some ad) l.length cv)) l[i].args (.slice aa l[i].args.length ca) := hva'.tr0 hf2
    obtain ⟨B, hB⟩ : ∃ B, blks (.slice (some ad) l.length cv) = B := ⟨_, rfl⟩
    have hBlt : ∀ k ∈ B, k < u1.heap.size := hB ▸ ho1.lt
    rw [hB] at hva2
    have hva3 := VS.mono (T := [u1.heap.size] ++ B) hva' (fun k hk => by
      rcases List.mem_append.1 hk with h | h
      · right; simp at h; omega
      · left; rw [hB]; exact h)
    have hva4 := hva3.tr0 hf2
    obtain ⟨yv, hsv, _, hrv⟩ := hva4.rows
    have hoA : OwnR u2 44 4 (plusR VR B) [] (.slice (some ⟨u1.heap.size, 0, none⟩) 0 0) := ⟨[], ho2, .nil⟩
    refine s_appR (l := []) (al := l[i].args) hoA (plusStab vrStab B) rfl rfl hsv hrv rfl (by unfold maxLen; simp; omega) (by simp; omega) (fun v3 u3 ho3 hf3 hk3 _ => ?_)
    rw [List.nil_append] at ho3
    have hsz2 := hf2.size
    have hf3' : Fr [] u1 u3 := hf2.trans hf3 (by simp [blks, Value.ownBlock])
    have hk3' : ∀ k ∈ blks v3, u1.heap.size ≤ k := fun k hk => by
      rcases hk3 k hk with h | h
      · simp [blks, Value.ownBlock] at h; omega
      · omega
    obtain ⟨a3, c3, hv3⟩ := ho3.slice
    subst hv3
    refine rx ?_
    refine s_call (around c 5 u3 hc.1 hc.2 (by omega)) rfl ?_
    rintro _ _ ⟨rfl, rfl⟩
    refine ⟨_, rfl, ?_⟩
    refine rx ?_
    refine s_build (vc (spLeaf c) (.slice none 0 0)) rfl ?_
    refine s_pushA (a := spLeaf c) (cs := vc (spLeaf c) (.slice none 0 0)) ho3 (plusStab vrStab B) rfl rfl rfl ⟨_, rfl, VS.nil _ _⟩ rfl rfl rfl (by unfold maxLen; omega) (by omega) (fun v4 u4 ho4 hf4 hk4 => ?_)
    have hsz3 := hf3'.size
    have hf4' : Fr [] u1 u4 := hf3'.trans hf4 (fun k hk => .inr (hk3' k hk))
    have hk4' : ∀ k ∈ blks v4, u1.heap.size ≤ k := fun k hk => by
      rcases hk4 k hk with h | h
      · exact hk3' k h
      · omega
    have hvs : VS u4 B (l[i].args ++ [spLeaf c]) v4 := by
      obtain ⟨y4, h1, h2⟩ := ho4
      refine VS.of (by simp; omega) h1.src (fun ad' n' c' e hp hm => ?_) (h2.imp (fun x cs _ hr => VR.mono hr (fun b hb => .inl (by simp [hb]))))
      have := hBlt _ hm
      have := hk4' ad'.block (by rw [e]; simp [blks, Value.ownBlock])
      omega
    obtain ⟨a4, c4, hv4⟩ := ho4.slice
    subst hv4
    clear hcell3
    refine rx ?_
    refine s_putR1 (j := i) (off := 3) (x' := { l[i] with args := l[i].args ++ [spLeaf c] }) (ho1.tr0 evStab hf4') evStab rfl hil rfl (add_add _ _ _) rfl rfl (by decide) ?_ (fun u5 ho5 hf5 hs5 => ?_)
    · rintro cs ⟨sa, sr, rfl, h1, h2⟩; exact ⟨_, sr, rfl, by rw [hB]; exact hvs, h2⟩
    refine rx ?_
    (apply ret1; exact rfl; (conv => lhs; whnf))
    rw [hsp]
    exact ⟨_, rfl, by simpa using ho5, hk1, (hF1.trans0 hf4').trans hf5 (fun k hk => .inr (hk1 k hk))⟩
  rw [if_neg (by omega)] at hsp
  by_cases q5 : q = 5
  · rw [if_pos q5] at hsp
    obtain ⟨ysr, hown1, hrws1⟩ := id ho1
    obtain ⟨cs, hR, hgc⟩ := Rws.get (fun x cs h => evStab.len h) hrws1 hil
    have hlen8 := evStab.len hR
    have hcell2 := (Cells.ofSrc hown1.src).sub (i * 8) 8
    rw [hgc] at hcell2
    clear hcell hva hvr
    refine rx ?_
    refine s_loadAggC rfl hcell2 hlen8 ?_
    refine s_pushA (a := l[i]) (cs := cs) ho1 evStab rfl rfl rfl hR rfl rfl rfl (by unfold maxLen; omega) (by omega) (fun v2 u2 ho2 hf2 hk2 => ?_)
    refine rx ?_
    (apply ret1; exact rfl; (conv => lhs; whnf))
    rw [hsp]
    refine ⟨_, rfl, ho2, fun k hk => ?_, hF1.trans hf2 (fun k hk => .inr (hk1 k hk))⟩
    have := hF1.size
    rcases hk2 k hk with h | h
    · exact hk1 k h
    · omega
  rw [if_neg q5] at hsp
  obtain ⟨ysr, hown1, hrws1⟩ := id ho1
  have hylen := Rws.len (k := 8) (fun x cs h => evStab.len h) hrws1
  refine rx ?_
  refine s_cut 0 i hown1.src rfl hylen rfl ⟨_, rfl⟩ (by omega) (by omega) (fun ao2 c2 hs2 _ _ => ?_)
  rw [Nat.sub_zero] at hs2 ⊢
  rw [Nat.zero_mul, List.drop_zero] at hs2
  refine s_appR (l := []) (al := l.take i) (OwnR.nil _ _ _ _) evStab rfl rfl hs2 ((Rws.take (fun x cs h => evStab.len h) hrws1 i).imp (fun x cs _ hr => evStab.any hr)) (by simp; omega) (by unfold maxLen; simp; omega) (by simp; omega) (fun v2 u2 ho2 hf2 hk2 _ => ?_)
  rw [List.nil_append] at ho2
  have hF2 : Fr [] u1 u2 := hf2
  have hk2' : ∀ k ∈ blks v2, u1.heap.size ≤ k := fun k hk => by
    rcases hk2 k hk with h | h
    · simp [blks, Value.ownBlock] at h
    · exact h
  obtain ⟨a2, c2', hv2⟩ := ho2.slice
  subst hv2
  refine rx ?_
  refine s_cut (i + 1) l.length (hown1.src.tr0 hF2) rfl hylen ⟨_, rfl⟩ rfl (by omega) (by omega) (fun ao3 c3 hs3 _ _ => ?_)
  rw [← hylen, List.take_length] at hs3
  have hr3 : Rws (EvR u2 (blks (.slice a2 (l.take i).length c2'))) (l.drop (i + 1)) (ysr.drop ((i + 1) * 8)) := (Rws.drop (fun x cs h => evStab.len h) hrws1 (i + 1)).imp (fun x cs _ hr => evStab.old (evStab.mono (evStab.any hr) (fun b hb => .inr (hk2' b hb))) hF2 (by simp))
  refine s_appR (al := l.drop (i + 1)) ho2 evStab rfl rfl hs3 hr3 (by simp) (by unfold maxLen; simp; omega) (by simp; omega) (fun v4 u4 ho4 hf4 hk4 _ => ?_)
  refine rx ?_
  (apply ret1; exact rfl; (conv => lhs; whnf))
  rw [hsp]
  have hsz1 := hF1.size
  have hsz2 := hF2.size
  refine ⟨_, rfl, ho4, fun k hk => ?_, (hF1.trans0 hF2).trans hf4 (fun k hk => .inr (by have := hk2' k hk; omega))⟩
  rcases hk4 k hk with h | h
  · have := hk2' k h; omega
  · omega
end Go.Proofs.Ytcogpedfnnfnaaa
