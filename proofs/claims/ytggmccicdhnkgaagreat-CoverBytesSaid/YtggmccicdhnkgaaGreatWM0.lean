/-
  Names for what is repeated.
-/
import Derived.Test.YtggmccicdhnkgaaGreatWAl
import Derived.WalkKit
import Derived.ProofKit
import Derived.OrdersHeld
import Derived.Laws.IdiomStrings
import Derived.Laws.BytesArg
import Derived.KernelRfl
import Derived.Laws.OwnMore
set_option linter.all false
namespace Go.Rf
abbrev zS : Value := .slice none 0 0
abbrev zI : Value := .int .i64 0
abbrev iV (n : Int) : Value := .int .i64 n
theorem exq {α : Type _} (a : α) : ∃ x, x = a := ⟨a, rfl⟩
def Ix (_ : Nat) : Prop := True
structure Hd (Q : Prop) : Prop where
  o : Q
section
variable {P Q R : Prop}
theorem dqx (h : P := by intro u hu; (first | (apply JfD; conv => lhs; whnf) | exact NK rfl | exact JbO rfl | exact Jh9 rfl | exact Jh8 rfl | exact Jia rfl rfl (IntWalk.i64_in _ Yhn) | exact Jfy rfl rfl (IntWalk.i64_in _ Yhn) | exact JaQ rfl (IntWalk.u64_in _ Yhn) | exact JaQ rfl (IntWalk.i64_in _ Yhn) | exact W9 rfl rfl (SN Yhn) | exact W9 rfl rfl (SG Yhn) | exact Zd rfl rfl (SN Yhn) | exact Zd rfl rfl (SG Yhn) | exact WZ rfl rfl (SN Yhn) | exact WZ rfl rfl (SG Yhn) | exact Z8 rfl rfl (SN Yhn) | exact Z8 rfl rfl (SG Yhn) | exact Z9 rfl rfl (SN Yhn) | exact Z9 rfl rfl (SG Yhn) | exact L9 rfl rfl (SN Yhn) | exact L9 rfl rfl (SG Yhn) | (apply JfC; exact rfl; conv => lhs; whnf) | exact Jao rfl rfl | exact Qs rfl rfl rfl Yhn rfl | exact Mc rfl | exact J7 rfl (Blk.cell (Blk.tr0 Yhz hu) rfl) | exact J7 rfl (Cells.get (Cells.tr0 Yhz hu) rfl) | exact Kv rfl (Cells.tr0 Yhz hu) Yik | exact Kv rfl (Cells.VO (Blk.tr0 Yhz hu)) Yik | exact ZJ rfl (Cells.tr0 Yhz hu) Yik | exact NM rfl (Blk.tr0 Yhz hu) Yik | exact J7 rfl (Cells.get hu rfl) | exact Kv rfl hu Yik | exact ZJ rfl hu Yik | exact J7 rfl (Cells.get hu.1 rfl) | exact Kv rfl hu.1 Yik | exact ZJ rfl hu.1 Yik | exact J7 rfl (Cells.get hu.2 rfl) | exact Kv rfl hu.2 Yik | exact ZJ rfl hu.2 Yik | exact J7 rfl (Blk.cell hu.2 rfl) | exact Kv rfl (Cells.VO hu.2) Yik | exact NM rfl hu.2 Yik)) : P := h
theorem Ya (h : P := by
 repeat' (first
  | exact Vh ⟨rfl, rfl, rfl, rfl, rfl, rfl, rfl, hst⟩
  | (refine Jg (U1 q _ _ hst.1) ?_; rintro _ ⟨hx1, hx2⟩; have hst := hst.step hbq hx1 hx2; have hB := hst.2.2; clear hx1 hx2; refine rx ?_)
  | (refine s_call (U5 _ _ _ _ _ _) rfl ?_; rintro _ _ ⟨⟨rb, rfl⟩, hx2⟩; refine ⟨_, rfl, ?_⟩; have hst := hst.step0 hx2; have hB := hst.2.2; clear hx2; cases rb <;> refine rx ?_)
  | (refine s_call (U6 _ _ _ _ _ _ _ _ _ _ _ _ _ _) rfl ?_; rintro _ _ ⟨⟨rb, rfl⟩, hx2⟩; refine ⟨_, rfl, ?_⟩; have hst := hst.step0 hx2; have hB := hst.2.2; clear hx2; cases rb <;> refine rx ?_)
  | (refine s_call (Nl _ _ _ _ _ _ _ _ _ _ _ _ _) rfl ?_; rintro _ _ ⟨⟨rb, rfl⟩, hx2⟩; refine ⟨_, rfl, ?_⟩; have hst := hst.step0 hx2; have hB := hst.2.2; clear hx2; cases rb <;> refine rx ?_)
  | (first | refine Vg rfl rfl (fun _ => ?_) (fun _ => ?_) | refine Vd rfl rfl (fun _ => ?_) (fun _ => ?_) | refine QZ rfl rfl (fun _ => ?_) (fun _ => ?_) | refine Vt rfl rfl (fun _ => ?_) (fun _ => ?_) | refine Ve rfl rfl (fun _ => ?_) (fun _ => ?_) | refine Vf rfl rfl (fun _ => ?_) (fun _ => ?_) | refine QB rfl rfl (fun _ => ?_) (fun _ => ?_) | refine Qv rfl rfl (fun _ => ?_) (fun _ => ?_)) <;> refine rx ?_)) : P := h
theorem Yb (h : P := by
 have hS := hS.Jb hf
 clear hf
 refine Yfz ?_
 refine Kw 13 hS ?_ (v := .agg (([.string nm, iV (d.checks.length : Nat), .slice aor rl.length cr, zI, zI, zI, zI, .slice (some ⟨bC, 0, none⟩) nc nc, .map (some bB), .map (some bP)])).toArray) (hrun := by (intro u hu; exact QU (([.string nm, iV (d.checks.length : Nat), .slice aor rl.length cr, zI, zI, zI, zI, .slice (some ⟨bC, 0, none⟩) nc nc, .map (some bB), .map (some bP)])) Yik))
 (refine JJ (i := 14) rfl Yhp ?_)
 obtain ⟨bQ, hbQ⟩ := exq u.heap.size
 refine Gg (l := [.string nm, iV (d.checks.length : Nat), .slice aor rl.length cr, zI, zI, zI, zI, .slice (some ⟨bC, 0, none⟩) nc nc, .map (some bB), .map (some bP)]) rfl rfl (fun u5 hq5 hf5 hs5 => ?_)
 rw [<- hbQ] at hq5 ⊢
 have hS5 := hS.Jb hf5
 refine wpList_nil (Jv hS5 ?_)
 (refine JJ (i := 15) rfl Yhp ?_; refine rx ?_; refine Jv hS5 ?_)
 (refine JJ (i := 16) rfl Yhp ?_; refine rx ?_; refine Jv hS5 ?_)
 refine Yfx ?_
 have hs4z := hS.size
 refine JK Yhl ⟨bQ, _, _, rfl, rfl, Jkc (P := ⟨nm, d.checks.length, d.classes.length, JM ltB (KX ds nm)⟩) (n := nc) hnc.symm hq5 (by simp only [<- hrl]; exact hR.tr0 hf5) (hC.tr0 hf5) (hB.tr0 hf5) (hP.tr0 hf5) hRi hCi Yhn Yhn Yhn Yhn Yhn Yhn Yhn, fun x hx => ?_, hF4.Jb hS5⟩
 simp only [SE, SC, S9, CU] at hx
 rcases hx with ((rfl | rfl | rfl) | hx) | hx
 .omega
 .omega
 .omega
 .have := hCi x hx; omega
 .have := hRi x hx; omega) : P := h
theorem Yd (h : P := by
 refine rx ?_
 repeat' (first
  | exact JK Yhl Yhz | exact wpList_nil (JK Yhl Yhz)
  | (refine Jg (U1 q _ _ hst.1) ?_; rintro _ ⟨hx1, hx2⟩; have hst := hst.step hbq hx1 hx2; have hB := hst.2.2; clear hx1 hx2; refine rx ?_)
  | (refine Jg (Vo q _ 0 _ hst.1) ?_; rintro _ ⟨hx1, hx2⟩; have hst := hst.step hbq hx1 hx2; have hB := hst.2.2; clear hx1 hx2; refine rx ?_)
  | (refine Jg (Vo q _ 1 _ hst.1) ?_; rintro _ ⟨hx1, hx2⟩; have hst := hst.step hbq hx1 hx2; have hB := hst.2.2; clear hx1 hx2; refine rx ?_)
  | (refine Jg (Gw q _ _ _ hst.1) ?_; rintro _ ⟨hx1, hx2⟩; have hst := hst.step hbq hx1 hx2; have hB := hst.2.2; clear hx1 hx2; refine rx ?_)
  | (refine Jg (MF q _ _ hst.1 Yhn) ?_; rintro _ ⟨hx1, hx2⟩; have hst := hst.step hbq hx1 hx2; have hB := hst.2.2; clear hx1 hx2; refine rx ?_)
  | (refine s_call (Jc7 _ _ _ _ _ _ _ _ _ _ _ _ _ _ _ _ _ ) rfl ?_; rintro _ _ ⟨⟨rb, rfl⟩, hx2⟩; refine ⟨_, rfl, ?_⟩; have hst := hst.step0 hx2; have hB := hst.2.2; clear hx2; cases rb <;> refine rx ?_)
  | (refine s_call (JjX _ _) rfl ?_; rintro _ _ ⟨⟨rk, hrk, rfl⟩, hx2⟩; refine ⟨_, rfl, ?_⟩; have hst := hst.step0 hx2; have hB := hst.2.2; clear hx2; refine rx ?_)
  | (refine JbG rfl rfl ?_; refine rx ?_)
  | (obtain ⟨y1, y2, y3, hQ⟩ := hst.1; refine rx ?_; ((with_reducible apply Ji); exact rfl; (conv => lhs; whnf); exact rfl; exact hQ; exact rfl); intro wq hQ hfq hsq; have hst := hst.step hbq ⟨_, _, _, hQ⟩ hfq; have hB := hst.2.2; refine rx ?_)
  | (first | refine Vg rfl rfl (fun _ => ?_) (fun _ => ?_) | refine Vd rfl rfl (fun _ => ?_) (fun _ => ?_) | refine QZ rfl rfl (fun _ => ?_) (fun _ => ?_) | refine Vt rfl rfl (fun _ => ?_) (fun _ => ?_) | refine Ve rfl rfl (fun _ => ?_) (fun _ => ?_) | refine Vf rfl rfl (fun _ => ?_) (fun _ => ?_) | refine QB rfl rfl (fun _ => ?_) (fun _ => ?_) | refine Qv rfl rfl (fun _ => ?_) (fun _ => ?_)) <;> refine rx ?_)) : P := h
theorem Yf (h : P := by
 refine rx ?_
 repeat' (first
  | exact JK Yhl Yhz | exact wpList_nil (JK Yhl Yhz)
  | (refine Jg (U1 q _ _ hst.1) ?_; rintro _ ⟨hx1, hx2⟩; have hst := hst.step hbq hx1 hx2; have hB := hst.2.2; clear hx1 hx2; refine rx ?_)
  | (refine Jg (Vo q _ 0 _ hst.1) ?_; rintro _ ⟨hx1, hx2⟩; have hst := hst.step hbq hx1 hx2; have hB := hst.2.2; clear hx1 hx2; refine rx ?_)
  | (refine Jg (Vo q _ 1 _ hst.1) ?_; rintro _ ⟨hx1, hx2⟩; have hst := hst.step hbq hx1 hx2; have hB := hst.2.2; clear hx1 hx2; refine rx ?_)
  | (refine Jg (MF q _ _ hst.1 Yhn) ?_; rintro _ ⟨hx1, hx2⟩; have hst := hst.step hbq hx1 hx2; have hB := hst.2.2; clear hx1 hx2; refine rx ?_)
  | (first | refine Vg rfl rfl (fun _ => ?_) (fun _ => ?_) | refine Vd rfl rfl (fun _ => ?_) (fun _ => ?_) | refine QZ rfl rfl (fun _ => ?_) (fun _ => ?_) | refine Vt rfl rfl (fun _ => ?_) (fun _ => ?_) | refine Ve rfl rfl (fun _ => ?_) (fun _ => ?_) | refine Vf rfl rfl (fun _ => ?_) (fun _ => ?_) | refine QB rfl rfl (fun _ => ?_) (fun _ => ?_) | refine Qv rfl rfl (fun _ => ?_) (fun _ => ?_)) <;> refine rx ?_)) : P := h
theorem Ymc (h : P := by
 refine Ymz ?_
 obtain ⟨n11, hn11⟩ := exq u.heap.size
 refine JC hA8 rfl hA10.src rfl Yhs Yhu Yhv Yhn (fun vC u hA11 hf _ _ => ?_)
 rw [show E.map (Value.int .u8) ++ [.int .u8 c] = (E ++ [c]).map (.int .u8) by simp] at hA11
 have hA5 := hA5.tr hf (fun x hx hm => by have := hA5n x hx; have := hA5l x hx; have := hge8 x hm; omega)
 have hS : Fr [] w14 u := hS.trans hf (fun x hx => .inr (by have := hge8 x hx; have := hS0; omega))
 have hA111 := hA11.one
 obtain ⟨ao2, c2, rfl⟩ := hA5.slice
 obtain ⟨ao3, c3, rfl⟩ := hA11.slice
 refine Yfz ?_
 (refine JJ (i := 12) rfl Yhp ?_)
 refine J3 [.slice (some ad22) E.length c22, .slice aoE i cE, .slice ao2 (rw_.take 40).length c2, .slice ao3 (E.length + 1) c3] rfl rfl rfl rfl (fun u hA12 hf _ => ?_)
 have hS := hS.Jb hf
 refine Yfz ?_
 (refine JJ (i := 13) rfl Yhp ?_; refine rx ?_; refine Jv hS ?_)
 refine Yfx ?_
 refine JK Yhl ⟨_, _, _, rfl, hA12, (hA5.tr0 hf).src, by rw [Sm]; exact (hA11.tr0 hf).src, hS⟩) : P := h
theorem Yg (h : P := by
 refine rx ?_
 refine Jh 4 [] (σ := Nat × Value) (fun s g y => g 19 = iV (Qx e) /\ g 20 = iV s.1 /\ s.1 <= Qx e /\ Blk y q [s.2] tq /\ BO w0 50 y (acc ++ (List.range s.1).map (fun (i : Nat) => (⟨nm, e.at_, (i : Int)⟩ : Br))) s.2 /\ (∀ x ∈ blks s.2, x ∉ Z) /\ FZ Z u y /\ Fr [q] w0 y /\ u.heap.size <= y.heap.size) (fun s => Qx e - s.1) (0, v) ⟨by rw [ha]; first | rfl | (rw [hl1]; rfl) | simp [hl1], rfl, SL _, hbv, by simpa using hL, hvZ, hZ0, hF0, SX _⟩ ?_
 clear hL hbv hvZ hZ0
 rintro ⟨i, v⟩ g y ⟨g1, g2, hi, hbv, hL, hvZ, hZy, hFy, hsy⟩
 simp only at g1 g2 hi hL hbv hvZ
 rw [Ja g1, Ja g2]
 clear g1 g2
 by_cases hlt : i < Qx e
 case neg =>
  refine rx ?_
  have ei : i = Qx e := by omega
  subst ei
  exact WI rfl ⟨rfl, ⟨v, hbv, hL, hvZ, hqZ, fun x hx => by have := hZlt x hx; omega⟩, hZy, hFy⟩
 refine rx ?_
 (refine Kr 11 (fun z => Blk z q [v] tq /\ (Cells z a [iV e.kind, .string e.name, iV e.n, .slice a1 (e.names.map JV).length c1, s2, s3, iV e.at_] /\ Blk z b dc td)) Yhp rfl ?_)
 obtain ⟨y1, hy1⟩ := exq y.drew
 rw [<- hy1]
 have hf1 : Fr [] y y1 := hy1 ▸ Fr.drew _ _
 have hF1 := hFy.Jb hf1
 have hL := hL.tr0 hf1
 have hbv := hbv.tr0 hf1
 have hS := And.intro hbv (And.intro (hc.tr hF1 haq) (hb0.tr hF1 Ykr))
 have hs1 := hf1.size
 (refine Jp 0 hS ?_ (hrun := (by intro u hu; exact (J7 rfl (Blk.cell hu.1 rfl)))))
 ((refine Jp 1 hS ?_))
 (refine Jp 2 hS ?_ (hrun := (by intro u hu; exact (J7 rfl (Blk.cell hu.2.2 hnm)))))
 ((refine Jp 3 hS ?_); (refine Jp 4 hS ?_); (refine Jp 5 hS ?_))
 (refine Jp 6 hS ?_ (hrun := (by intro u hu; exact (J7 rfl (Cells.get hu.2.1 rfl)))))
 ((refine Jp 7 hS ?_))
 (refine Jp 8 hS (hrun := (by (intro u hu; exact QU ([.string nm, iV e.at_, iV i]) Yik))) ?_)
 (refine KH (i := 9) rfl Yhp ?_)
 refine JQ rfl rfl rfl (fun y2 q2 hq2 ho hf2 hs2 => ?_)
 have hF2 := hF1.Jb hf2
 have hL := hL.tr0 hf2
 have hbv := hbv.tr0 hf2
 have hS := And.intro hbv (And.intro (hc.tr hF2 haq) (hb0.tr hF2 Ykr))
 refine Yhe ?_
 refine Ygo ?_
 have hlen : (acc ++ (List.range i).map (fun (i : Nat) => (⟨nm, e.at_, (i : Int)⟩ : Br))).length = acc.length + i := by simp
 obtain ⟨hLo, hLb⟩ := hL
 refine JC hLo rfl ho.src rfl rfl (Jbn [⟨nm, e.at_, i⟩]) Yhv Yhn (fun v3 y3 ho3 hf3 hk3 _ => ?_)
 have hs3 := hf3.size
 have hqb : q ∉ blks v := fun h => by have := hLb _ h; omega
 have hF3 : Fr [q] w0 y3 := hF2.trans hf3 (fun x hx => .inr (hLb x hx))
 have hZ3 : FZ Z u y3 := ((hZy.trans (.of0 hf1)).trans (.of0 hf2)).trans ⟨_, hf3, hvZ⟩
 have hbv := hbv.tr hf3 hqb
 have hS := And.intro hbv (And.intro (hc.tr hF3 haq) (hb0.tr hF3 Ykr))
 have hL3 : BO w0 50 y3 (acc ++ (List.range (i + 1)).map (fun (i : Nat) => (⟨nm, e.at_, (i : Int)⟩ : Br))) v3 := by
  refine ⟨?_, fun x hx => (hk3 x hx).elim (hLb x) Yid⟩
  rw [Fv, Dp, <- List.append_assoc, List.flatMap_append, Sm]
  exact ho3
 have hvZ3 : ∀ x ∈ blks v3, x ∉ Z := fun x hx hm => (hk3 x hx).elim (fun h => hvZ x h hm) (fun h => by have := hZlt x hm; omega)
 have h1c := hL3.1.one
 refine Yhe ?_
 (refine KH (i := 11) rfl Yhp ?_)
 ((with_reducible apply Ji); exact rfl; (conv => lhs; whnf); exact h1c; exact hbv; exact rfl)
 intro y4 hbv hf4 hs4
 replace hbv : Blk y4 q [v3] tq := hbv
 refine Yeu ?_
 have hqb3 : ∀ x ∈ blks v3, x ∉ [q] := fun x hx hm => by have := hL3.2 x hx; rw [Sv.1 hm] at this; omega
 refine rx ?_
 refine Jc (i + 1, v3) Yhl ⟨rfl, rfl, hlt, hbv, ⟨hL3.1.tr hf4 hqb3, hL3.2⟩, hvZ3, hZ3.trans ⟨_, hf4, fun x hx => by rw [Sv.1 hx]; exact hqZ⟩, hF3.trans hf4 (fun x hx => .inl hx), by omega⟩ Yhw) : P := h
theorem Yh (h : P := by
 clear hst hB
 rintro g u ⟨g0, g3, g4, g5, g6, g7, g8, hst⟩
 rw [Ja g0, Ja g3, Ja g4, Ja g5, Ja g6, Ja g7, Ja g8]
 clear g0 g3 g4 g5 g6 g7 g8
 have hB := hst.2.2
 refine rx ?_
 repeat' (first
  | exact WI rfl ⟨rfl, hst.1, hst.2.1⟩
  | (refine Jg (U1 q _ _ hst.1) ?_; rintro _ ⟨hx1, hx2⟩; have hst := hst.step hbq hx1 hx2; have hB := hst.2.2; clear hx1 hx2; refine rx ?_)
  | (refine s_call (U5 _ _ _ _ _ _) rfl ?_; rintro _ _ ⟨⟨rb, rfl⟩, hx2⟩; refine ⟨_, rfl, ?_⟩; have hst := hst.step0 hx2; have hB := hst.2.2; clear hx2; cases rb <;> refine rx ?_)
  | (refine s_call (U6 _ _ _ _ _ _ _ _ _ _ _ _ _ _) rfl ?_; rintro _ _ ⟨⟨rb, rfl⟩, hx2⟩; refine ⟨_, rfl, ?_⟩; have hst := hst.step0 hx2; have hB := hst.2.2; clear hx2; cases rb <;> refine rx ?_)
  | (refine s_call (Nl _ _ _ _ _ _ _ _ _ _ _ _ _) rfl ?_; rintro _ _ ⟨⟨rb, rfl⟩, hx2⟩; refine ⟨_, rfl, ?_⟩; have hst := hst.step0 hx2; have hB := hst.2.2; clear hx2; cases rb <;> refine rx ?_)
  | (first | refine Vg rfl rfl (fun _ => ?_) (fun _ => ?_) | refine Vd rfl rfl (fun _ => ?_) (fun _ => ?_) | refine QZ rfl rfl (fun _ => ?_) (fun _ => ?_) | refine Vt rfl rfl (fun _ => ?_) (fun _ => ?_) | refine Ve rfl rfl (fun _ => ?_) (fun _ => ?_) | refine Vf rfl rfl (fun _ => ?_) (fun _ => ?_) | refine QB rfl rfl (fun _ => ?_) (fun _ => ?_) | refine Qv rfl rfl (fun _ => ?_) (fun _ => ?_)) <;> refine rx ?_)) : P := h
theorem Yi (h : P := by
 refine rx ?_
 refine Jh 8 [5, 7] (σ := Nat × Value) (fun s g u => g 7 = iV s.1 /\ g 5 = s.2 /\ s.1 <= Qx e /\ BO w1 50 u ((List.range s.1).map (fun (i : Nat) => (⟨nm, e.at_, (i : Int)⟩ : Br))) s.2 /\ Fr [] w1 u) (fun s => Qx e - s.1) (0, _) ⟨rfl, rfl, SL _, BO.nil, Fr.refl _ _⟩ ?_
 rintro ⟨i, v⟩ g u ⟨g1, g2, hi, hL, hF⟩
 simp only at g1 g2 hi hL
 rw [Ja g1, Ja g2]
 clear g1 g2
 have hsu := hF.size
 have hb := hb1.tr0 hF
 by_cases hlt : i < Qx e
 case pos =>
  refine rx ?_
  refine JF [.string nm, iV e.at_, iV i] rfl ?_
  refine JQ rfl rfl rfl (fun u1 q hq ho hf5 hs5 => ?_)
  have hL := hL.tr0 hf5
  have hF := hF.Jb hf5
  have hlen : ((List.range i).map (fun (i : Nat) => (⟨nm, e.at_, (i : Int)⟩ : Br))).length = i := by simp
  refine Bj (al := [⟨nm, e.at_, i⟩]) (m := 1) hL rfl rfl rfl ho.src Yhv Yhn Yhn (fun v3 u3 hL hfr => ?_)
  have hF := hfr _ hF
  refine rx ?_
  refine Jc (i + 1, v3) Yhl ⟨rfl, rfl, hlt, ?_, hF⟩ Yhw
  simp only
  rw [Fv, Dp]
  exact hL
 have ei : i = Qx e := by omega
 subst ei
 have hL : BO w1 50 u (Xi nm e) v := hL
 refine rx ?_
 refine Jh 9 [5, 8] (σ := Nat × Value) (fun s g u => g 8 = iV s.1 /\ g 5 = s.2 /\ s.1 <= e.kids.length /\ BO w1 50 u (Xi nm e ++ (e.kids.take s.1).flatMap (brN nm)) s.2 /\ Fr [] w1 u) (fun s => e.kids.length - s.1) (0, _) ⟨rfl, rfl, SL _, by simpa using hL, hF⟩ ?_
 clear hL hF hi hlt
 rintro ⟨i, v⟩ g u ⟨g1, g2, hi, hL, hF⟩
 simp only at g1 g2 hi hL
 rw [Ja g1, Ja g2]
 clear g1 g2
 have hsu := hF.size
 have hb := hb1.tr0 hF
 by_cases hlt : i < e.kids.length
 case neg =>
  refine Yeo ?_
  rw [SQ Yhn, <- hzb] at hL
  exact ⟨_, rfl, ⟨hL.1, fun b hb => by have := hL.2 b hb; omega⟩, hf1.Jb hF⟩
 obtain ⟨ad, cs2, had, hr, hc⟩ := DR.at Jq (hk.tr0 hF) hlt
 subst had
 have hr0 := hr
 obtain ⟨x1, x2, x3, rfl, hu1, hu2, hu3⟩ := exR.1 hr
 have hg := WA hlt
 have hlen := WJ e.kids (brN nm) (i + 1)
 rw [KP hlt, Sm] at hlen
 have hlen2 : (Xi nm e ++ (e.kids.take i).flatMap (brN nm)).length = Qx e + ((e.kids.take i).flatMap (brN nm)).length := by rw [Sm, GY]
 refine rx ?_
 refine Jl (ih e.kids[i] Yhn nm Yhn _ u S hr0) ?_
 rintro v2 u2 ⟨hv2, hf2⟩
 have hL := hL.tr0 hf2
 have hF := hF.Jb hf2
 have hs2 := hf2.size
 refine rx ?_
 refine Bj (al := brN nm e.kids[i]) hL rfl rfl rfl hv2.1.src Yhv Yhn Yhn (fun v3 u3 hL hfr => ?_)
 have hF := hfr _ hF
 exact Ydy) : P := h
theorem Yl (h : P := by
 clear hIt ho hbw hm hF2
 rintro ⟨xs, left, cur, v⟩ g u ⟨g3, hIt, ho, hp, hbw, hF⟩
 simp only at g3 hIt ho hp hbw
 rw [Ja g3]
 have hsu := hF.size
 have hrl := hIt.lt
 have hrw : w.heap.size <= r := hrw0
 have hpl := hp.length_eq
 simp only [Sm, Sr] at hpl
 refine rx ?_
 refine JaJ rfl hIt (fun h0 => ?_) (fun a av left' u3 hl' hIt3 hf3 hs3 => ?_)
 .have hk := LC h0 hp
  have hnd : xs.Nodup := hk.nodup_iff.2 hIt.mp.nd
  refine rx ?_
  refine Jg (Jiw xs v u ho Yhn) ?_
  rintro u4 ⟨ho4, hf4⟩
  refine Yeo ?_
  rw [V5 Qu hnd (m := m.map Prod.fst) (fun y => hk.mem_iff)] at ho4
  have hln : xs.length = (JM ltB (m.map Prod.fst)).length := by rw [<- V5 Qu hnd (m := m.map Prod.fst) (fun y => hk.mem_iff), He]
  rw [hln] at ho4
  exact Ybg
 .have hF3 : Fr [] w u3 := hF.trans hf3 (fun x hx => .inr Yhq)
  have ho3 := ho.tr hf3 (fun x hx hm => (hbw x hx).2 (by rw [Sv.1 hm]))
  have hll := hl'.length_eq
  simp only [SI] at hll
  refine rx ?_
  refine JbH rfl hIt3 ?_
  refine rx ?_
  refine Jm (l := [zT, zI, zI]) rfl (fun u4 bv hbv hv4 hf4 hs4 => ?_)
  refine rx ?_
  refine Jd (cs := brV a) rfl rfl hv4 (QD a) rfl rfl (fun u5 hv5 hf5 hs5 => ?_)
  replace hv5 : Blk u5 bv [.string a.decl, iV a.at_, iV a.arm] _ := hv5
  have hvo : ∀ x ∈ blks v, x ∉ [bv] := fun x hx hm => by have := ho3.lt x hx; rw [Sv.1 hm] at this; omega
  have ho5 := (ho3.tr0 hf4).tr hf5 hvo
  have hIt5 := (hIt3.tr0 hf4).tr hf5 (by have := hIt3.mp.lt; simp; omega) Yht
  have hF5 : Fr [] w u5 := (hF3.Jb hf4).trans hf5 (fun x hx => .inr Yhq)
  refine rx ?_
  refine JQ (c1 := brV a) rfl rfl rfl (fun u6 q6 hq6 ho6 hf6 hs6 => ?_)
  refine rx ?_
  refine JC (ho5.tr0 hf6) rfl ho6.src rfl rfl (QD a) Yhv Yhn (fun v7 u7 ho7 hf7 hk7 _ => ?_)
  exact Yn) : P := h
theorem Ymd (h : P := by
 have hbl := hm.lt
 have hF0 : Fr [] w w := Fr.refl _ _
 refine enter (w := w) func68 rfl ntmps68 rfl ?_
 refine rx ?_
 have hblt := hm.lt
 refine G7 rfl hm ?_
 refine rx ?_
 refine MS (k := m.length) rfl rfl Yhn Yhv (fun u1 ho hf1 hs1 => ?_)
 obtain ⟨q, hq⟩ := exq w.heap.size
 rw [<- hq] at ho ⊢
 have hm := hm.tr0 hf1
 refine rx ?_
 refine BR rfl hm (fun u2 hIt hf2 hs2 => ?_)
 obtain ⟨r, hr⟩ := exq u1.heap.size
 rw [<- hr] at hIt ⊢
 have hF2 : Fr [] w u2 := (hF0.Jb hf1).Jb hf2
 have hs0 := hF0.size
 have ho := ho.tr0 hf2
 have hrw0 : w.heap.size <= r := by omega
 have hbw : ∀ x ∈ blks (Value.slice (some ⟨q, 0, none⟩) 0 m.length), w.heap.size <= x /\ x ≠ r := fun x hx => by simp [blks, Value.ownBlock] at hx; omega
 refine rx ?_
 refine Jh 12 [5, 6] (σ := List Pr × List (Pr × Bool) × Option (Pr × Bool) × Value) (fun s g u => g 5 = s.2.2.2 /\ MIt prK Value.bool u b r m s.2.1 s.2.2.1 /\ Own u 128 6 s.2.2.2 s.1.length (s.1.flatMap prV) /\ (s.1 ++ s.2.1.map Prod.fst).Perm (m.map Prod.fst) /\ (∀ x ∈ blks s.2.2.2, w.heap.size <= x /\ x ≠ r) /\ Fr [] w u) (fun s => s.2.1.length) ([], m, none, _) ⟨rfl, hIt, ho, by simp, hbw, hF2⟩ ?_
 clear hIt ho hbw hm hF2
 rintro ⟨xs, left, cur, v⟩ g u ⟨g3, hIt, ho, hp, hbw, hF⟩
 simp only at g3 hIt ho hp hbw
 rw [Ja g3]
 have hsu := hF.size
 have hrl := hIt.lt
 have hrw : w.heap.size <= r := hrw0
 have hpl := hp.length_eq
 simp only [Sm, Sr] at hpl
 refine rx ?_
 refine JaJ rfl hIt (fun h0 => ?_) (fun a av left' u3 hl' hIt3 hf3 hs3 => ?_)
 .have hk := LC h0 hp
  have hnd : xs.Nodup := hk.nodup_iff.2 hIt.mp.nd
  refine rx ?_
  refine Jg (JgQ xs v u ho Yhn) ?_
  rintro u4 ⟨ho4, hf4⟩
  refine Yeo ?_
  rw [V5 Qy hnd (m := m.map Prod.fst) (fun y => hk.mem_iff)] at ho4
  have hln : xs.length = (JM ltP (m.map Prod.fst)).length := by rw [<- V5 Qy hnd (m := m.map Prod.fst) (fun y => hk.mem_iff), He]
  rw [hln] at ho4
  exact Ybg
 .have hF3 : Fr [] w u3 := hF.trans hf3 (fun x hx => .inr Yhq)
  exact Ymo) : P := h
theorem Yme (h : P := by
 rintro vq2 w5 ⟨hPq, hf5⟩
 rw [Uw Qy hok.pasc (fun a => hrp.keys)] at hPq
 obtain ⟨aop, cp, rfl⟩ := hPq.1.slice
 obtain ⟨v5, hv5, hU, hgoU⟩ := (hgo _ _ hV).from hf5
 have hFw5 := hFu2.Jb hf5
 have hsw5 := hFw5.size
 have hv50 : ∀ x ∈ q :: blks v5, x < u2.heap.size /\ w.heap.size <= x := fun x hx => by
  have h1 := hv5 x hx
  have := hs1
  refine ⟨h1.1, ?_⟩
  rcases h1.2 with h | h | h
  .omega
  .simp [blks, Value.ownBlock] at h
  .omega
 have hQ5 : ∀ x ∈ blks (Value.slice aop s.ps.length cp), x ∉ q :: blks v5 := fun x hx hm => by
  have h1 := hPq.2 x hx
  have h2 := (hv50 x hm).1
  omega
 have hF5 : ∀ bs u, KN q w5 v5 bs u -> Fr [] w u := fun bs u h => hFw5.trans h.fr (fun x hx => .inr (hv50 x hx).2)
 clear hV
 obtain ⟨B3, hB3⟩ := exq (B2 ++ s.ks.flatMap (fun b => brE b ++ iv (s.cnt b)) ++ iv s.ps.length)
 rw [<- hB3] at hU
 have hBL3 : B3.length + (s.ps.flatMap (fun p => brE p.1 ++ brE p.2)).length <= 1000000000 := by rw [hB3, hB2, hB]; simp only [Sm]; omega
 refine rx ?_
 refine Jh 88 [11] (σ := Nat) (fun i g u => g 88 = iV (i : Nat) /\ i <= s.ps.length /\ KN q w5 v5 (B3 ++ (s.ps.take i).flatMap (fun p => brE p.1 ++ brE p.2)) u) (fun i => s.ps.length - i) 0 ⟨rfl, SL _, by simpa using hU⟩ ?_
 clear hU
 rintro k g u ⟨g88, hi, hU⟩
 rw [Ja g88]
 have hbt := XR (fun (p : Pr) => brE p.1 ++ brE p.2) s.ps k
 have hFu := hF5 _ _ hU
 by_cases hlt : k < s.ps.length
 case pos =>
  obtain ⟨adq, hadq, hcq⟩ := JZ VK (hPq.1.tr hU.fr hQ5).src hlt Yhy
  subst hadq
  have hcq : Cells u (adq.add (k * 6)) [.string s.ps[k].1.decl, iV s.ps[k].1.at_, iV s.ps[k].1.arm, .string s.ps[k].2.decl, iV s.ps[k].2.at_, iV s.ps[k].2.arm] := hcq
  refine rx ?_
  refine Jm (l := [zT, zI, zI, zT, zI, zI]) rfl (fun u1 b9 hb9 h9 hf5 hs5 => ?_)
  refine rx ?_
  refine Jd (cs := prV s.ps[k]) rfl rfl h9 (Wu _) rfl rfl (fun u2 h9 hf6 hs6 => ?_)
  replace h9 : Blk u2 b9 [.string s.ps[k].1.decl, iV s.ps[k].1.at_, iV s.ps[k].1.arm, .string s.ps[k].2.decl, iV s.ps[k].2.at_, iV s.ps[k].2.arm] _ := h9
  have hF2 : Fr [] u u2 := hf5.trans hf6 (fun x hx => .inr Yhq)
  obtain ⟨v4, hv4, hV4, hgo4⟩ := hU.from hF2
  have hpk := hok.pks _ (Cj hlt)
  have hbA := hbr _ hpk.1
  have hbB := hbr _ hpk.2
  have hbl := GZ _ hbA
  have n9 : b9 ∉ q :: blks v4 := fun hm => by have := (hv4 _ hm).1; omega
  refine rx ?_
  refine ZH (j := 0) rfl rfl Yhy ?_
  refine rx ?_
  refine Jg (Jio s.ps[k].1 hbA hV4 Yim) ?_
  rintro u3 hV5
  have h9 := h9.tr hV5.fr n9
  refine rx ?_
  refine ZH (j := 1) rfl rfl Yhy ?_
  refine rx ?_
  refine Jg (Jio s.ps[k].2 hbB hV5 Yim) ?_
  rintro u4 hV6
  refine rx ?_
  refine Jc (k + 1) Yhl ⟨rfl, hlt, ?_⟩ Yhn
  have := hgo4 _ _ hV6
  rw [Wy _ hlt]
  simpa only [List.append_assoc] using this
 rw [SQ Yhn] at hU
 clear hbt g88
 refine rx ?_
 obtain ⟨v6, hI, _, hk6⟩ := hgoU _ _ hU
 refine Jl (JjE q v6 _ u hI (by rw [Sm]; omega)) ?_
 rintro v u2 ⟨ho2, hf2, hk2, _⟩
 refine Yeo ?_
 refine ⟨v, rfl, ?_, hFu.Jb hf2, fun x hx => ?_⟩
 .rw [show U0 P.prop s = B3 ++ s.ps.flatMap (fun p => brE p.1 ++ brE p.2) by rw [hB3, hB2, hB]; rfl]
  simpa using ho2
 .have := hk2 x hx
  have := hFu.size
  omega) : P := h
theorem Yj (h : P := by
 have hM7 := hM3.tr0 hS7
 have hbv7 := hbv3.tr0 hS7
 have hQ7 := hQ3.tr0 hS7
 have hF7 := hF3.Jb hS7
 have hZ7 := hZ3.trans (.of0 hS7)
 have hs37 := hS7.size
 rcases hcase with ⟨hn, rfl⟩ | ⟨d, hsd, rfl, hrd⟩
 .have he : Xy ds s e = (s.1 ++ [e.name], s.2) := by unfold Xy rst; rw [Cb h3, SH (by rw [hbv']; simp), hn]
  rw [he] at hmu2 ⊢
  refine rx ?_
  exact WI rfl ⟨rfl, ⟨hM7, ⟨v, hbv7, hQ7, hvT, hvZ, hmv, hqv⟩, hmZ, hqZ, fun x hx => by have := hZlt x hx; omega, hmu2⟩, hZ7, hF7⟩
 .have he : Xy ds s e = (s.1 ++ [e.name], s.2 ++ [d]) := by unfold Xy rst; rw [Cb h3, SH (by rw [hbv']; simp), hsd]
  rw [he] at hmu2 ⊢
  obtain ⟨xs, hw, hr⟩ := hQ7
  refine rx ?_
  refine KE rfl hq7 hl5 ?_
  refine rx ?_
  refine JQ (c1 := cs5) rfl hl5 rfl (fun u8 qq hqq ho8 hf8 hs8 => ?_)
  refine rx ?_
  refine Jeq (hw.tr0 hf8) rfl ho8.src rfl (by rw [hl5]) h15 Yhv Yhn (fun v' u9 hw9 hf9 hk9 => ?_)
  have hs9 := hf9.size
  have hk9v : ∀ x ∈ blks v', x ∈ blks v \/ u7.heap.size <= x := fun x hx => (hk9 x hx).imp id Yid
  have hql9 : ql ∉ blks v' := fun h => (hk9v _ h).elim hqv Yid
  have hmb9 : mb ∉ blks v' := fun h => (hk9v _ h).elim hmv Yid
  have hM9 := (hM7.tr0 hf8).tr hf9 hmv
  have hbv9 := (hbv7.tr0 hf8).tr hf9 hqv
  have h1c : v'.oneCell' = true := by obtain ⟨_, _, _, _, _, rfl, _⟩ := hw9; rfl
  have hF9 : Fr T w0 u9 := (hF7.Jb hf8).trans hf9 (fun x hx => (hvT x hx).imp id (fun h => by have := hF7.size; omega))
  have hZ9 : FZ Z u u9 := (hZ7.trans (.of0 hf8)).trans ⟨_, hf9, hvZ⟩
  refine rx ?_
  ((with_reducible apply Ji); exact rfl; (conv => lhs; whnf); exact h1c; exact hbv9; exact rfl)
  intro u10 hbv10 hf10 hs10
  replace hbv10 : Blk u10 ql [v'] tq := hbv10
  refine rx ?_
  have hX : ∀ {dd : De} {cs : List Value}, RD u7 (S ++ blks v ++ blks v') (deC dd) cs -> RD u10 (S ++ blks v') (deC dd) cs := fun hd => by
   have h1 := (hd.tr0 hf8).old hf9 (fun b hb => .inl Yii)
   have h2 := h1.mono (T := S ++ blks v') (fun b hb => .inl (by rcases SE.1 hb with h | h <;> simp [h]))
   exact h2.old hf10 (fun b hb => .inl (by rw [Sv.1 hb]; exact SA _ (hTS _ hqT)))
  have hnew : ∀ x ∈ blks v', x ∈ S ++ blks v \/ u7.heap.size <= x := fun x hx => (hk9v x hx).imp (fun h => by simp [h]) id
  refine WI rfl ⟨rfl, ⟨hM9.tr hf10 (by simpa using hmq), ⟨v', hbv10, ⟨xs ++ cs5, ?_, ?_⟩, fun x hx => ?_, fun x hx hm => ?_, hmb9, hql9⟩, hmZ, hqZ, fun x hx => by have := hZlt x hx; omega, hmu2⟩, hZ9.trans ⟨_, hf10, fun x hx => by rw [Sv.1 hx]; exact hqZ⟩, hF9.trans hf10 (fun x hx => .inl (by rw [Sv.1 hx]; exact hqT))⟩
  .rw [Sm, Dx]
   exact hw9.tr hf10 (fun x hx hm => hql9 Yia)
  .have h1 : ∀ b ∈ S ++ blks v ++ blks v', b ∈ S ++ blks v \/ u7.heap.size <= b := fun b hb => (SE.1 hb).elim .inl (hnew b)
   have h2 : ∀ b ∈ S ++ blks v ++ blks v', b ∈ rg u3 \/ u7.heap.size <= b := fun b hb => (h1 b hb).imp (fun h => by
    rw [Jk]
    rcases SE.1 h with h | h
    .have := hSlt b h; have := hF3.size; omega
    .have := hvlt b h; omega) id
   exact (hr.imp (fun dd cs _ h => hX (h.mono h1))).app (Rws.one (hX (hrd.mono h2)))
  .exact (hk9v x hx).elim (hvT x) (fun h => .inr Yhn)
  .exact (hk9v x hx).elim (fun h => hvZ x h hm) (fun h => by have := hZlt x hm; omega)) : P := h
theorem Yk (h : P := by
 refine Ygs ?_
 (refine Jp 7 (And.intro trivial hba) (hrun := (by (intro u hu; exact QU ([iV 6, .string (bst t.text), zS, .slice (some ⟨k4, 0, none⟩) 1 1, .slice (some ⟨k6, 0, none⟩) 1 1, iV (atT n r)]) Yik))) ?_)
 have hd9 : RD w12 (a :: rg w2) (gnC ⟨6, bst t.text, [], [e2], [e], atT n r⟩) [iV 6, .string (bst t.text), zS, .slice (some ⟨k4, 0, none⟩) 1 1, .slice (some ⟨k6, 0, none⟩) 1 1, iV (atT n r)] :=
  gnR.2 ⟨_, _, _, rfl, .nil, GR (rows := [exC e2]) ho4 (.one (hd2.mono (fun b hb => .inl Yit))) (by simp [Jq]) Yhs Yig, GR (rows := [gnC e]) ho6 (.one hd) (by simp [KG]) Yhs Yig⟩
 refine Ygn ?_
 refine Jd (cs := [iV 6, .string (bst t.text), zS, .slice (some ⟨k4, 0, none⟩) 1 1, .slice (some ⟨k6, 0, none⟩) 1 1, iV (atT n r)]) rfl rfl hba Yhu hl rfl (fun w13 hba hf13 hs13 => ?_)
 (have hP13 := hP12.tr hf13 Yht; have hF13 := hF12.trans hf13 (fun x hx => .inr Yhq))
 (have hbq := hbq.tr hf13 Yho)
 have hd := hd9.old hf13 Yhs
 refine Yeu ?_
 refine rx ?_
 exact Jc (f', _, r5) Yhr ⟨by simp only; omega, hP13, hF13, by omega, hbq, ⟨_, hba, hd⟩, hops⟩ Yhw) : P := h
theorem Ykt (h : P := by
 refine Yfx ?_
 exact JK Yhl ⟨by rw [(show Gt P.checks r = false from SG (fun h => by obtain ⟨x1, x2, x3, x4, x5⟩ := h; omega))]; rfl, hS⟩) : P := h
theorem Ym (h : P := by
 refine rx ?_
 refine Ju (l := prV a) rfl rfl (fun w1 p hp h1 hf1 hs1 => ?_)
 replace h1 : Blk w1 p [.string a.1.decl, iV a.1.at_, iV a.1.arm, .string a.2.decl, iV a.2.at_, iV a.2.arm] _ := h1
 refine rx ?_
 refine Ju (l := prV b) rfl rfl (fun w2 q hq h2 hf2 hs2 => ?_)
 replace h2 : Blk w2 q [.string b.1.decl, iV b.1.at_, iV b.1.arm, .string b.2.decl, iV b.2.at_, iV b.2.arm] _ := h2
 have h1 := h1.tr0 hf2
 have hF2 := hf1.Jb hf2
 refine rx ?_
 (refine JE (fun z => Fr [] w2 z) Yhp rfl ?_)
 obtain ⟨u, hu⟩ := exq w2.drew
 rw [<- hu]
 have hS : Fr [] w2 u := hu ▸ Fr.drew _ _
 refine Kw 0 hS ?_ (hrun := by (intro u hu; exact (QV (j := 0) rfl rfl Yhy)))
 (refine d_z 1 hS ?_)
 refine Kw 2 hS ?_ (hrun := by (intro u hu; exact (QV (j := 0) rfl rfl Yhy)))
 (refine d_z 3 hS ?_)
 refine Kw 5 hS ?_ (hrun := by (intro u hu; exact (QV (j := 1) rfl rfl Yhy)))
 (refine d_z 6 hS ?_)
 refine Kw 7 hS ?_ (hrun := by (intro u hu; exact (QV (j := 1) rfl rfl Yhy)))
 (refine d_z 8 hS ?_)
 refine Ygt ?_
 refine Jg (Jgw a.1 b.1 u) ?_
 rintro u1 hg1
 have hS1 := hS.Jb hg1
 refine wpList_nil (Jv hS1 ?_)
 refine Ygx ?_
 refine Jg (Jgw a.2 b.2 u1) ?_
 rintro u2 hg2
 have hS2 := hS1.Jb hg2
 refine wpList_nil (Jv hS2 ?_)
 refine Ylq ?_
 refine J3 [iV (Qe a.1 b.1), iV (Qe a.2 b.2)] rfl rfl rfl rfl (fun u3 ho hf3 hs3 => ?_)
 have hS3 := hS2.Jb hf3
 refine wpList_nil (Jv hS3 ?_)
 (refine JJ (i := 11) rfl Yhp ?_)
 refine Jg (orC [Qe a.1 b.1, Qe a.2 b.2] _ u3 [] (Jgs ho Yhs)) ?_
 rintro _ rfl
 refine wpList_nil (Jv hS3 ?_)
 (refine JJ (i := 12) rfl Yhp ?_; refine rx ?_; refine Jv hS3 ?_)
 refine Yfx ?_
 refine Yeo ?_
 refine ⟨?_, hF2.Jb hS3⟩
 unfold XB
 by_cases e1 : Qe a.1 b.1 = 0
 .by_cases e2 : Qe a.2 b.2 = 0 <;> simp [orL, e1, e2]
 .simp [orL, e1]) : P := h
theorem Yo (h : P := by
 refine Yfw ?_
 have : l = [] := Dj h0
 subst this
 exact ⟨_, rfl, .nil, Fr.refl _ _⟩) : P := h
theorem Yp (h : P := by
 have hF := hfr _ hF
 exact Ydy) : P := h
theorem Yq (h : P := by
 refine JF (brV ⟨bst [111, 116, 104, 101, 114], n / 17 % 3, n / 51 % 2⟩) rfl ?_
 refine rx ?_
 refine JQ (c1 := brV ⟨bst [111, 116, 104, 101, 114], n / 17 % 3, n / 51 % 2⟩) rfl rfl rfl (fun u4 q4 hq4 ho4 hf4 hs4 => ?_)
 refine rx ?_
 refine JC (hB.1.tr0 hf4) rfl ho4.src rfl rfl (QD _) Yhv Yhn (fun v5 u5 ho5 hf7 hk7 _ => ?_)
 have hS5 : Fr (blks (Value.slice aob i cb)) u u5 := (hf4.mono Yhs).trans hf7 (fun x hx => .inl hx)
 have hv51 := ho5.one
 refine rx ?_
 ((with_reducible apply Ji); exact rfl; (conv => lhs; whnf); exact hv51; exact (h10.tr hS5 hbn); exact rfl)
 intro u6 hb6 hf8 hs8
 replace hb6 : Blk u6 b10 [zI, zI, zI, v5, vl] 41 := hb6
 exact Ydw) : P := h
theorem Yr (h : P := by
 refine rx ?_
 refine J3 [iV 3, iV at_, zI, .string (bst (b :: T'))] rfl rfl rfl rfl (fun z1 ho1 hg1 hs1 => ?_)
 refine rx ?_
 refine JC (hown.tr0 ((hf13).Jb hg1)) rfl ho1.src rfl rfl Yhu Yhv Yhn (fun v' z2 hov hfv hbv _ => ?_)
 refine rx ?_
 refine Jg (JbC S (at_ + k) z2 Yhn hl) ?_
 rintro _ rfl
 refine rx ?_
 rw [ZK] at he
 exact Jc (f', at_ + k + Qm false (S.drop (at_ + k)), acc ++ [⟨3, at_, 0, b :: T'⟩], v') Yhr ⟨rfl, rfl, hat, by simp only; omega, by simp only [Sm, Dx]; omega, he, by simpa [tkC] using hov, fun q hq => by
  rcases hbv q hq with h | h
  .exact hfr q h
  .have h1 := ((hf.Jb (hf13)).Jb hg1).size
   omega, ((hf.Jb (hf13)).Jb hg1).trans hfv (fun q hq => .inr (hfr q hq))⟩ Yhw) : P := h
theorem Ys (h : P := by
 (refine KH (i := 12) rfl Yhp ?_)
 ((with_reducible apply Ji); exact rfl; (conv => lhs; whnf); exact rfl; exact (hb3'.tr0 hS); exact rfl)
 intro u2 hb4 hf4 hs4
 refine Yeu ?_
 exact JK Yhl ⟨(hS.mono Yhs).trans hf4 (fun x hx => .inl hx), hb4⟩) : P := h
theorem Ymf (h : P := by
 refine rn ?_
 refine Jh7 rfl rfl (show _ = ((min m bs.length : Nat) : Int) by split <;> omega) ?_
 refine ND 0 (min m bs.length) hx rfl Yhs rfl ⟨_, rfl⟩ (SL _) Yhn (fun ao' c' hcut _ _ => ?_)
 simp only [Dq, EJ, D9, <- List.map_take] at hcut ⊢
 refine JC (Own.nil _ _ _) rfl hcut rfl Yhs (Zp _ _) Yhv Yhn (fun v2 w2 ho2 hf2 hk2 hn2 => ?_)
 refine Yll ?_
 have e : bs.take (min m bs.length) = bs.take m := by
  rcases Nat.le_total m bs.length with h | h
  .rw [Hw h]
  .rw [Nat.min_eq_right h, Dk, SQ h]
 refine ⟨v2, rfl, ?_, ?_, ?_⟩
 .have e2 : (bs.take m).length = 0 + min m bs.length := by simp
  rw [e2, <- e]; simpa using ho2
 .exact hf2.mono (fun x hx => by simp [blks, Value.ownBlock] at hx)
 .intro k hk
  rcases hk2 k hk with h | h
  .simp [blks, Value.ownBlock] at h
  .exact h) : P := h
theorem Yt (h : P := by exact Jc (k + 1) Yhr ⟨rfl, by omega, by omega, rfl⟩ Yhn) : P := h
theorem Yku (h : P := by
 (refine d_z 45 hS ?_)
 refine Yfx ?_
 exact JK Yhl ⟨by rw [(show Gt P.checks r = true from SN ⟨by omega, by omega, fun h => by omega, fun h => ⟨by omega, by omega⟩, by omega⟩)]; rfl, hS⟩) : P := h
theorem Yu (h : P := by
 refine Yfx ?_
 refine Yeo ?_
 exact ⟨by rw [JdW (SG Yhn)], hF3.Jb hS⟩) : P := h
theorem Yv (h : P := by
 rw [Cb ⟨rfl, c1⟩]
 obtain ⟨vb, vl, h10, hB, hC, hCd, hbn, hwb, hF⟩ := hI
 have hB1 := hB.1.one
 have hC1 := hC.one
 refine rx ?_
 ((with_reducible apply Ji); exact rfl; (conv => lhs; whnf); exact rfl; exact h10; exact rfl)
 intro u7 hb7 hf7 hs7
 refine rx ?_
 exact JK Yhl ⟨vb, vl, hb7, ⟨hB.1.tr hf7 (fun x hx hm => hbn Yia), hB.2⟩, hC.tr hf7 (fun x hx hm => (hCd x hx).2.1 (Sv.1 hm)), hCd, hbn, hwb, hF.trans hf7 (fun x hx => .inr Yir)⟩) : P := h
theorem Yw (h : P := by
 refine rx ?_
 refine Gg rfl rfl (fun w1 hb1 hf1 hs1 => ?_)
 (refine rx ?_; repeat' ((first | refine Vg rfl rfl (fun h => ?_) (fun h => ?_) | refine Vd rfl rfl (fun h => ?_) (fun h => ?_) | refine QZ rfl rfl (fun h => ?_) (fun h => ?_) | refine Vt rfl rfl (fun h => ?_) (fun h => ?_) | refine Ve rfl rfl (fun h => ?_) (fun h => ?_) | refine Vf rfl rfl (fun h => ?_) (fun h => ?_) | refine QB rfl rfl (fun h => ?_) (fun h => ?_) | refine Qv rfl rfl (fun h => ?_) (fun h => ?_) | refine WG rfl rfl (fun h => ?_) (fun h => ?_) | refine WY rfl rfl (fun h => ?_) (fun h => ?_)) <;> refine rx ?_))
 all_goals
  refine Yfw ?_
  exact ⟨⟨_, rfl⟩, by assumption⟩) : P := h
theorem Yx (h : P := by
 have hb := CZ Addr.block e.1
 intro hk
 have := JjS _ hk
 simp only at hb
 omega) : P := h
theorem Yy (h : P := by
 try simp only at h
 have g1 := Qg h1 ha
 try simp only at h
 split at h
 .rename_i hc2; have gc := JU hc2 g1.2.1
  obtain ⟨⟨x2, r2⟩, h2, h⟩ := Si.1 h
  try simp only at h
  have g2 := ih.exs h2 gc.1
  have l2 := g2.2.2
  simp only [Sj, Sz] at h; obtain ⟨rfl, rfl⟩ := h
  exact ⟨by simp only [okE]; exact ⟨ga, g2.1⟩, g2.2.1, by simp only [wE, SY]; omega⟩
 .simp only [Sj, Sz] at h; obtain ⟨rfl, rfl⟩ := h
  exact ⟨by simp only [okE, Qn, Eh]; exact ga, g1.2.1, by simp only [wE, wEs, SY]; omega⟩) : P := h
theorem Yz (h : P := by exact hru.imp (fun x cs _ h => RD.mono h (fun k hk => .inl Ykl))) : P := h
theorem Yba (h : P := by
 simp only [hi']
 unfold wpList at h
 split
 .rename_i hw
  rw [Cb hw] at h
  rcases h with h | ⟨h1, a, w', h2⟩
  .refine .inl ?_
   unfold Oper.wp at h ⊢
   generalize (execOp (A n f).eval o).run P w = r at h ⊢
   cases r with
   | ok x w' =>
    cases x <;> simp only [Oper.upon] at h ⊢ <;> first | exact h | (refine Calls.mono h fun e w'' he => ?_; cases e <;> exact he) | exact Rows.mono h (fun _ _ he => he)
   | halt x w' => cases x <;> simp only [Oper.upon] at h ⊢ <;> exact h
  .exact .inr ⟨h1, a, w', h2⟩
 .rename_i hw
  rw [SH hw] at h
  exact h) : P := h
theorem Ybb (h : P := by
 refine rx ?_
 exact Ygi) : P := h
theorem Ybc (h : P := by
 refine rx ?_
 exact Yeb) : P := h
theorem Ybd (h : P := by
 refine rx ?_
 refine Qc rfl rfl hr2 rfl ⟨_, rfl, (hdr.old hfu (Jf Yhn)).down Yhn, hF4.trans hfu (fun x hx => .inr Yhq)⟩) : P := h
theorem Ykx (h : P := by
 refine Yev ?_
 refine Jc (i + 1) Yhl ⟨rfl, hlt, fun j hj => ?_, hF.Jb hS⟩ Yhn
 exact Yli) : P := h
theorem Ybe (h : P := by
 refine Yeo ?_
 exact ⟨_, rfl, ho, hf⟩) : P := h
theorem Ybf (h : P := by
 refine Kz 19 hS ?_ (hrun := by (intro u hu; exact (XP (p := false) underlying4 rfl rfl rfl)))
 (refine d_z 20 hS ?_)
 refine Yev ?_
 exact JK Yhl ⟨hS, SN Yhn⟩) : P := h
theorem Ybh (h : P := by
 refine Jc (i + 1) Yhl ⟨rfl, hlt, fun j hj => ?_, hF⟩ Yhn
 exact Yli) : P := h
theorem Ybi (h : P := by
 have l2 := g2.2
 obtain ⟨r3, h3, h⟩ := Si.1 h
 have g3 := Jr h3 g2.1
 simp only [Sj, Sz] at h; obtain ⟨rfl, rfl⟩ := h
 exact ⟨g3.1, by omega⟩) : P := h
theorem Ybj (h : P := by
 simp only [Sj, Sz] at h; obtain ⟨rfl, rfl⟩ := h
 exact ⟨g3.1, by omega⟩) : P := h
theorem Ybk (h : P := by
 intro hk
 have h1 := Jk.1 hk
 rcases hk2 ad.block Yio with h | h
 .simp [blks, Value.ownBlock] at h; omega
 .have := hf1.size; omega) : P := h
theorem Ybl (h : P := by
 have l9 := g9.2
 simp only [Sj, Sz] at h; obtain ⟨rfl, rfl⟩ := h
 exact ⟨g9.1, by omega⟩) : P := h
theorem Ybm (h : P := by
 refine rx ?_
 exact Yhg) : P := h
theorem Ybn (h : P := by
 (refine Jl (Va p 4 _ hG0 Yhn Yhn) ?_; rintro k1 w1 ⟨hk1, hG1, hf1⟩; have hd1 : dg k1 ∈ dgs := Wi Yhn; have hl1 : (dg k1).length = 1 := rfl; refine rx ?_)
 refine Yfw ?_
 exact QY hV hd (by simp [rnd]) (.num hd1) hG1 (hV0.tr hf1) (frp hf0 hf1)) : P := h
theorem Ybo (h : P := by
 refine Xk (a := d.body) LO.nil Jq rfl rfl rfl hbo rfl rfl rfl Ykh Yhs Yhn (fun v2 u2 hL hfr => ?_)
 have hF := hfr _ hF
 have hb := hb1.tr0 hF
 refine Yeo ?_
 exact ⟨w1, _, hf1, rfl, by rw [Jez h]; exact hL, hF⟩) : P := h
theorem Ybp (h : P := by
 have hB := hst.2.2
 refine rx ?_
 exact Jc (j + 1) Yhl ⟨rfl, by omega, hst⟩ Yhn) : P := h
theorem Ybq (h : P := by
 obtain ⟨hf, h⟩ := h
 cases r with
 | none => exact ⟨JhH, false, h, rfl, by unfold JhH; simp [Value.oneCell'], hf, .inl ⟨rfl, rfl⟩⟩
 | some d =>
  obtain ⟨cs, h1, h2⟩ := h
  exact ⟨cs, true, h1, by rw [h2.len, KL], RD.one h2, hf, .inr ⟨d, rfl, rfl, h2⟩⟩) : P := h
theorem Ymg (h : P := by refine ⟨rfl, by decide, (by first | exact rfl | (show Value.int _ _ = Value.int _ _; congr 1; simp)), ⟨v', hI⟩, hp3, hMB, hMP, hF3⟩) : P := h
theorem Ybr (h : P := by
 (refine J4 rfl rfl hkx ?_; refine rx ?_; refine Jg (Vq _ w) ?_; rintro _ rfl; refine rx ?_)
 refine Yfw ?_
 rw [SH (by unfold p2; simp; omega)] at he
 refine ⟨?_, Fr.refl _ _⟩
 rw [<- Nat.add_assoc, <- he]; rfl) : P := h
theorem Ybs (h : P := by
 refine ⟨g2.1, g2.2.1, ?_⟩
 have l2 := g2.2.2
 simp only [wE, wEs, SY] at l2
 omega) : P := h
theorem Ybt (h : P := by exact JK Yhl ⟨_, rfl, by rw [hroot]; exact hT, hF, hbm⟩) : P := h
theorem Ybu (h : P := by rcases hxt with ⟨e', hd⟩ | hd <;> simp [Builtin.append_, run_underlying ht, run_underlying hd, sizeOf, typeInfo, zeroValue, hi, hz, hlx, hroom, h63', h48', Question.forced, hfd, hfo, newRow, grownCap] <;> rw [<- List.append_toArray, Array.append_assoc]) : P := h
theorem Ybv (h : P := by exact JK Yhl ⟨hP4, hF4, hs4, hbz, hbq⟩) : P := h
theorem Ybw (h : P := by exact XY Ykp (fun p n rest => by kernel_rfl)) : P := h
theorem Ybx (h : P := by
 refine enter func170 rfl ntmps170 rfl ?_
 refine rx ?_
 ((with_reducible apply Ji); exact rfl; (conv => lhs; whnf); exact rfl; exact hB; exact rfl)
 intro w1 h1 hf1 hs1
 refine rx ?_
 exact WI rfl ⟨rfl, ⟨_, _, _, h1⟩, hf1⟩) : P := h
theorem Yby (h : P := by
 have h1 : R w (S ++ T) x cs := h.mono hr Ykc
 exact h.mono (h.tr h1 (hf.mono (fun b hb => .inl Yii))) (fun b hb => .inl Yii)) : P := h
theorem Ybz (h : P := by
 simp only [Sj, Sz] at h; obtain ⟨rfl, rfl⟩ := h
 exact ⟨by simp only [okE, Qn, Eh]; exact ga, g1.2.1, by simp only [wE, wEs, SY, Sr, Ec]; omega⟩) : P := h
theorem Ymh (h : P := by
 refine rx ?_
 try (refine JbG rfl rfl ?_; refine rx ?_)
 refine Jg (Jjb z7) ?_
 rintro z8 hf8'
 refine Yeo ?_
 exact ⟨rfl, ((hFz.Jb hS).Jb hT).Jb hf8'⟩) : P := h
theorem Yca (h : P := by
 have l1 := g1.2.2
 obtain ⟨r2, h2, h⟩ := Si.1 h
 have g2 := Jr h2 g1.2.1
 simp only [Sj, Sz] at h; obtain ⟨rfl, rfl⟩ := h
 exact ⟨g1.1, g2.1, by omega⟩) : P := h
theorem Ycb (h : P := by
 simp only [Sj, Sz] at h; obtain ⟨rfl, rfl⟩ := h
 exact ⟨by simp only [okE, Qn, Eh]; exact ga, gc.1, by simp only [wE, wEs, SY, Sr]; omega⟩) : P := h
theorem Ycc (h : P := by
 obtain ⟨r2, h2, h⟩ := Si.1 h
 have g2 := Jr h2 g1.1
 simp only [Sj, Sz] at h; obtain ⟨rfl, rfl⟩ := h
 exact ⟨g2.1, by have := g1.2; omega⟩) : P := h
theorem Ycd (h : P := by
 obtain ⟨i0, z, hi0, hz, hs, hb, hzs⟩ := R.inf
 simp [execOp, hx, ho, Instr.sliceAt, Instr.slice, run_underlying R.und, Instr.sliceBounds, Instr.sliceBound, asIntOf, sizeOf, typeInfo, hi0, hs, hj]) : P := h
theorem Yce (h : P := by
 refine Yfw ?_
 exact ⟨by rw [JdW (SG Yhn)], hF3⟩) : P := h
theorem Ycf (h : P := by
 simp only [Sj, Sz] at h; obtain ⟨rfl, rfl⟩ := h
 exact ⟨gc2.1, by omega⟩) : P := h
theorem Ycg (h : P := by
 simp only [Sj, Sz] at h; obtain ⟨rfl, rfl⟩ := h
 exact ⟨g4.1, by omega⟩) : P := h
theorem Ych (h : P := by
 rintro w4 ⟨h4, hf4⟩
 refine rx ?_
 exact WI rfl ⟨rfl, h4, hF.trans hf4 (fun x hx => .inl hx)⟩) : P := h
theorem Yci (h : P := by
 refine rx ?_
 refine Qc rfl rfl hr2 rfl ⟨_, rfl, (hdr.old hfu (Jf Yhn)).down Yhn, hF8.trans hfu (fun x hx => .inr Yhq)⟩) : P := h
theorem Ycj (h : P := by
 refine rx ?_
 refine Qc rfl rfl hr2 rfl ⟨_, rfl, (hdr.old hfu (Jf Yhn)).down Yhn, hF6.trans hfu (fun x hx => .inr Yhq)⟩) : P := h
theorem Yck (h : P := by
 refine Yfc ?_
 refine ⟨_, _, _, rfl, hf.Jb (hf14), ?_⟩
 rw [he]
 exact ⟨rfl, rfl⟩) : P := h
theorem Ylc (h : P := by
 refine Yfx ?_
 refine Yeo ?_
 exact ⟨by unfold Qd; rw [hout, Jbb hlt Yhn]; rfl, hFu.Jb hS⟩) : P := h
theorem Ycl (h : P := by
 simp only [List.flatMap_append, CP, Ey, Ce, JaF, wEs, Sm, SI, SY] at l10
 omega) : P := h
theorem Ycm (h : P := by
 refine Yeo ?_
 rw [SQ Yhn] at hL
 exact ⟨w1, _, hf1, rfl, by rw [Le h]; exact hL, hF⟩) : P := h
theorem Ymi (h : P := by
 have : ((2 ^ 64 - 1 - a.toNat : Nat) : Int) = 18446744073709551615 - a := by
  have : (2 ^ 64 : Nat) = 18446744073709551616 := by decide
  omega
 rw [this]; omega) : P := h
theorem Ymj (h : P := by exact Vh ⟨rfl, rfl, rfl, rfl, rfl, by rw [SG Yhn]; rfl⟩) : P := h
theorem Yco (h : P := by
 subst hp
 have e : (a.toList == b.toList) = decide (a = b) := by rw [Nh]; simp [toList_inj]
 simp [execOp, eqGuard, binOp, Op.stringOp, hx, hy, e]) : P := h
theorem Ymk (h : P := by
 obtain ⟨rfl, rfl, rfl⟩ := hcs
 exact JbA hl (by simpa using hz) hcell hwz) : P := h
theorem Yml (h : P := by exact Vh ⟨rfl, rfl, rfl, rfl, rfl, by rw [SN Yhn]; rfl⟩) : P := h
theorem Ycp (h : P := by
 refine Yfc ?_
 exact ⟨_, _, _, rfl, Fr.refl _ _, rfl, rfl⟩) : P := h
theorem Ycq (h : P := by
 simp only [hcell, hfr] at hst
 simp [execOp, hx, hv, Instr.storeAt, Instr.sureAddr, storeVar, sizeOf, typeInfo, hi, hs, hcs, storeCells, add0, hst]) : P := h
theorem Ycr (h : P := by
 induction l with
 | nil => exact .nil
 | cons a l ih => exact .cons (brR.2 rfl) ih) : P := h
theorem Ycs (h : P := by
 obtain ⟨e, h1, h2, h3⟩ := h.exp hh p n
 exact ⟨e, by unfold bD at h1; omega, h2, fun rest hr => h3 200 Ykm rest hr⟩) : P := h
theorem Yct (h : P := by
 obtain ⟨e, hu⟩ := T.u
 have := Ja9 (P := P) (w := w) (a := a) hu
 exact JR (by simp [execOp, eqGuard, binOp, hx, hy, this]) h) : P := h
theorem Ycu (h : P := by
 refine rx ?_
 exact Vh ⟨rfl, ⟨_, rfl, hP⟩, ⟨y1, hy1, hyl1, rfl⟩, hG1, ((hF).Jb hfv1 |>.trans hf1 Yie)⟩) : P := h
theorem Ycv (h : P := by
 obtain ⟨a2, c2, rfl, _⟩ := hk2.slice
 obtain ⟨a3, c3, rfl, _⟩ := hk3.slice
 exact ⟨_, _, _, _, _, _, _, _, _, b, rfl, ha, hb⟩) : P := h
theorem Ycw (h : P := by exact ⟨h4, by simp, fun x hx y hy => by rw [Sv] at hy; subst hy; exact fun e => by have := h5 x hx; omega⟩) : P := h
theorem Ycx (h : P := by
 have l3 := g3.2.2
 simp only [Sj, Sz] at h; obtain ⟨rfl, rfl⟩ := h
 exact ⟨g3.2.1, by omega⟩) : P := h
theorem Ycy (h : P := by
 have h3 := Xw b.decl.size (by have := h.1; omega)
 have h4 := h.1
 simp only [brE, raw, Sm, Xx]; omega) : P := h
theorem Ycz (h : P := by
 rw [e]
 refine Jg (Jh1 p v bs (zz n) w (JeV h1 h2) hw hl) ?_
 rintro w' hs
 refine rn ?_
 exact WI rfl ⟨rfl, hs⟩) : P := h
theorem Yda (h : P := by
 refine Yeo ?_
 exact ⟨w1, _, hf1, rfl, by rw [JeA h]; exact hL, hF⟩) : P := h
theorem Ydb (h : P := by
 have := h 0 v rfl
 rwa [show a.add 0 = a by simp [Addr.add]] at this) : P := h
theorem Ydc (h : P := by
 rcases h1 with rfl | rfl | rfl
 all_goals exact XY Ykp (fun p n rest => by kernel_rfl)) : P := h
theorem Ydd (h : P := by
 simp only [Sj, Sz] at h; obtain ⟨rfl, rfl⟩ := h
 exact ⟨g1.2.1, by omega⟩) : P := h
theorem Yde (h : P := by
 refine wpList_plain rfl fun K hK => ?_
 unfold Oper.wp
 rw [Zy, hr]
 show K _ _
 rw [MK]
 exact hK _ _ h) : P := h
theorem Ydf (h : P := by
 rcases SE.1 hq with hq | hq
 .have := h5 q hq; omega
 .rw [Sv.1 hq]; omega) : P := h
theorem Ydg (h : P := by
 rcases h1 with rfl | rfl
 all_goals exact XY Ykp (fun p n rest => by kernel_rfl)) : P := h
theorem Ydh (h : P := by
 refine Yfw ?_
 exact ⟨by rw [JdX (Jbb hlt Yhn)], hFu⟩) : P := h
theorem Ydi (h : P := by
 obtain ⟨ns, c, h1, h2, h3⟩ := h
 exact ⟨ns, c, h1, by rw [hf.block b hl hS]; exact h2, h3⟩) : P := h
theorem Ydj (h : P := by
 rw [Sm]
 unfold ints at this ⊢
 rw [Dp]
 exact this) : P := h
theorem Ydk (h : P := by
 refine enter func167 rfl ntmps167 rfl ?_
 refine rx ?_
 (refine Ju rfl rfl (fun w1 b hb hB hf1 hs1 => ?_); have hqw := hFB.lt; have hbq : b ≠ q := by omega)
 have hst : ST q b [iV d.kind, .string d.name, iV d.at_, .slice ct ctn ctc, .slice pm pmn pmc, iV d.type.kind, .string d.type.name, .slice ty tyn tyc, iV d.body.kind, .string d.body.name, iV d.body.n, .slice bo1 bon1 boc1, .slice bo2 bon2 boc2, .slice bo3 bon3 boc3, iV d.body.at_, iV d.depth, iV d.gen.kind, .string d.gen.name, .slice ge1 gen1 gec1, .slice ge2 gen2 gec2, .slice ge3 gen3 gec3, iV d.gen.at_, .slice dw dwn dwc, .slice ck ckn ckc, .slice cs csn csc, .slice cl cln clc, iV d.state.kind, .string d.state.name, .slice st stn stc, iV d.init.kind, .string d.init.name, iV d.init.n, .slice it1 itn1 itc1, .slice it2 itn2 itc2, .slice it3 itn3 itc3, iV d.init.at_, .slice cm cmn cmc, .slice op opn opc, iV d.recov.kind, .string d.recov.name, iV d.recov.n, .slice rc1 rcn1 rcc1, .slice rc2 rcn2 rcc2, .slice rc3 rcn3 rcc3, iV d.recov.at_] 105 w w1 := ⟨hFB.tr0 hf1, QL hf1, hB⟩
 clear hf1 hs1 hFB
 refine Yep ?_
 refine Yeq ?_
 refine Yfa ?_
 refine wp_seq ?_
 refine Yhk ?_ ?_
 .refine rx ?_
  exact Ya
 clear hst hB
 rintro g u ⟨g0, g3, g4, g5, g6, g7, g8, hst⟩
 rw [Ja g0, Ja g3, Ja g4, Ja g5, Ja g6, Ja g7, Ja g8]
 clear g0 g3 g4 g5 g6 g7 g8
 have hB := hst.2.2
 refine wp_seq ?_
 refine Yhk ?_ ?_
 .refine rx ?_
  exact Ya
 clear hst hB
 rintro g u ⟨g0, g3, g4, g5, g6, g7, g8, hst⟩
 rw [Ja g0, Ja g3, Ja g4, Ja g5, Ja g6, Ja g7, Ja g8]
 clear g0 g3 g4 g5 g6 g7 g8
 have hB := hst.2.2
 refine wp_seq ?_
 refine Yhk ?_ ?_
 .refine rx ?_
  exact Ya
 clear hst hB
 rintro g u ⟨g0, g3, g4, g5, g6, g7, g8, hst⟩
 rw [Ja g0, Ja g3, Ja g4, Ja g5, Ja g6, Ja g7, Ja g8]
 clear g0 g3 g4 g5 g6 g7 g8
 have hB := hst.2.2
 refine wp_seq ?_
 refine Yhk ?_ ?_
 .refine rx ?_
  exact Ya
 clear hst hB
 rintro g u ⟨g0, g3, g4, g5, g6, g7, g8, hst⟩
 rw [Ja g0, Ja g3, Ja g4, Ja g5, Ja g6, Ja g7, Ja g8]
 clear g0 g3 g4 g5 g6 g7 g8
 have hB := hst.2.2
 refine wp_seq ?_
 refine Yhk ?_ ?_
 .refine rx ?_
  exact Ya
 clear hst hB
 rintro g u ⟨g0, g3, g4, g5, g6, g7, g8, hst⟩
 rw [Ja g0, Ja g3, Ja g4, Ja g5, Ja g6, Ja g7, Ja g8]
 clear g0 g3 g4 g5 g6 g7 g8
 have hB := hst.2.2
 refine wp_seq ?_
 refine Yhk ?_ ?_
 .refine rx ?_
  exact Ya
 clear hst hB
 rintro g u ⟨g0, g3, g4, g5, g6, g7, g8, hst⟩
 rw [Ja g0, Ja g3, Ja g4, Ja g5, Ja g6, Ja g7, Ja g8]
 clear g0 g3 g4 g5 g6 g7 g8
 have hB := hst.2.2
 refine wp_seq ?_
 refine Yhk ?_ ?_
 .refine rx ?_
  exact Ya
 clear hst hB
 rintro g u ⟨g0, g3, g4, g5, g6, g7, g8, hst⟩
 rw [Ja g0, Ja g3, Ja g4, Ja g5, Ja g6, Ja g7, Ja g8]
 clear g0 g3 g4 g5 g6 g7 g8
 have hB := hst.2.2
 refine wp_seq ?_
 refine Yhk ?_ ?_
 .refine rx ?_
  exact Ya
 exact Yh) : P := h
theorem Ydn (h : P := by
 have hS := hS.Jb hf
 clear hf
 refine Yfz ?_
 refine JJ (i := 10) rfl Yhp ?_
 .obtain ⟨n, hn⟩ := exq u.heap.size
  obtain ⟨bC, hbC⟩ := exq u.heap.size
  refine Qh (k := nc) rfl rfl Yhn Yhv (fun u hC hf hsC => ?_)
  rw [<- hbC] at hC ⊢
  rw [QE] at hC
  have hCi : In (blks (Value.slice (some ⟨bC, 0, none⟩) nc nc)) n u.heap.size := fun x hx => by simp [blks, Value.ownBlock] at hx; omega
  have hz := hf.size
  have hR := hR.tr0 hf
  have hB := hB.tr0 hf
  have hP := hP.tr0 hf
  exact Yb) : P := h
theorem Ydo (h : P := by
 have hS := hS.Jb hf
 clear hf
 refine Yfz ?_
 refine JJ (i := 6) rfl Yhp ?_
 .obtain ⟨n, hn⟩ := exq u.heap.size
  refine Yhf ?_
  rintro vr u ⟨hR, hf⟩
  have hRi : In (blks vr) n u.heap.size := fun x hx => ⟨by have := hR.2 x hx; omega, hR.1.lt x hx⟩
  have hR := hR.1
  rw [<- hrl] at hR
  obtain ⟨aor, cr, rfl⟩ := hR.slice
  have hz := hf.size
  have hC := hC.tr0 hf
  have hB := hB.tr0 hf
  have hP := hP.tr0 hf
  exact Yb) : P := h
theorem Ydp (h : P := by
 have hS := hS.Jb hf
 clear hf
 refine Yfz ?_
 refine JJ (i := 11) rfl Yhp ?_
 .obtain ⟨n, hn⟩ := exq u.heap.size
  obtain ⟨bB, hbB⟩ := exq u.heap.size
  refine Kt (key := brK) (val := Value.int .i64) (fun u hB hf hsB => ?_)
  rw [<- hbB] at hB ⊢
  have hz := hf.size
  have hR := hR.tr0 hf
  have hC := hC.tr0 hf
  have hP := hP.tr0 hf
  exact Yb) : P := h
theorem Ydq (h : P := by
 have hS := hS.Jb hf
 clear hf
 refine Yfz ?_
 refine JJ (i := 12) rfl Yhp ?_
 .obtain ⟨n, hn⟩ := exq u.heap.size
  obtain ⟨bP, hbP⟩ := exq u.heap.size
  refine Kt (key := prK) (val := Value.bool) (fun u hP hf hsP => ?_)
  rw [<- hbP] at hP ⊢
  have hz := hf.size
  have hR := hR.tr0 hf
  have hC := hC.tr0 hf
  have hB := hB.tr0 hf
  exact Yb) : P := h
theorem Ymm (h : P := by
 have hS := hS.Jb hf
 clear hf
 have hszS := hS.size
 refine Yfz ?_
 refine JJ (i := 8) rfl Yhp ?_
 .obtain ⟨n8, hn8⟩ := exq u.heap.size
  refine JC hA6 rfl (hE.tr0 hS).src rfl Yhs (Zp _ _) Yhv Yhn (fun vB u hA8 hf hk8 _ => ?_)
  rw [Di, CO] at hA8
  have hge8 : ∀ x ∈ blks vB, x = n6 \/ n8 <= x := fun x hx => by
   rcases hk8 x hx with h | h
   .simp [blks, Value.ownBlock] at h; exact .inl h
   .exact .inr Yhn
  have hA81 := hA8.one
  obtain ⟨aoB, cB, rfl⟩ := hA8.slice
  have hz8 := hf.size
  have hA5 := hA5.tr hf Ynj
  have hA10 := hA10.tr hf (fun x hx hm => by simp [blks, Value.ownBlock] at hx hm; omega)
  exact Ymr) : P := h
theorem Ymn (h : P := by
 have hS := hS.Jb hf
 clear hf
 have hszS := hS.size
 refine Yfz ?_
 refine JJ (i := 8) rfl Yhp ?_
 .obtain ⟨n8, hn8⟩ := exq u.heap.size
  refine JC hA6 rfl (hE.tr0 hS).src rfl Yhs (Zp _ _) Yhv Yhn (fun vB u hA8 hf hk8 _ => ?_)
  rw [Di, CO] at hA8
  have hge8 : ∀ x ∈ blks vB, x = n6 \/ n8 <= x := fun x hx => by
   rcases hk8 x hx with h | h
   .simp [blks, Value.ownBlock] at h; exact .inl h
   .exact .inr Yhn
  have hA81 := hA8.one
  obtain ⟨aoB, cB, rfl⟩ := hA8.slice
  have hz8 := hf.size
  have hA10 := hA10.tr hf (fun x hx hm => by simp [blks, Value.ownBlock] at hx hm; omega)
  have hA5 := hA5.tr hf Ynj
  exact Ymr) : P := h
theorem Ymo (h : P := by
 have ho3 := ho.tr hf3 (fun x hx hm => (hbw x hx).2 (by rw [Sv.1 hm]))
 have hll := hl'.length_eq
 simp only [SI] at hll
 refine rx ?_
 refine JbH rfl hIt3 ?_
 refine rx ?_
 refine Jm (l := [zT, zI, zI, zT, zI, zI]) rfl (fun u4 bv hbv hv4 hf4 hs4 => ?_)
 refine rx ?_
 refine Jd (cs := prV a) rfl rfl hv4 (Wu a) rfl rfl (fun u5 hv5 hf5 hs5 => ?_)
 replace hv5 : Blk u5 bv [.string a.1.decl, iV a.1.at_, iV a.1.arm, .string a.2.decl, iV a.2.at_, iV a.2.arm] _ := hv5
 have hvo : ∀ x ∈ blks v, x ∉ [bv] := fun x hx hm => by have := ho3.lt x hx; rw [Sv.1 hm] at this; omega
 have ho5 := (ho3.tr0 hf4).tr hf5 hvo
 have hIt5 := (hIt3.tr0 hf4).tr hf5 (by have := hIt3.mp.lt; simp; omega) Yht
 have hF5 : Fr [] w u5 := (hF3.Jb hf4).trans hf5 (fun x hx => .inr Yhq)
 refine rx ?_
 refine JQ (c1 := prV a) rfl rfl rfl (fun u6 q6 hq6 ho6 hf6 hs6 => ?_)
 refine rx ?_
 refine JC (ho5.tr0 hf6) rfl ho6.src rfl rfl (Wu a) Yhv Yhn (fun v7 u7 ho7 hf7 hk7 _ => ?_)
 exact Yn) : P := h
theorem Ymp (h : P := by
 have hbl := hm.lt
 have hF0 : Fr [] w w := Fr.refl _ _
 refine enter (w := w) func52 rfl ntmps52 rfl ?_
 refine rx ?_
 have hblt := hm.lt
 refine G7 rfl hm ?_
 refine rx ?_
 refine MS (k := m.length) rfl rfl Yhn Yhv (fun u1 ho hf1 hs1 => ?_)
 obtain ⟨q, hq⟩ := exq w.heap.size
 rw [<- hq] at ho ⊢
 have hm := hm.tr0 hf1
 refine rx ?_
 refine BR rfl hm (fun u2 hIt hf2 hs2 => ?_)
 obtain ⟨r, hr⟩ := exq u1.heap.size
 rw [<- hr] at hIt ⊢
 have hF2 : Fr [] w u2 := (hF0.Jb hf1).Jb hf2
 have hs0 := hF0.size
 have ho := ho.tr0 hf2
 have hrw0 : w.heap.size <= r := by omega
 have hbw : ∀ x ∈ blks (Value.slice (some ⟨q, 0, none⟩) 0 m.length), w.heap.size <= x /\ x ≠ r := fun x hx => by simp [blks, Value.ownBlock] at hx; omega
 refine rx ?_
 refine Jh 12 [5, 6] (σ := List Br × List (Br × Int) × Option (Br × Int) × Value) (fun s g u => g 5 = s.2.2.2 /\ MIt brK (Value.int .i64) u b r m s.2.1 s.2.2.1 /\ Own u 50 3 s.2.2.2 s.1.length (s.1.flatMap brV) /\ (s.1 ++ s.2.1.map Prod.fst).Perm (m.map Prod.fst) /\ (∀ x ∈ blks s.2.2.2, w.heap.size <= x /\ x ≠ r) /\ Fr [] w u) (fun s => s.2.1.length) ([], m, none, _) ⟨rfl, hIt, ho, by simp, hbw, hF2⟩ ?_
 exact Yl) : P := h
theorem Ymq (h : P := by
 refine JC hA6 rfl (hE.tr0 hS).src rfl Yhs (Zp _ _) Yhv Yhn (fun vB u hA8 hf hk8 _ => ?_)
 rw [Di, CO] at hA8
 have hge8 : ∀ x ∈ blks vB, x = n6 \/ n8 <= x := fun x hx => by
  rcases hk8 x hx with h | h
  .simp [blks, Value.ownBlock] at h; exact .inl h
  .exact .inr Yhn
 have hA81 := hA8.one
 obtain ⟨aoB, cB, rfl⟩ := hA8.slice
 have hz8 := hf.size
 have hA5 := hA5.tr hf Ynj
 have hS : Fr [] w14 u := hS.trans hf (fun x hx => .inr Ymb)
 clear hf
 refine Yfz ?_
 refine JJ (i := 10) rfl Yhp ?_
 .obtain ⟨n10, hn10⟩ := exq u.heap.size
  refine J3 [.int .u8 c] rfl rfl rfl rfl (fun u hA10 hf _ => ?_)
  rw [<- hn10] at hA10 ⊢
  have hz10 := hf.size
  have hA5 := hA5.tr0 hf
  have hA8 := hA8.tr0 hf
  have hS := hS.Jb hf
  clear hf
  have hszS := hS.size
  exact Ymc) : P := h
theorem Ylg (h : P := by
 (refine JX 37 38 hS ?_; refine d_z 39 hS ?_)
 refine Kz 40 hS ?_ (hrun := by (intro u hu; exact (Zd rfl rfl (SG Yhn))))
 (refine JX 41 42 hS ?_)
 by_cases hcode : r.code ≠ 0
 . (apply V4 (i := 43); exact rfl; exact rfl; kernel_rfl; kernel_rfl; kernel_rfl; (intro u hu; exact (WZ rfl rfl (SN Yhn))); exact hS)
   refine Kz 44 hS ?_ (hrun := by (intro u hu; refine (XP (a := false) (b := true) underlying4 ?_ ?_ rfl); exact rfl; exact rfl))
   (refine d_z 45 hS ?_)
   exact Ykt
 . (apply V4 (i := 43); exact rfl; exact rfl; kernel_rfl; kernel_rfl; kernel_rfl; (intro u hu; exact (WZ rfl rfl (SG Yhn))); exact hS)
   refine Kz 44 hS ?_ (hrun := by (intro u hu; refine (XP (a := false) (b := false) underlying4 ?_ ?_ rfl); exact rfl; exact rfl))
   exact Yku) : P := h
theorem Ydv (h : P := by
 simp only [SI, SY] at hlen2
 refine rx ?_
 refine Jl (ih e.kids[i] Yhn Yhn _ u S hr0) ?_
 rintro v2 u2 ⟨hv2, hf2⟩
 have hL := hL.tr0 hf2
 have hF := hF.Jb hf2
 have hs2 := hf2.size
 obtain ⟨⟨ys, ho2, hrw⟩, _⟩ := hv2
 refine rx ?_
 refine Bh (al := caN e.kids[i]) hL XE rfl rfl rfl ho2.src (hrw.imp (fun x cs _ h => LG h)) (by unfold maxLen; simp only [Sm, SI, SY] at hlen2 ⊢; omega) (by simp only [Sm, SI, SY] at hlen2 ⊢; omega) Yhn (fun v3 u3 hL hfr => ?_)
 exact Yp) : P := h
theorem Ydw (h : P := by
 refine rx ?_
 refine Jc (i + 1) Yhl ⟨rfl, by omega, fin hbr ⟨?_, fun x hx => ?_⟩ (fun x hx => (hk7 x hx).imp id Yid) hS5 hb6 hf8⟩ Yhn
 .rw [Sm, List.flatMap_append]
  simpa using ho5
 .rcases hk7 x hx with h | h
  .exact hB.2 x h
  .omega) : P := h
theorem Ydx (h : P := by
 refine Yfb ?_
 refine JQ rfl hl2 rfl (fun w12 k4 hk4 ho4 hf12 hs12 => ?_)
 (have hP12 := hP11.tr0 hf12; have hF12 := hF11.Jb hf12)
 (have hbq := hbq.tr hf12 Yho)
 (have hba := hba.tr hf12 Yho)
 have hd := hd.tr0 hf12
 have hd2 := hd2.tr0 hf12
 have ho6 := ho6.tr0 hf12
 exact Yk) : P := h
theorem Ydy (h : P := by
 refine rx ?_
 refine Jc (i + 1, v3) Yhl ⟨rfl, rfl, hlt, ?_, hF⟩ Yhw
 simp only
 rw [KP hlt, <- List.append_assoc]
 exact hL) : P := h
theorem Ydz (h : P := by
 (refine J4 rfl rfl hkx ?_; refine rx ?_; refine Jg (Vq _ w) ?_; rintro _ rfl; refine rx ?_)
 rw [Cb (by unfold p1; rw [hc]; rfl)] at he
 exact Yt) : P := h
theorem Ybg (h : P := by exact ⟨v, rfl, ⟨ho4, fun x hx => by have := (hbw x hx).1; omega⟩, hF.trans hf4 (fun x hx => .inr (by have := (hbw x hx).1; omega))⟩) : P := h
theorem Ylh (h : P := by
 (refine Jj 26 27 28 29 hS ?_; refine Jj 30 31 32 33 hS ?_; refine Jj 34 35 36 37 hS ?_; refine Jj 38 39 40 41 hS ?_; refine Jj 42 43 44 45 hS ?_)
 exact Ykt) : P := h
theorem Yea (h : P := by
 refine Kz 19 hS ?_ (hrun := by (intro u hu; exact (XP (p := true) underlying4 rfl rfl rfl)))
 (refine d_z 20 hS ?_)
 exact Yu) : P := h
theorem Yli (h : P := by
 by_cases e : j = i
 .subst e; exact JhP hlt ⟨by omega, by omega, fun h => by omega⟩
 .exact hpre j Yhn) : P := h
theorem Yeb (h : P := by
 refine Yfw ?_
 exact ⟨rfl, rfl⟩) : P := h
theorem Ylj (h : P := by
 (refine Jj 34 35 36 37 hS ?_; refine Jj 38 39 40 41 hS ?_; refine Jj 42 43 44 45 hS ?_)
 exact Ykt) : P := h
theorem Yed (h : P := by
 have hS := hS.Jb hf
 clear hf
 refine Yfz ?_
 refine Xt (i := 6) (j := 10) rfl rfl Yhp ?_ ?_
 .obtain ⟨n, hn⟩ := exq u.heap.size
  refine Yhf ?_
  rintro vr u ⟨hR, hf⟩
  have hRi : In (blks vr) n u.heap.size := fun x hx => ⟨by have := hR.2 x hx; omega, hR.1.lt x hx⟩
  have hR := hR.1
  rw [<- hrl] at hR
  obtain ⟨aor, cr, rfl⟩ := hR.slice
  have hz := hf.size
  have hB := hB.tr0 hf
  have hP := hP.tr0 hf
  exact Ydn
 .obtain ⟨n, hn⟩ := exq u.heap.size
  obtain ⟨bC, hbC⟩ := exq u.heap.size
  refine Qh (k := nc) rfl rfl Yhn Yhv (fun u hC hf hsC => ?_)
  rw [<- hbC] at hC ⊢
  rw [QE] at hC
  have hCi : In (blks (Value.slice (some ⟨bC, 0, none⟩) nc nc)) n u.heap.size := fun x hx => by simp [blks, Value.ownBlock] at hx; omega
  have hz := hf.size
  have hB := hB.tr0 hf
  have hP := hP.tr0 hf
  exact Ydo) : P := h
theorem Yee (h : P := by
 have hS := hS.Jb hf
 clear hf
 refine Yfz ?_
 refine Xt (i := 10) (j := 11) rfl rfl Yhp ?_ ?_
 .obtain ⟨n, hn⟩ := exq u.heap.size
  obtain ⟨bC, hbC⟩ := exq u.heap.size
  refine Qh (k := nc) rfl rfl Yhn Yhv (fun u hC hf hsC => ?_)
  rw [<- hbC] at hC ⊢
  rw [QE] at hC
  have hCi : In (blks (Value.slice (some ⟨bC, 0, none⟩) nc nc)) n u.heap.size := fun x hx => by simp [blks, Value.ownBlock] at hx; omega
  have hz := hf.size
  have hR := hR.tr0 hf
  have hP := hP.tr0 hf
  exact Ydp
 .obtain ⟨n, hn⟩ := exq u.heap.size
  obtain ⟨bB, hbB⟩ := exq u.heap.size
  refine Kt (key := brK) (val := Value.int .i64) (fun u hB hf hsB => ?_)
  rw [<- hbB] at hB ⊢
  have hz := hf.size
  have hR := hR.tr0 hf
  have hP := hP.tr0 hf
  exact Ydn) : P := h
theorem Yef (h : P := by
 have hS := hS.Jb hf
 clear hf
 refine Yfz ?_
 refine Xt (i := 10) (j := 12) rfl rfl Yhp ?_ ?_
 .obtain ⟨n, hn⟩ := exq u.heap.size
  obtain ⟨bC, hbC⟩ := exq u.heap.size
  refine Qh (k := nc) rfl rfl Yhn Yhv (fun u hC hf hsC => ?_)
  rw [<- hbC] at hC ⊢
  rw [QE] at hC
  have hCi : In (blks (Value.slice (some ⟨bC, 0, none⟩) nc nc)) n u.heap.size := fun x hx => by simp [blks, Value.ownBlock] at hx; omega
  have hz := hf.size
  have hR := hR.tr0 hf
  have hB := hB.tr0 hf
  exact Ydq
 .obtain ⟨n, hn⟩ := exq u.heap.size
  obtain ⟨bP, hbP⟩ := exq u.heap.size
  refine Kt (key := prK) (val := Value.bool) (fun u hP hf hsP => ?_)
  rw [<- hbP] at hP ⊢
  have hz := hf.size
  have hR := hR.tr0 hf
  have hB := hB.tr0 hf
  exact Ydn) : P := h
theorem Yeg (h : P := by
 have hS := hS.Jb hf
 clear hf
 refine Yfz ?_
 refine Xt (i := 6) (j := 11) rfl rfl Yhp ?_ ?_
 .obtain ⟨n, hn⟩ := exq u.heap.size
  refine Yhf ?_
  rintro vr u ⟨hR, hf⟩
  have hRi : In (blks vr) n u.heap.size := fun x hx => ⟨by have := hR.2 x hx; omega, hR.1.lt x hx⟩
  have hR := hR.1
  rw [<- hrl] at hR
  obtain ⟨aor, cr, rfl⟩ := hR.slice
  have hz := hf.size
  have hC := hC.tr0 hf
  have hP := hP.tr0 hf
  exact Ydp
 .obtain ⟨n, hn⟩ := exq u.heap.size
  obtain ⟨bB, hbB⟩ := exq u.heap.size
  refine Kt (key := brK) (val := Value.int .i64) (fun u hB hf hsB => ?_)
  rw [<- hbB] at hB ⊢
  have hz := hf.size
  have hC := hC.tr0 hf
  have hP := hP.tr0 hf
  exact Ydo) : P := h
theorem Yeh (h : P := by
 have hS := hS.Jb hf
 clear hf
 refine Yfz ?_
 refine Xt (i := 6) (j := 12) rfl rfl Yhp ?_ ?_
 .obtain ⟨n, hn⟩ := exq u.heap.size
  refine Yhf ?_
  rintro vr u ⟨hR, hf⟩
  have hRi : In (blks vr) n u.heap.size := fun x hx => ⟨by have := hR.2 x hx; omega, hR.1.lt x hx⟩
  have hR := hR.1
  rw [<- hrl] at hR
  obtain ⟨aor, cr, rfl⟩ := hR.slice
  have hz := hf.size
  have hC := hC.tr0 hf
  have hB := hB.tr0 hf
  exact Ydq
 .obtain ⟨n, hn⟩ := exq u.heap.size
  obtain ⟨bP, hbP⟩ := exq u.heap.size
  refine Kt (key := prK) (val := Value.bool) (fun u hP hf hsP => ?_)
  rw [<- hbP] at hP ⊢
  have hz := hf.size
  have hC := hC.tr0 hf
  have hB := hB.tr0 hf
  exact Ydo) : P := h
theorem Yn (h : P := by
 refine rx ?_
 refine Jc (xs ++ [a], left', some (a, av), v7) Yhl ⟨rfl, (hIt5.tr0 hf6).tr hf7 (fun hm => by have := (hbw b hm).1; omega) (fun hm => (hbw r hm).2 rfl), ?_, JeH hl' hp, fun x hx => ?_, (hF5.Jb hf6).trans hf7 (fun x hx => .inr (by have := (hbw x hx).1; omega))⟩ Yhw
 .simp only
  rw [Sm, List.flatMap_append]
  simpa using ho7
 .rcases hk7 x hx with h | h
  .exact hbw x h
  .exact ⟨by omega, by omega⟩) : P := h
theorem Yei (h : P := by
 have hS := hS.Jb hf
 clear hf
 refine Yfz ?_
 refine Xt (i := 11) (j := 12) rfl rfl Yhp ?_ ?_
 .obtain ⟨n, hn⟩ := exq u.heap.size
  obtain ⟨bB, hbB⟩ := exq u.heap.size
  refine Kt (key := brK) (val := Value.int .i64) (fun u hB hf hsB => ?_)
  rw [<- hbB] at hB ⊢
  have hz := hf.size
  have hR := hR.tr0 hf
  have hC := hC.tr0 hf
  exact Ydq
 .obtain ⟨n, hn⟩ := exq u.heap.size
  obtain ⟨bP, hbP⟩ := exq u.heap.size
  refine Kt (key := prK) (val := Value.bool) (fun u hP hf hsP => ?_)
  rw [<- hbP] at hP ⊢
  have hz := hf.size
  have hR := hR.tr0 hf
  have hC := hC.tr0 hf
  exact Ydp) : P := h
theorem Ymr (h : P := by
 have hS : Fr [] w14 u := hS.trans hf (fun x hx => .inr Ymb)
 clear hf
 exact Ymc) : P := h
theorem Yem (h : P := by
 (refine J4 rfl rfl hkx ?_; refine rx ?_; refine Jg (Vq _ w) ?_; rintro _ rfl; refine rx ?_)
 exact Ydz) : P := h
theorem Yen (h : Q) (k : Hd Q -> P := by
 intro zz
 (refine LZ rfl rfl ?_ Yib; refine rx ?_)
 (refine LZ rfl rfl ?_ Yib; refine rx ?_)
 exact zz.o) : P := k ⟨h⟩
theorem Yeo (h : Q) (k : Hd Q -> P := by
 intro zz
 refine rx ?_
 (apply Jc1; exact rfl; (conv => lhs; whnf))
 exact zz.o) : P := k ⟨h⟩
theorem Yep (h : Q) (k : Hd Q -> P := by
 intro zz
 (refine rr ?_; refine wpList_nil ?_; refine QG ?_; refine wp_seq ?_; refine KA ?_)
 (refine rr ?_; refine wpList_nil ?_; refine QG ?_; refine wp_seq ?_; refine KA ?_)
 (refine rr ?_; refine wpList_nil ?_; refine QG ?_; refine wp_seq ?_; refine KA ?_)
 exact zz.o) : P := k ⟨h⟩
theorem Yeq (h : Q) (k : Hd Q -> P := by
 intro zz
 (refine rr ?_; refine wpList_nil ?_; refine QG ?_; refine wp_seq ?_; refine KA ?_)
 (refine rr ?_; refine wpList_nil ?_; refine QG ?_; refine wp_seq ?_; refine KA ?_)
 exact zz.o) : P := k ⟨h⟩
theorem Yer (h : Q) (k : Hd Q -> P := by
 intro zz
 refine rx ?_
 (refine LZ rfl rfl ?_ Yib; refine rx ?_)
 exact zz.o) : P := k ⟨h⟩
theorem Yes (h : Q) (k : Hd Q -> P := by
 intro zz
 (refine LZ rfl rfl ?_ Yib; refine rx ?_)
 (apply Jc1; exact rfl; (conv => lhs; whnf))
 exact zz.o) : P := k ⟨h⟩
theorem Yev (h : Q) (k : Hd Q -> P := by
 intro zz
 (refine UH Yhp ?_)
 refine rx ?_
 exact zz.o) : P := k ⟨h⟩
theorem Yeu (h : Q) (k : Hd Q -> P := by
 intro zz
 (refine wpList_nil (JiQ ?_))
 (refine Je8 Yhp ?_)
 exact zz.o) : P := k ⟨h⟩
theorem Yew (h : Q) (k : Hd Q -> P := by
 intro zz
 refine rx ?_
 refine Vz rfl hcx hlen ?_
 refine rx ?_
 refine ZF (first := []) (cap := []) (H l[i] Yhs cs u S hr) rfl rfl rfl ?_
 exact zz.o) : P := k ⟨h⟩
theorem Yex (h : Q) (k : Hd Q -> P := by
 intro zz
 refine XF (l := tkC t) rfl rfl ?_
 refine rx ?_
 exact zz.o) : P := k ⟨h⟩
theorem Yey (h : Q) (k : Hd Q -> P := by
 intro zz
 refine rx ?_
 refine Jg (JgN q d hk _ _ _ _ _ _ _ _ _ _ _ _ _ _ _ _ _ _ _ _ _ _ _ _ _ _ _ _ _ _ _ _ _ _ _ _ _ _ _ _ _ _ _ _ _ _ _ _ _ _ _ _ _ _ _ _ _ _ _ _ _ _ _ _ _ _ w1 hst.1) ?_
 exact zz.o) : P := k ⟨h⟩
theorem Yfa (h : Q) (k : Hd Q -> P := by
 intro zz
 refine rr ?_
 refine wpList_nil ?_
 refine QG ?_
 exact zz.o) : P := k ⟨h⟩
theorem Yms (h : Q) (k : Hd Q -> P := by
 intro zz
 refine wpList_nil (Jv hS ?_)
 (refine UH Yhp ?_)
 exact zz.o) : P := k ⟨h⟩
theorem Yez (h : Q) (k : Hd Q -> P := by
 intro zz
 (refine wpList_nil (Xz (And.intro hbc hbz) ?_))
 (refine KH (i := 8) rfl Yhp ?_)
 refine Vy rfl ?_
 (refine wpList_nil (Xz (And.intro hbc hbz) ?_))
 exact zz.o) : P := k ⟨h⟩
theorem Yll (h : Q) (k : Hd Q -> P := by
 intro zz
 refine rn ?_
 (apply Jc1; exact rfl; (conv => lhs; whnf))
 exact zz.o) : P := k ⟨h⟩
theorem Ymt (h : Q) (k : Hd Q -> P := by
 intro zz
 refine rx ?_
 (apply JkC; exact rfl; (conv => lhs; whnf); (conv => lhs; whnf))
 exact zz.o) : P := k ⟨h⟩
theorem Yfb (h : Q) (k : Hd Q -> P := by
 intro zz
 (refine wpList_nil (Xz (And.intro trivial hba) ?_))
 (refine KH (i := 4) rfl Yhp ?_)
 exact zz.o) : P := k ⟨h⟩
theorem Yfc (h : Q) (k : Hd Q -> P := by
 intro zz
 refine rx ?_
 (apply JkB; exact rfl; (conv => lhs; whnf); (conv => lhs; whnf); (conv => lhs; whnf))
 exact zz.o) : P := k ⟨h⟩
theorem Ymu (h : Q) (k : Hd Q -> P := by
 intro zz
 (refine JJ (i := 35) rfl Yhp ?_)
 refine Vy rfl ?_
 refine wpList_nil (Jv hS ?_)
 (refine JJ (i := 36) rfl Yhp ?_)
 refine Ku rfl ?_
 exact zz.o) : P := k ⟨h⟩
theorem Ymv (h : Q) (k : Hd Q -> P := by
 intro zz
 (refine JJ (i := 24) rfl Yhp ?_)
 refine Vy rfl ?_
 refine wpList_nil (Jv hS ?_)
 (refine JJ (i := 25) rfl Yhp ?_)
 refine Ku rfl ?_
 exact zz.o) : P := k ⟨h⟩
theorem Yfe (h : Q) (k : Hd Q -> P := by
 intro zz
 (refine wpList_nil (Xz (And.intro trivial hba) ?_))
 (refine KH (i := 5) rfl Yhp ?_)
 exact zz.o) : P := k ⟨h⟩
theorem Yff (h : Q) (k : Hd Q -> P := by
 intro zz
 refine rx ?_
 refine J4 rfl rfl hix ?_
 refine rx ?_
 exact zz.o) : P := k ⟨h⟩
theorem Yfg (h : Q) (k : Hd Q -> P := by
 intro zz
 (refine wpList_nil (Xz (And.intro hbc hbz) ?_))
 (refine KH (i := 7) rfl Yhp ?_)
 exact zz.o) : P := k ⟨h⟩
theorem Yfd (h : Q) (k : Hd Q -> P := by
 intro zz
 (refine KH (i := 9) rfl Yhp ?_)
 refine Vy rfl ?_
 (refine wpList_nil (Xz hS ?_))
 (refine KH (i := 10) rfl Yhp ?_)
 refine Ku rfl ?_
 exact zz.o) : P := k ⟨h⟩
theorem Yfi (h : Q) (k : Hd Q -> P := by
 intro zz
 (refine LZ rfl rfl ?_ Yib; refine rx ?_)
 refine Jl (Uz p 3 _ hG Yhn) ?_
 exact zz.o) : P := k ⟨h⟩
theorem Yfj (h : Q) (k : Hd Q -> P := by
 intro zz
 (refine LZ rfl rfl ?_ Yib; refine rx ?_)
 refine Jl (Uz p 2 _ hG Yhn) ?_
 exact zz.o) : P := k ⟨h⟩
theorem Yfk (h : Q) (k : Hd Q -> P := by
 intro zz
 refine rx ?_
 refine Jg (Vo q _ 0 _ hst.1) ?_
 exact zz.o) : P := k ⟨h⟩
theorem Yfl (h : Q) (k : Hd Q -> P := by
 intro zz
 refine rx ?_
 refine Jg (MF q _ _ hst.1 Yhn) ?_
 exact zz.o) : P := k ⟨h⟩
theorem Yfm (h : Q) (k : Hd Q -> P := by
 intro zz
 refine rx ?_
 refine KW rfl (by rw [Dq]; exact hcell) ?_
 exact zz.o) : P := k ⟨h⟩
theorem Ymw (h : Q) (k : Hd Q -> P := by
 intro zz
 refine rn ?_
 refine VH rfl hr.1 rfl ?_
 exact zz.o) : P := k ⟨h⟩
theorem Yfo (h : Q) (k : Hd Q -> P := by
 intro zz
 refine enter func131 rfl ntmps131 rfl ?_
 refine rx ?_
 exact zz.o) : P := k ⟨h⟩
theorem Ymx (h : Q) (k : Hd Q -> P := by
 intro zz
 refine wpList_nil (Jv hS ?_)
 (refine JJ (i := 37) rfl Yhp ?_)
 exact zz.o) : P := k ⟨h⟩
theorem Ymy (h : Q) (k : Hd Q -> P := by
 intro zz
 refine wpList_nil (Jv hS ?_)
 (refine JJ (i := 26) rfl Yhp ?_)
 exact zz.o) : P := k ⟨h⟩
theorem Ymz (h : Q) (k : Hd Q -> P := by
 intro zz
 refine wpList_nil (Jv hS ?_)
 (refine JJ (i := 11) rfl Yhp ?_)
 exact zz.o) : P := k ⟨h⟩
theorem Yfp (h : Q) (k : Hd Q -> P := by
 intro zz
 refine rx ?_
 refine JF [zI, zT, zI, zS, zS, zI, zT, zS, zI, zT, zI, zS, zS, zS, zI, zI, zI, zT, zS, zS, zS, zI, zS, zS, zS, zS, zI, zT, zS, zI, zT, zI, zS, zS, zS, zI, zS, zS, zI, zT, zI, zS, zS, zS, zI] rfl ?_
 exact zz.o) : P := k ⟨h⟩
theorem Yfq (h : Q) (k : Hd Q -> P := by
 intro zz
 refine rx ?_
 refine KW rfl hc ?_
 refine rx ?_
 exact zz.o) : P := k ⟨h⟩
theorem Yfr (h : Q) (k : Hd Q -> P := by
 intro zz
 refine rx ?_
 refine Vz rfl hc hlen ?_
 refine rx ?_
 exact zz.o) : P := k ⟨h⟩
theorem Yfs (h : Q) (k : Hd Q -> P := by
 intro zz
 refine rx ?_
 (refine JE (fun z => Fr [] w z) Yhp rfl ?_)
 exact zz.o) : P := k ⟨h⟩
theorem Yft (h : Q) (k : Hd Q -> P := by
 intro zz
 (refine wpList_nil (Xz (And.intro trivial hba) ?_))
 (refine KH (i := 6) rfl Yhp ?_)
 exact zz.o) : P := k ⟨h⟩
theorem Yna (h : Q) (k : Hd Q -> P := by
 intro zz
 (refine JX 8 9 hS ?_)
 (refine JJ (i := 7) rfl Yhp ?_)
 refine Jg (Jmj hI rn) ?_
 exact zz.o) : P := k ⟨h⟩
theorem Yfu (h : Q) (k : Hd Q -> P := by
 intro zz
 refine rx ?_
 refine Jh 5 [4] (σ := Nat) (fun i g u => g 4 = iV i /\ i <= l.length /\ FB u q /\ Fr [q] w u) (fun i => l.length - i) 0 ⟨rfl, SL _, h1, hf1⟩ ?_
 exact zz.o) : P := k ⟨h⟩
theorem Yfv (h : Q) (k : Hd Q -> P := by intro zz; refine ⟨Ub _, iha 32 Ny, rfl, ?_, rfl, ihb 41 (.inr rfl), Gv _, trivial⟩; exact zz.o) : P := k ⟨h⟩
theorem Yfw (h : Q) (k : Hd Q -> P := by intro zz; (apply Jc1; exact rfl; (conv => lhs; whnf)); exact zz.o) : P := k ⟨h⟩
theorem Yfx (h : Q) (k : Hd Q -> P := by intro zz; (refine UH Yhp ?_); exact zz.o) : P := k ⟨h⟩
theorem Yfz (h : Q) (k : Hd Q -> P := by intro zz; refine wpList_nil (Jv hS ?_); exact zz.o) : P := k ⟨h⟩
theorem Yga (h : P := by exact Jc (i + 1) Yhr ⟨rfl, by omega, he, hf.Jb hS⟩ Yhn) : P := h
theorem Ynb (h : Q) (k : Hd Q -> P := by intro zz; (refine JX 0 1 hS ?_; refine d_z 2 hS ?_); exact zz.o) : P := k ⟨h⟩
theorem Ygb (h : P := by exact h v' w' ⟨ho, fun b hb hm => (hk b hb).elim (fun h => hR.2 b h hm) (fun h => by have := hX b hm; omega)⟩ hf hk) : P := h
theorem Ygc (h : P := by exact WI rfl ⟨rfl, ⟨_, _, _, h2⟩, (QL hf1).trans hf2 (fun x hx => .inl hx)⟩) : P := h
theorem Ygd (h : Q) (k : Hd Q -> P := by intro zz; refine s_call (XQ p _ (V.map rnd) w0 hG0 (by rw [Io, Sr]; exact hV0.1) (by rw [Io]; exact hV0.2) (by simpa using h0) (by simpa using hV9)) rfl ?_; exact zz.o) : P := k ⟨h⟩
theorem Yge (h : Q) (k : Hd Q -> P := by intro zz; (refine LZ rfl rfl ?_ Yib; refine rx ?_); exact zz.o) : P := k ⟨h⟩
theorem Ygf (h : Q) (k : Hd Q -> P := by intro zz; refine s_call (XQ p _ [[32, 60, 32], [32, 60, 61, 32], [32, 61, 61, 32], [32, 33, 61, 32]] u (hG1.tr0 hfu) ho.src (hG1.off ho rfl) Yhs Yhs) rfl ?_; exact zz.o) : P := k ⟨h⟩
theorem Ygg (h : P := by exact Jc (i + 1) Yhl ⟨rfl, rfl, by omega, hfu.Jb hf2⟩ Yhn) : P := h
theorem Ygh (h : P := by exact WI rfl ⟨rfl, hst.1, hst.2.1⟩) : P := h
theorem Ygi (h : P := by exact Jc (i + 1) Yhl ⟨rfl, by omega, hst⟩ Yhn) : P := h
theorem Ygj (h : P := by exact Jc (i + 1) Yhl ⟨rfl, by omega, hq5, hF5⟩ Yhn) : P := h
theorem Ygk (h : Q) (k : Hd Q -> P := by intro zz; (refine wpList_nil (Xz (And.intro trivial hb) ?_)); exact zz.o) : P := k ⟨h⟩
theorem Ygl (h : Q) (k : Hd Q -> P := by intro zz; (refine KH (i := 5) rfl Yhp ?_); exact zz.o) : P := k ⟨h⟩
theorem Ygm (h : Q) (k : Hd Q -> P := by intro zz; (refine KH (i := 7) rfl Yhp ?_); exact zz.o) : P := k ⟨h⟩
theorem Ygn (h : Q) (k : Hd Q -> P := by intro zz; (refine KH (i := 8) rfl Yhp ?_); exact zz.o) : P := k ⟨h⟩
theorem Ygo (h : Q) (k : Hd Q -> P := by intro zz; (refine KH (i := 10) rfl Yhp ?_); exact zz.o) : P := k ⟨h⟩
theorem Ygp (h : Q) (k : Hd Q -> P := by intro zz; (refine wpList_nil (JiQ ?_)); exact zz.o) : P := k ⟨h⟩
theorem Ygr (h : Q) (k : Hd Q -> P := by intro zz; (refine KH (i := 3) rfl Yhp ?_); exact zz.o) : P := k ⟨h⟩
theorem Ygs (h : Q) (k : Hd Q -> P := by intro zz; (refine wpList_nil (Xz (And.intro trivial hba) ?_)); exact zz.o) : P := k ⟨h⟩
theorem Ygt (h : Q) (k : Hd Q -> P := by intro zz; (refine JJ (i := 4) rfl Yhp ?_); exact zz.o) : P := k ⟨h⟩
theorem Ync (h : Q) (k : Hd Q -> P := by intro zz; (refine JJ (i := 5) rfl Yhp ?_); exact zz.o) : P := k ⟨h⟩
theorem Yln (h : Q) (k : Hd Q -> P := by intro zz; (refine KH (i := 6) rfl Yhp ?_); exact zz.o) : P := k ⟨h⟩
theorem Ygu (h : P := by exact Jc (i + 1) Yhl ⟨rfl, rfl, rfl, by omega, he, hr1, hfu.Jb hf4⟩ Yhn) : P := h
theorem Ygv (h : P := by exact Jc (i + 1) Yhl ⟨rfl, by omega, he, rfl⟩ Yhn) : P := h
theorem Ygw (h : P := by exact h v' w' ⟨ho, fun b hb => (hk b hb).elim (fun h => hR.2 b h) Yid⟩ (fun T hT => hT.trans hf (fun b hb => .inr (hR.2 b hb)))) : P := h
theorem Ygx (h : Q) (k : Hd Q -> P := by intro zz; (refine JJ (i := 9) rfl Yhp ?_); exact zz.o) : P := k ⟨h⟩
theorem Ygy (h : Q) (i : R) (k : Hd Q -> Hd R -> P := by intro zz yy; refine Qw (fun g u => g 0 = .pointer (some ⟨q, 0, none⟩) /\ g 3 = .pointer (some ⟨b, 0, none⟩) /\ g 4 = iV d.kind /\ g 5 = .bool false /\ g 6 = .bool false /\ g 7 = .bool false /\ g 8 = .bool false /\ ST q b [iV d.kind, .string d.name, iV d.at_, .slice ct ctn ctc, .slice pm pmn pmc, iV d.type.kind, .string d.type.name, .slice ty tyn tyc, iV d.body.kind, .string d.body.name, iV d.body.n, .slice bo1 bon1 boc1, .slice bo2 bon2 boc2, .slice bo3 bon3 boc3, iV d.body.at_, iV d.depth, iV d.gen.kind, .string d.gen.name, .slice ge1 gen1 gec1, .slice ge2 gen2 gec2, .slice ge3 gen3 gec3, iV d.gen.at_, .slice dw dwn dwc, .slice ck ckn ckc, .slice cs csn csc, .slice cl cln clc, iV d.state.kind, .string d.state.name, .slice st stn stc, iV d.init.kind, .string d.init.name, iV d.init.n, .slice it1 itn1 itc1, .slice it2 itn2 itc2, .slice it3 itn3 itc3, iV d.init.at_, .slice cm cmn cmc, .slice op opn opc, iV d.recov.kind, .string d.recov.name, iV d.recov.n, .slice rc1 rcn1 rcc1, .slice rc2 rcn2 rcc2, .slice rc3 rcn3 rcc3, iV d.recov.at_] 105 w u) ?_ ?_; exact zz.o; exact yy.o) : P := k ⟨h⟩ ⟨i⟩
theorem Ygz (h : Q) (i : R) (k : Hd Q -> Hd R -> P := by intro zz yy; refine Qw (fun g u => g 0 = .pointer (some ⟨q, 0, none⟩) /\ g 3 = .pointer (some ⟨b, 0, none⟩) /\ g 4 = iV d.kind /\ g 5 = .bool true /\ g 6 = .bool false /\ g 7 = .bool false /\ g 8 = .bool false /\ ST q b [iV d.kind, .string d.name, iV d.at_, .slice ct ctn ctc, .slice pm pmn pmc, iV d.type.kind, .string d.type.name, .slice ty tyn tyc, iV d.body.kind, .string d.body.name, iV d.body.n, .slice bo1 bon1 boc1, .slice bo2 bon2 boc2, .slice bo3 bon3 boc3, iV d.body.at_, iV d.depth, iV d.gen.kind, .string d.gen.name, .slice ge1 gen1 gec1, .slice ge2 gen2 gec2, .slice ge3 gen3 gec3, iV d.gen.at_, .slice dw dwn dwc, .slice ck ckn ckc, .slice cs csn csc, .slice cl cln clc, iV d.state.kind, .string d.state.name, .slice st stn stc, iV d.init.kind, .string d.init.name, iV d.init.n, .slice it1 itn1 itc1, .slice it2 itn2 itc2, .slice it3 itn3 itc3, iV d.init.at_, .slice cm cmn cmc, .slice op opn opc, iV d.recov.kind, .string d.recov.name, iV d.recov.n, .slice rc1 rcn1 rcc1, .slice rc2 rcn2 rcc2, .slice rc3 rcn3 rcc3, iV d.recov.at_] 105 w u) ?_ ?_; exact zz.o; exact yy.o) : P := k ⟨h⟩ ⟨i⟩
theorem Yha (h : Q) (i : R) (k : Hd Q -> Hd R -> P := by intro zz yy; refine Qw (fun g u => g 0 = .pointer (some ⟨q, 0, none⟩) /\ g 3 = .pointer (some ⟨b, 0, none⟩) /\ g 4 = iV d.kind /\ g 5 = .bool false /\ g 6 = .bool true /\ g 7 = .bool false /\ g 8 = .bool false /\ ST q b [iV d.kind, .string d.name, iV d.at_, .slice ct ctn ctc, .slice pm pmn pmc, iV d.type.kind, .string d.type.name, .slice ty tyn tyc, iV d.body.kind, .string d.body.name, iV d.body.n, .slice bo1 bon1 boc1, .slice bo2 bon2 boc2, .slice bo3 bon3 boc3, iV d.body.at_, iV d.depth, iV d.gen.kind, .string d.gen.name, .slice ge1 gen1 gec1, .slice ge2 gen2 gec2, .slice ge3 gen3 gec3, iV d.gen.at_, .slice dw dwn dwc, .slice ck ckn ckc, .slice cs csn csc, .slice cl cln clc, iV d.state.kind, .string d.state.name, .slice st stn stc, iV d.init.kind, .string d.init.name, iV d.init.n, .slice it1 itn1 itc1, .slice it2 itn2 itc2, .slice it3 itn3 itc3, iV d.init.at_, .slice cm cmn cmc, .slice op opn opc, iV d.recov.kind, .string d.recov.name, iV d.recov.n, .slice rc1 rcn1 rcc1, .slice rc2 rcn2 rcc2, .slice rc3 rcn3 rcc3, iV d.recov.at_] 105 w u) ?_ ?_; exact zz.o; exact yy.o) : P := k ⟨h⟩ ⟨i⟩
theorem Yhb (h : Q) (i : R) (k : Hd Q -> Hd R -> P := by intro zz yy; refine Qw (fun g u => g 0 = .pointer (some ⟨q, 0, none⟩) /\ g 3 = .pointer (some ⟨b, 0, none⟩) /\ g 4 = iV d.kind /\ g 5 = .bool false /\ g 6 = .bool false /\ g 7 = .bool true /\ g 8 = .bool false /\ ST q b [iV d.kind, .string d.name, iV d.at_, .slice ct ctn ctc, .slice pm pmn pmc, iV d.type.kind, .string d.type.name, .slice ty tyn tyc, iV d.body.kind, .string d.body.name, iV d.body.n, .slice bo1 bon1 boc1, .slice bo2 bon2 boc2, .slice bo3 bon3 boc3, iV d.body.at_, iV d.depth, iV d.gen.kind, .string d.gen.name, .slice ge1 gen1 gec1, .slice ge2 gen2 gec2, .slice ge3 gen3 gec3, iV d.gen.at_, .slice dw dwn dwc, .slice ck ckn ckc, .slice cs csn csc, .slice cl cln clc, iV d.state.kind, .string d.state.name, .slice st stn stc, iV d.init.kind, .string d.init.name, iV d.init.n, .slice it1 itn1 itc1, .slice it2 itn2 itc2, .slice it3 itn3 itc3, iV d.init.at_, .slice cm cmn cmc, .slice op opn opc, iV d.recov.kind, .string d.recov.name, iV d.recov.n, .slice rc1 rcn1 rcc1, .slice rc2 rcn2 rcc2, .slice rc3 rcn3 rcc3, iV d.recov.at_] 105 w u) ?_ ?_; exact zz.o; exact yy.o) : P := k ⟨h⟩ ⟨i⟩
theorem Yhc (h : Q) (k : Hd Q -> P := by intro zz; refine Jg (Jcm k1 w1 Yhn) ?_; exact zz.o) : P := k ⟨h⟩
theorem Yhd (h : Q) (k : Hd Q -> P := by intro zz; (apply JkC; exact rfl; (conv => lhs; whnf); (conv => lhs; whnf)); exact zz.o) : P := k ⟨h⟩
theorem Ynd (h : Q) (k : Hd Q -> P := by intro zz; (refine JE (fun z => Fr [] w5 z) Yhp rfl ?_); exact zz.o) : P := k ⟨h⟩
theorem Ylq (h : Q) (k : Hd Q -> P := by intro zz; (refine JJ (i := 10) rfl Yhp ?_); exact zz.o) : P := k ⟨h⟩
theorem Yhf (h : Q) (k : Hd Q -> P := by intro zz; refine Jl (Jfx ds nm v0 u S0 hsz hl (hd4.tr0 hS)) ?_; exact zz.o) : P := k ⟨h⟩
theorem Yhe (h : Q) (k : Hd Q -> P := by intro zz; (refine wpList_nil (Xz hS ?_)); exact zz.o) : P := k ⟨h⟩
theorem Yhg (h : P := by exact Jc (i + 1, none) Yhl ⟨rfl, hlt, hF.Jb hF2, hbm.tr0 hF2, rfl, hroot⟩ Yhw) : P := h
theorem Yhh (h : P := by exact JK Yhl ⟨vt, rfl, hsame he (Fr.refl _ _), .refl, fun x hx => hpv5 x (.inr hx), SX _⟩) : P := h
theorem Yne (h : Q) (k : Hd Q -> P := by intro zz; (refine JJ (i := 12) rfl Yhp ?_; refine rx ?_; refine Jv hS ?_); exact zz.o) : P := k ⟨h⟩
theorem Yhi (h : P := by exact JK Yhl hI0) : P := h
theorem Yhj (h : P := by exact JK Yhl hI) : P := h
theorem Ynf (h : P := by exact JK Yhl ⟨vc, v, hI, ho, hvc, hp, hMB, hMP, hF⟩) : P := h
theorem Yng (h : Q) (k : Hd Q -> P := by intro zz; (refine Jj 9 10 11 12 hS ?_; refine Jj 13 14 15 16 hS ?_; refine Jj 17 18 19 20 hS ?_; refine d_z 21 hS ?_); exact zz.o) : P := k ⟨h⟩
theorem Ynh (h : Q) (k : Hd Q -> P := by intro zz; refine Jl (few _ rw_ 40 u (hz.tr0 (hFu.Jb hS)) Yhy) ?_; exact zz.o) : P := k ⟨h⟩
theorem Yhk (h : Q) (i : R) (k : Hd Q -> Hd R -> P := by intro zz yy; refine Qw (fun g u => g 0 = .pointer (some ⟨q, 0, none⟩) /\ g 3 = .pointer (some ⟨b, 0, none⟩) /\ g 4 = iV d.kind /\ g 5 = .bool false /\ g 6 = .bool false /\ g 7 = .bool false /\ g 8 = .bool true /\ ST q b [iV d.kind, .string d.name, iV d.at_, .slice ct ctn ctc, .slice pm pmn pmc, iV d.type.kind, .string d.type.name, .slice ty tyn tyc, iV d.body.kind, .string d.body.name, iV d.body.n, .slice bo1 bon1 boc1, .slice bo2 bon2 boc2, .slice bo3 bon3 boc3, iV d.body.at_, iV d.depth, iV d.gen.kind, .string d.gen.name, .slice ge1 gen1 gec1, .slice ge2 gen2 gec2, .slice ge3 gen3 gec3, iV d.gen.at_, .slice dw dwn dwc, .slice ck ckn ckc, .slice cs csn csc, .slice cl cln clc, iV d.state.kind, .string d.state.name, .slice st stn stc, iV d.init.kind, .string d.init.name, iV d.init.n, .slice it1 itn1 itc1, .slice it2 itn2 itc2, .slice it3 itn3 itc3, iV d.init.at_, .slice cm cmn cmc, .slice op opn opc, iV d.recov.kind, .string d.recov.name, iV d.recov.n, .slice rc1 rcn1 rcc1, .slice rc2 rcn2 rcc2, .slice rc3 rcn3 rcc3, iV d.recov.at_] 105 w u) ?_ ?_; exact zz.o; exact yy.o) : P := k ⟨h⟩ ⟨i⟩
theorem Yhl (h : P := by (repeat (first | exact Keep.refl _ _ _ | exact Keep.mrg _ _ _ _ | (refine Keep.hi rfl ?_) | (refine Keep.one rfl ?_) | exact Keep.all rfl | (refine Keep.inn rfl ?_) | (refine Keep.set rfl ?_)))) : P := h
theorem Yhm (h : P := by exact fun x hx => by first | exact .inl hx | exact .inl (SC.2 (.inl (Sv.1 hx)))) : P := h
theorem Yhn (h : P := by omega) : P := h
theorem Yho (h : P := by simp <;> omega) : P := h
theorem Yhp (h : P := by kernel_rfl) : P := h
theorem Yhq (h : P := by rw [Sv.1 hx]; omega) : P := h
theorem Yhr (h : P := by (repeat (first | exact Keep.mrg _ _ _ _ | (refine Keep.hi rfl ?_) | (refine Keep.one rfl ?_) | exact Keep.all rfl | (refine Keep.inn rfl ?_) | (refine Keep.set rfl ?_)))) : P := h
theorem Yhs (h : P := by simp) : P := h
theorem Yht (h : P := by simp; omega) : P := h
theorem Yhu (h : P := by simp [Value.oneCell']) : P := h
theorem Yhv (h : P := by unfold maxLen; omega) : P := h
theorem Yhw (h : P := by simp only; omega) : P := h
theorem Yhx (h : P := by (try simp only [Ql, List.append_assoc]); kernel_rfl) : P := h
theorem Yhy (h : P := by decide) : P := h
theorem Yhz (h : P := by assumption) : P := h
theorem Yia (h : P := by rw [<- Sv.1 hm]; exact hx) : P := h
theorem Yib (h : P := by simp only [List.append_eq, Sm, SI, SY]; omega) : P := h
theorem Yim (h : P := by simp only [Sm]; omega) : P := h
theorem Yic (h : P := by simp [blks, Value.ownBlock]) : P := h
theorem Yie (h : P := by simpa using hpw) : P := h
theorem Yif (h : P := by exact fun b hb => by simp at hb ⊢; rcases hb with h | h | h <;> simp [h]) : P := h
theorem Yik (h : P := by rfl) : P := h
theorem Yig (h : P := by simp [blks, Value.ownBlock, Jk]; omega) : P := h
theorem Yil (h : P := by simpa using h) : P := h
theorem Yni (h : P := by simp only [Sm]; rw [show ([s.o 0, s.o 1, s.o 2].flatMap (fun (n : Nat) => iv (n : Nat))).length = (iv (s.o 0)).length + ((iv (s.o 1)).length + (iv (s.o 2)).length) by simp] at hbt; omega) : P := h
theorem Yih (h : P := by simp [Jk] <;> omega) : P := h
theorem Yii (h : P := by simp [hb]) : P := h
theorem Yij (h : P := by rw [Ce]; exact r17) : P := h
theorem Yin (h : P := by intro b hb; simp [Jk]; omega) : P := h
theorem Yio (h : P := by rw [e]; simp [blks, Value.ownBlock]) : P := h
theorem Yiq (h : P := by simp at hx ⊢; simp [hx]) : P := h
theorem Yir (h : P := by rw [Sv.1 hx]; exact hwb) : P := h
theorem Yit (h : P := by simp [Jk] at hb ⊢; omega) : P := h
theorem Yiu (h : P := by intro u hu; exact (Kv rfl (Cells.VO hu.1) rfl)) : P := h
theorem Yix (h : P := by simp [hx]) : P := h
theorem Ynj (h : P := by exact fun x hx hm => by have := hA5n x hx; have := hA5l x hx; simp [blks, Value.ownBlock] at hm; omega) : P := h
theorem Yiw (h : P := by cases h) : P := h
theorem Yiy (h : P := by simp [rnd, Ql]) : P := h
theorem Yiz (h : P := by rw [Ce]; exact hr4) : P := h
theorem Yid (h : P := by exact fun h => by omega) : P := h
theorem Yje (h : P := by simp only [okE, Qn, Eh]; exact ⟨hA, h0, g1.1⟩) : P := h
theorem Yjf (h : P := by simpa using hi) : P := h
theorem Yjg (h : P := by exact fun hm => by rcases hTm hm with h | h | h; exact hmtm h.symm; exact iqt h.symm; exact (hvb tm h).2.2.2.2.2.1 rfl) : P := h
theorem Yjh (h : P := by exact fun hm => by rcases hTm hm with h | h | h; exact hmbm h.symm; exact iqb h.symm; exact (hvb bm h).2.2.2.2.1 rfl) : P := h
theorem Yji (h : P := by unfold bD; simp only [exD, WH]; omega) : P := h
theorem Yjj (h : P := by rw [Ce]; exact hr1) : P := h
theorem Yjk (h : P := by rw [h]; exact Sv.2 rfl) : P := h
theorem Yjl (h : P := by simp [hp5]) : P := h
theorem Yjm (h : P := by exact fun b hb => by simp [hb]) : P := h
theorem Ynk (h : P := by have := hm.len; omega) : P := h
theorem Ynl (h : P := by simp only [execOp, eqGuard, binOp, Op.intBits, hx, hy, hr]; simp) : P := h
theorem Ynm (h : P := by have h := Cells.get hu (j := 3) rfl; rw [add_lit] at h; exact h) : P := h
theorem Yjn (h : P := by exact fun j x hx => by rw [add_lit]; exact hb.cell (by simpa using hx)) : P := h
theorem Yjo (h : P := by simp [blks, Value.ownBlock]; omega) : P := h
theorem Yjp (h : P := by rw [Sv.1 h]; omega) : P := h
theorem Yjq (h : P := by rw [Sv.1 hb]; simp) : P := h
theorem Yjr (h : P := by intro u hu; exact (J7 rfl (Blk.cell (hb3'.tr0 hu) rfl))) : P := h
theorem Yjs (h : P := by exact fun j u hu => by have := (Cells.VO hb).sub o m j u hu; rwa [add_lit, Di] at this) : P := h
theorem Ymb (h : P := by simp [blks, Value.ownBlock] at hx; omega) : P := h
theorem Yju (h : P := by simp [execOp, resolve, invoke, builtin, Builtin.len_, run_underlying S.u, hx, goInt]) : P := h
theorem Yjv (h : P := by simp [execOp, eqGuard, binOp, Op.intArith, hx, hy, hr]) : P := h
theorem Yjx (h : P := by rw [Sv.1 hx]; exact hp) : P := h
theorem Yjy (h : P := by exact fun b hb => by have := Jk.1 hb; omega) : P := h
theorem Yjz (h : P := by simp [execOp, resolve, invoke, builtin, hs, hx, hr]) : P := h
theorem Yka (h : P := by simp [Jk.2 hpw]) : P := h
theorem Ykb (h : P := by exact fun k hk => by rcases SE.1 hk with h | h; exact .inl h; exact hT k h) : P := h
theorem Ykc (h : P := by exact fun b hb => by rcases SE.1 hb with h | h; exact .inl h; exact hT b h) : P := h
theorem Ykd (h : P := by exact fun b hb => by rcases hT b hb with h | h; exact .inl (Jk.2 h); exact .inr h) : P := h
theorem Yke (h : P := by exact fun k hk hm => by have := hbl k hk; rw [Sv.1 hm] at this; omega) : P := h
theorem Ykg (h : P := by simp [eqGuard, binOp, Op.intCmp]) : P := h
theorem Ylu (h : P := by rw [Dq]; exact hcell hu) : P := h
theorem Ykh (h : P := by unfold maxLen; simp) : P := h
theorem Ykj (h : P := by simp [blks, Value.ownBlock, e]) : P := h
theorem Ykk (h : P := by split <;> omega) : P := h
theorem Ynn (h : P := by simp [h]) : P := h
theorem Yno (h : P := by simp at hx; simp [hx]) : P := h
theorem Ykl (h : P := by simp [hk]) : P := h
theorem Ykm (h : P := by unfold bF; omega) : P := h
theorem Ykn (h : P := by unfold bD; omega) : P := h
theorem Yko (h : P := by simpa [blks, Value.ownBlock] using hb) : P := h
theorem Ykp (h : P := by exact fun nx => by kernel_rfl) : P := h
theorem Ykq (h : P := by unfold maxLen; simp; omega) : P := h
theorem Ykr (h : P := by simpa using hbq) : P := h
theorem Yks (h : P := by simpa using hb) : P := h
end
end Go.Rf
