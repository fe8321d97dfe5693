/-
  Names for what is repeated.
-/
import Derived.Test.YtggmccicdhnkgaaGreatVAl
import Derived.WalkKit
import Derived.ProofKit
import Derived.OrdersHeld
import Derived.Laws.IdiomStrings
import Derived.Laws.BytesArg
import Derived.KernelRfl
import Derived.Laws.OwnMore
set_option linter.all false
namespace Go.Rf
abbrev zS : Value := .slice none 0 0
abbrev zI : Value := .int .i64 0
abbrev iV (n : Int) : Value := .int .i64 n
theorem aP {α : Type _} (a : α) : ∃ x, x = a := ⟨a, rfl⟩
def Ix (_ : Nat) : Prop := True
structure Hd (Q : Prop) : Prop where
  o : Q
section
variable {P Q R : Prop}
theorem dqx (h : P := by intro u hu; (first | (apply JfD; conv => lhs; whnf) | exact NK rfl | exact JbO rfl | exact Jh9 rfl | exact Jh8 rfl | exact Jia rfl rfl (IntWalk.i64_in _ ab) | exact Jfy rfl rfl (IntWalk.i64_in _ ab) | exact JaQ rfl (IntWalk.u64_in _ ab) | exact JaQ rfl (IntWalk.i64_in _ ab) | exact W9 rfl rfl (SN ab) | exact W9 rfl rfl (SG ab) | exact Zd rfl rfl (SN ab) | exact Zd rfl rfl (SG ab) | exact WZ rfl rfl (SN ab) | exact WZ rfl rfl (SG ab) | exact Z8 rfl rfl (SN ab) | exact Z8 rfl rfl (SG ab) | exact Z9 rfl rfl (SN ab) | exact Z9 rfl rfl (SG ab) | exact L9 rfl rfl (SN ab) | exact L9 rfl rfl (SG ab) | (apply JfC; exact rfl; conv => lhs; whnf) | exact Jao rfl rfl | exact Qs rfl rfl rfl ab rfl | exact Mc rfl | exact J7 rfl (aG.cell (aG.tr0 gi hu) rfl) | exact J7 rfl (Cells.get (Cells.tr0 gi hu) rfl) | exact Kv rfl (Cells.tr0 gi hu) fD | exact Kv rfl (Cells.VO (aG.tr0 gi hu)) fD | exact ZJ rfl (Cells.tr0 gi hu) fD | exact NM rfl (aG.tr0 gi hu) fD | exact J7 rfl (Cells.get hu rfl) | exact Kv rfl hu fD | exact ZJ rfl hu fD | exact J7 rfl (Cells.get hu.1 rfl) | exact Kv rfl hu.1 fD | exact ZJ rfl hu.1 fD | exact J7 rfl (Cells.get hu.2 rfl) | exact Kv rfl hu.2 fD | exact ZJ rfl hu.2 fD | exact J7 rfl (aG.cell hu.2 rfl) | exact Kv rfl (Cells.VO hu.2) fD | exact NM rfl hu.2 fD)) : P := h
theorem Ya (h : P := by
 repeat' (first
  | exact Vh ⟨rfl, rfl, rfl, rfl, rfl, rfl, rfl, ai⟩
  | (refine Jg (U1 q _ _ ai.1) ?_; rintro _ ⟨a7, bW⟩; have ai := ai.step ah a7 bW; have hB := ai.2.2; clear a7 bW; refine rx ?_)
  | (refine aT (U5 _ _ _ _ _ _) rfl ?_; rintro _ _ ⟨⟨rb, rfl⟩, bW⟩; refine ⟨_, rfl, ?_⟩; have ai := ai.step0 bW; have hB := ai.2.2; clear bW; cases rb <;> refine rx ?_)
  | (refine aT (U6 _ _ _ _ _ _ _ _ _ _ _ _ _ _) rfl ?_; rintro _ _ ⟨⟨rb, rfl⟩, bW⟩; refine ⟨_, rfl, ?_⟩; have ai := ai.step0 bW; have hB := ai.2.2; clear bW; cases rb <;> refine rx ?_)
  | (refine aT (Nl _ _ _ _ _ _ _ _ _ _ _ _ _) rfl ?_; rintro _ _ ⟨⟨rb, rfl⟩, bW⟩; refine ⟨_, rfl, ?_⟩; have ai := ai.step0 bW; have hB := ai.2.2; clear bW; cases rb <;> refine rx ?_)
  | (first | refine Vg rfl rfl (fun _ => ?_) (fun _ => ?_) | refine Vd rfl rfl (fun _ => ?_) (fun _ => ?_) | refine QZ rfl rfl (fun _ => ?_) (fun _ => ?_) | refine Vt rfl rfl (fun _ => ?_) (fun _ => ?_) | refine Ve rfl rfl (fun _ => ?_) (fun _ => ?_) | refine Vf rfl rfl (fun _ => ?_) (fun _ => ?_) | refine QB rfl rfl (fun _ => ?_) (fun _ => ?_) | refine Qv rfl rfl (fun _ => ?_) (fun _ => ?_)) <;> refine rx ?_)) : P := h
theorem Yb (h : P := by
 have hS := hS.Jb hf
 clear hf
 refine ft ?_
 refine Kw 13 hS ?_ (v := .agg (([.string nm, iV (d.checks.length : Nat), .slice mr rl.length cr, zI, zI, zI, zI, .slice (some ⟨bC, 0, none⟩) nc nc, .map (some bB), .map (some bP)])).toArray) (aw := by (intro u hu; exact QU (([.string nm, iV (d.checks.length : Nat), .slice mr rl.length cr, zI, zI, zI, zI, .slice (some ⟨bC, 0, none⟩) nc nc, .map (some bB), .map (some bP)])) fD))
 (refine JJ (i := 14) rfl az ?_)
 obtain ⟨bQ, hbQ⟩ := aP u.heap.size
 refine Gg (l := [.string nm, iV (d.checks.length : Nat), .slice mr rl.length cr, zI, zI, zI, zI, .slice (some ⟨bC, 0, none⟩) nc nc, .map (some bB), .map (some bP)]) rfl rfl (fun u5 pJ aO eV => ?_)
 rw [<- hbQ] at pJ ⊢
 have fP := hS.Jb aO
 refine wpList_nil (Jv fP ?_)
 (refine JJ (i := 15) rfl az ?_; refine rx ?_; refine Jv fP ?_)
 (refine JJ (i := 16) rfl az ?_; refine rx ?_; refine Jv fP ?_)
 refine gK ?_
 have idR := hS.size
 refine JK a6 ⟨bQ, _, _, rfl, rfl, Jkc (P := ⟨nm, d.checks.length, d.classes.length, JM eO (KX ds nm)⟩) (n := nc) kY.symm pJ (by simp only [<- k7]; exact hR.tr0 aO) (hC.tr0 aO) (hB.tr0 aO) (hP.tr0 aO) yL qE ab ab ab ab ab ab ab, fun x hx => ?_, bq.Jb fP⟩
 simp only [SE, SC, S9, CU] at hx
 rcases hx with ((rfl | rfl | rfl) | hx) | hx
 .omega
 .omega
 .omega
 .have := qE x hx; omega
 .have := yL x hx; omega) : P := h
theorem Yc (h : P := by
 clear hf
 refine ft ?_
 refine JJ (i := 20) rfl az ?_
 .obtain ⟨n20, id1⟩ := aP u.heap.size
  refine JC hE rfl (Jfd (o := 4) ((bJ.tr0 hS)) (ys := Vk [s.o 0, s.o 1, s.o 2]) (fun j u hj => by match j, hj with | 0, hj => exact hj | 1, hj => exact hj | 2, hj => exact hj | j + 3, hj => simp [Vk] at hj)) rfl rfl (WX _) dt ab (fun vo1 u hO hf hkO _ => ?_)
  rw [CO, Di] at hO
  have hS : Fr [] w1 u := hS.trans hf (fun x hx => .inr (by have := su x hx; omega))
  have hOi : ∀ x ∈ ag vo1, w1.heap.size <= x /\ x < u.heap.size /\ (x < n20 -> x ∈ ag (Value.slice (some ⟨bE, 0, none⟩) 0 0)) := fun x hx => ⟨(hkO x hx).elim (fun h => by have := su x h; omega) kX, hO.lt x hx, fun h1 => (hkO x hx).elim id kX⟩
  have hC := hC.tr hf Yiv
  have hB := hB.tr hf (fun hm => by have := su _ hm; omega)
  have hz := hf.size
  clear hf
  refine ft ?_
  obtain ⟨YC, YD, rfl⟩ := hC.slice
  obtain ⟨ek, YE, rfl⟩ := hO.slice
  refine Kw 21 hS ?_ (v := .agg (([iV (s.runs : Nat), zS, iV (mp.length : Nat), .slice YC s.cls.length YD, .slice ek 3 YE])).toArray) (aw := by (intro u hu; exact QU (([iV (s.runs : Nat), zS, iV (mp.length : Nat), .slice YC s.cls.length YD, .slice ek 3 YE])) fD))
  (refine JJ (i := 23) rfl az ?_)
  exact Ydr) : P := h
theorem Yd (h : P := by
 refine rx ?_
 repeat' (first
  | exact JK a6 gi | exact wpList_nil (JK a6 gi)
  | (refine Jg (U1 q _ _ ai.1) ?_; rintro _ ⟨a7, bW⟩; have ai := ai.step ah a7 bW; have hB := ai.2.2; clear a7 bW; refine rx ?_)
  | (refine Jg (Vo q _ 0 _ ai.1) ?_; rintro _ ⟨a7, bW⟩; have ai := ai.step ah a7 bW; have hB := ai.2.2; clear a7 bW; refine rx ?_)
  | (refine Jg (Vo q _ 1 _ ai.1) ?_; rintro _ ⟨a7, bW⟩; have ai := ai.step ah a7 bW; have hB := ai.2.2; clear a7 bW; refine rx ?_)
  | (refine Jg (Gw q _ _ _ ai.1) ?_; rintro _ ⟨a7, bW⟩; have ai := ai.step ah a7 bW; have hB := ai.2.2; clear a7 bW; refine rx ?_)
  | (refine Jg (MF q _ _ ai.1 ab) ?_; rintro _ ⟨a7, bW⟩; have ai := ai.step ah a7 bW; have hB := ai.2.2; clear a7 bW; refine rx ?_)
  | (refine aT (Jc7 _ _ _ _ _ _ _ _ _ _ _ _ _ _ _ _ _ ) rfl ?_; rintro _ _ ⟨⟨rb, rfl⟩, bW⟩; refine ⟨_, rfl, ?_⟩; have ai := ai.step0 bW; have hB := ai.2.2; clear bW; cases rb <;> refine rx ?_)
  | (refine aT (JjX _ _) rfl ?_; rintro _ _ ⟨⟨rk, yd, rfl⟩, bW⟩; refine ⟨_, rfl, ?_⟩; have ai := ai.step0 bW; have hB := ai.2.2; clear bW; refine rx ?_)
  | (refine JbG rfl rfl ?_; refine rx ?_)
  | (obtain ⟨y1, y2, y3, hQ⟩ := ai.1; refine rx ?_; ((with_reducible apply Ji); exact rfl; (conv => lhs; whnf); exact rfl; exact hQ; exact rfl); intro wq hQ Tx hsq; have ai := ai.step ah ⟨_, _, _, hQ⟩ Tx; have hB := ai.2.2; refine rx ?_)
  | (first | refine Vg rfl rfl (fun _ => ?_) (fun _ => ?_) | refine Vd rfl rfl (fun _ => ?_) (fun _ => ?_) | refine QZ rfl rfl (fun _ => ?_) (fun _ => ?_) | refine Vt rfl rfl (fun _ => ?_) (fun _ => ?_) | refine Ve rfl rfl (fun _ => ?_) (fun _ => ?_) | refine Vf rfl rfl (fun _ => ?_) (fun _ => ?_) | refine QB rfl rfl (fun _ => ?_) (fun _ => ?_) | refine Qv rfl rfl (fun _ => ?_) (fun _ => ?_)) <;> refine rx ?_)) : P := h
theorem Ye (h : P := by
 (refine JJ (i := 23) rfl az ?_)
 exact Ydr) : P := h
theorem Yf (h : P := by
 refine rx ?_
 repeat' (first
  | exact JK a6 gi | exact wpList_nil (JK a6 gi)
  | (refine Jg (U1 q _ _ ai.1) ?_; rintro _ ⟨a7, bW⟩; have ai := ai.step ah a7 bW; have hB := ai.2.2; clear a7 bW; refine rx ?_)
  | (refine Jg (Vo q _ 0 _ ai.1) ?_; rintro _ ⟨a7, bW⟩; have ai := ai.step ah a7 bW; have hB := ai.2.2; clear a7 bW; refine rx ?_)
  | (refine Jg (Vo q _ 1 _ ai.1) ?_; rintro _ ⟨a7, bW⟩; have ai := ai.step ah a7 bW; have hB := ai.2.2; clear a7 bW; refine rx ?_)
  | (refine Jg (MF q _ _ ai.1 ab) ?_; rintro _ ⟨a7, bW⟩; have ai := ai.step ah a7 bW; have hB := ai.2.2; clear a7 bW; refine rx ?_)
  | (first | refine Vg rfl rfl (fun _ => ?_) (fun _ => ?_) | refine Vd rfl rfl (fun _ => ?_) (fun _ => ?_) | refine QZ rfl rfl (fun _ => ?_) (fun _ => ?_) | refine Vt rfl rfl (fun _ => ?_) (fun _ => ?_) | refine Ve rfl rfl (fun _ => ?_) (fun _ => ?_) | refine Vf rfl rfl (fun _ => ?_) (fun _ => ?_) | refine QB rfl rfl (fun _ => ?_) (fun _ => ?_) | refine Qv rfl rfl (fun _ => ?_) (fun _ => ?_)) <;> refine rx ?_)) : P := h
theorem Yg (h : P := by
 refine rx ?_
 refine Jh 4 [] (σ := Nat × Value) (fun s g y => g 19 = iV (Qx e) /\ g 20 = iV s.1 /\ s.1 <= Qx e /\ aG y q [s.2] tq /\ BO w0 50 y (acc ++ (List.range s.1).map (fun (i : Nat) => (⟨nm, e.at_, (i : Int)⟩ : Br))) s.2 /\ (∀ x ∈ ag s.2, x ∉ Z) /\ FZ Z u y /\ Fr [q] w0 y /\ u.heap.size <= y.heap.size) (fun s => Qx e - s.1) (0, v) ⟨by rw [ha]; first | rfl | (rw [fJ]; rfl) | simp [fJ], rfl, SL _, gJ, by simpa using hL, tX, hZ0, eG, SX _⟩ ?_
 clear hL gJ tX hZ0
 rintro ⟨i, v⟩ g y ⟨g1, g2, hi, gJ, hL, tX, hZy, hFy, hsy⟩
 simp only at g1 g2 hi hL gJ tX
 rw [Ja g1, Ja g2]
 clear g1 g2
 by_cases aC : i < Qx e
 case neg =>
  refine rx ?_
  have ei : i = Qx e := by omega
  subst ei
  exact WI rfl ⟨rfl, ⟨v, gJ, hL, tX, Tw, fun x hx => by have := qP x hx; omega⟩, hZy, hFy⟩
 refine rx ?_
 (refine Kr 11 (fun z => aG z q [v] tq /\ (Cells z a [iV e.kind, .string e.name, iV e.n, .slice a1 (e.names.map JV).length c1, s2, s3, iV e.at_] /\ aG z b dc td)) az rfl ?_)
 obtain ⟨y1, yZ⟩ := aP y.drew
 rw [<- yZ]
 have aj : Fr [] y y1 := yZ ▸ Fr.drew _ _
 have ej := hFy.Jb aj
 have hL := hL.tr0 aj
 have gJ := gJ.tr0 aj
 have hS := And.intro gJ (And.intro (hc.tr ej υ) (ln.tr ej Ah))
 have bh := aj.size
 (refine Jp 0 hS ?_ (aw := (by intro u hu; exact (J7 rfl (aG.cell hu.1 rfl)))))
 ((refine Jp 1 hS ?_))
 (refine Jp 2 hS ?_ (aw := (by intro u hu; exact (J7 rfl (aG.cell hu.2.2 lm)))))
 ((refine Jp 3 hS ?_); (refine Jp 4 hS ?_); (refine Jp 5 hS ?_))
 (refine Jp 6 hS ?_ (aw := (by intro u hu; exact (J7 rfl (Cells.get hu.2.1 rfl)))))
 ((refine Jp 7 hS ?_))
 (refine Jp 8 hS (aw := (by (intro u hu; exact QU ([.string nm, iV e.at_, iV i]) fD))) ?_)
 (refine KH (i := 9) rfl az ?_)
 refine JQ rfl rfl rfl (fun y2 q2 nv ho aq cz => ?_)
 have aS := ej.Jb aq
 have hL := hL.tr0 aq
 have gJ := gJ.tr0 aq
 have hS := And.intro gJ (And.intro (hc.tr aS υ) (ln.tr aS Ah))
 refine yD ?_
 refine tR ?_
 have hlen : (acc ++ (List.range i).map (fun (i : Nat) => (⟨nm, e.at_, (i : Int)⟩ : Br))).length = acc.length + i := by simp
 obtain ⟨hLo, hLb⟩ := hL
 refine JC hLo rfl ho.src rfl rfl (Jbn [⟨nm, e.at_, i⟩]) dt ab (fun v3 y3 pw aF lg _ => ?_)
 have dO := aF.size
 have R4 : q ∉ ag v := fun h => by have := hLb _ h; omega
 have aV : Fr [q] w0 y3 := aS.trans aF (fun x hx => .inr (hLb x hx))
 have hZ3 : FZ Z u y3 := ((hZy.trans (.of0 aj)).trans (.of0 aq)).trans ⟨_, aF, tX⟩
 have gJ := gJ.tr aF R4
 have hS := And.intro gJ (And.intro (hc.tr aV υ) (ln.tr aV Ah))
 have aN : BO w0 50 y3 (acc ++ (List.range (i + 1)).map (fun (i : Nat) => (⟨nm, e.at_, (i : Int)⟩ : Br))) v3 := by
  refine ⟨?_, fun x hx => (lg x hx).elim (hLb x) kX⟩
  rw [Fv, Dp, <- List.append_assoc, List.flatMap_append, Sm]
  exact pw
 have id2 : ∀ x ∈ ag v3, x ∉ Z := fun x hx hm => (lg x hx).elim (fun h => tX x h hm) (fun h => by have := qP x hm; omega)
 have jI := aN.1.one
 refine yD ?_
 refine YY ?_
 ((with_reducible apply Ji); exact rfl; (conv => lhs; whnf); exact jI; exact gJ; exact rfl)
 intro y4 gJ aI eA
 replace gJ : aG y4 q [v3] tq := gJ
 refine kE ?_
 have id3 : ∀ x ∈ ag v3, x ∉ [q] := fun x hx hm => by have := aN.2 x hx; rw [Sv.1 hm] at this; omega
 refine rx ?_
 refine Jc (i + 1, v3) a6 ⟨rfl, rfl, aC, gJ, ⟨aN.1.tr aI id3, aN.2⟩, id2, hZ3.trans ⟨_, aI, fun x hx => by rw [Sv.1 hx]; exact Tw⟩, aV.trans aI (fun x hx => .inl hx), by omega⟩ eM) : P := h
theorem Yh (h : P := by
 clear ai hB
 rintro g u ⟨g0, g3, g4, g5, g6, g7, g8, ai⟩
 rw [Ja g0, Ja g3, Ja g4, Ja g5, Ja g6, Ja g7, Ja g8]
 clear g0 g3 g4 g5 g6 g7 g8
 have hB := ai.2.2
 refine rx ?_
 repeat' (first
  | exact WI rfl ⟨rfl, ai.1, ai.2.1⟩
  | (refine Jg (U1 q _ _ ai.1) ?_; rintro _ ⟨a7, bW⟩; have ai := ai.step ah a7 bW; have hB := ai.2.2; clear a7 bW; refine rx ?_)
  | (refine aT (U5 _ _ _ _ _ _) rfl ?_; rintro _ _ ⟨⟨rb, rfl⟩, bW⟩; refine ⟨_, rfl, ?_⟩; have ai := ai.step0 bW; have hB := ai.2.2; clear bW; cases rb <;> refine rx ?_)
  | (refine aT (U6 _ _ _ _ _ _ _ _ _ _ _ _ _ _) rfl ?_; rintro _ _ ⟨⟨rb, rfl⟩, bW⟩; refine ⟨_, rfl, ?_⟩; have ai := ai.step0 bW; have hB := ai.2.2; clear bW; cases rb <;> refine rx ?_)
  | (refine aT (Nl _ _ _ _ _ _ _ _ _ _ _ _ _) rfl ?_; rintro _ _ ⟨⟨rb, rfl⟩, bW⟩; refine ⟨_, rfl, ?_⟩; have ai := ai.step0 bW; have hB := ai.2.2; clear bW; cases rb <;> refine rx ?_)
  | (first | refine Vg rfl rfl (fun _ => ?_) (fun _ => ?_) | refine Vd rfl rfl (fun _ => ?_) (fun _ => ?_) | refine QZ rfl rfl (fun _ => ?_) (fun _ => ?_) | refine Vt rfl rfl (fun _ => ?_) (fun _ => ?_) | refine Ve rfl rfl (fun _ => ?_) (fun _ => ?_) | refine Vf rfl rfl (fun _ => ?_) (fun _ => ?_) | refine QB rfl rfl (fun _ => ?_) (fun _ => ?_) | refine Qv rfl rfl (fun _ => ?_) (fun _ => ?_)) <;> refine rx ?_)) : P := h
theorem Yi (h : P := by
 refine rx ?_
 refine Jh 8 [5, 7] (σ := Nat × Value) (fun s g u => g 7 = iV s.1 /\ g 5 = s.2 /\ s.1 <= Qx e /\ BO w1 50 u ((List.range s.1).map (fun (i : Nat) => (⟨nm, e.at_, (i : Int)⟩ : Br))) s.2 /\ Fr [] w1 u) (fun s => Qx e - s.1) (0, _) ⟨rfl, rfl, SL _, BO.nil, Fr.refl _ _⟩ ?_
 rintro ⟨i, v⟩ g u ⟨g1, g2, hi, hL, hF⟩
 simp only at g1 g2 hi hL
 rw [Ja g1, Ja g2]
 clear g1 g2
 have cI := hF.size
 have hb := bJ.tr0 hF
 by_cases aC : i < Qx e
 case pos =>
  refine rx ?_
  refine JF [.string nm, iV e.at_, iV i] rfl ?_
  refine JQ rfl rfl rfl (fun u1 q hq ho aO eV => ?_)
  have hL := hL.tr0 aO
  have hF := hF.Jb aO
  have hlen : ((List.range i).map (fun (i : Nat) => (⟨nm, e.at_, (i : Int)⟩ : Br))).length = i := by simp
  refine Bj (al := [⟨nm, e.at_, i⟩]) (m := 1) hL rfl rfl rfl ho.src dt ab ab (fun v3 u3 hL fv => ?_)
  have hF := fv _ hF
  refine rx ?_
  refine Jc (i + 1, v3) a6 ⟨rfl, rfl, aC, ?_, hF⟩ eM
  simp only
  rw [Fv, Dp]
  exact hL
 have ei : i = Qx e := by omega
 subst ei
 have hL : BO w1 50 u (Xi nm e) v := hL
 refine rx ?_
 refine Jh 9 [5, 8] (σ := Nat × Value) (fun s g u => g 8 = iV s.1 /\ g 5 = s.2 /\ s.1 <= e.kids.length /\ BO w1 50 u (Xi nm e ++ (e.kids.take s.1).flatMap (rZ nm)) s.2 /\ Fr [] w1 u) (fun s => e.kids.length - s.1) (0, _) ⟨rfl, rfl, SL _, by simpa using hL, hF⟩ ?_
 clear hL hF hi aC
 rintro ⟨i, v⟩ g u ⟨g1, g2, hi, hL, hF⟩
 simp only at g1 g2 hi hL
 rw [Ja g1, Ja g2]
 clear g1 g2
 have cI := hF.size
 have hb := bJ.tr0 hF
 by_cases aC : i < e.kids.length
 case neg =>
  refine bM ?_
  rw [SQ ab, <- sX] at hL
  exact ⟨_, rfl, ⟨hL.1, fun b hb => by have := hL.2 b hb; omega⟩, aj.Jb hF⟩
 obtain ⟨ad, gU, bi, hr, hc⟩ := DR.at Jq (hk.tr0 hF) aC
 subst bi
 have gY := hr
 obtain ⟨x1, x2, x3, rfl, eu, qO, mg⟩ := fW.1 hr
 have hg := WA aC
 have hlen := WJ e.kids (rZ nm) (i + 1)
 rw [KP aC, Sm] at hlen
 have iT : (Xi nm e ++ (e.kids.take i).flatMap (rZ nm)).length = Qx e + ((e.kids.take i).flatMap (rZ nm)).length := by rw [Sm, GY]
 refine rx ?_
 refine Jl (ih e.kids[i] ab nm ab _ u S gY) ?_
 rintro v2 u2 ⟨fl, aq⟩
 have hL := hL.tr0 aq
 have hF := hF.Jb aq
 have cz := aq.size
 refine rx ?_
 refine Bj (al := rZ nm e.kids[i]) hL rfl rfl rfl fl.1.src dt ab ab (fun v3 u3 hL fv => ?_)
 have hF := fv _ hF
 exact Ydy) : P := h
theorem Yj (h : P := by
 have hM7 := hM3.tr0 pf
 have ibv := ib3.tr0 pf
 have TO := hQ3.tr0 pf
 have ed := aV.Jb pf
 have hZ7 := hZ3.trans (.of0 pf)
 have igk := pf.size
 rcases fS with ⟨hn, rfl⟩ | ⟨d, hsd, rfl, sg⟩
 .have he : Xy ds s e = (s.1 ++ [e.name], s.2) := by unfold Xy sZ; rw [Cb h3, SH (by rw [mD]; simp), hn]
  rw [he] at pN ⊢
  refine rx ?_
  exact WI rfl ⟨rfl, ⟨hM7, ⟨v, ibv, TO, hvT, tX, ψ, uV⟩, hmZ, Tw, fun x hx => by have := qP x hx; omega, pN⟩, hZ7, ed⟩
 .have he : Xy ds s e = (s.1 ++ [e.name], s.2 ++ [d]) := by unfold Xy sZ; rw [Cb h3, SH (by rw [mD]; simp), hsd]
  rw [he] at pN ⊢
  obtain ⟨xs, hw, hr⟩ := TO
  refine rx ?_
  refine KE rfl TE zC ?_
  refine rx ?_
  refine JQ (c1 := s4) rfl zC rfl (fun u8 qq gz ho8 aM fL => ?_)
  refine rx ?_
  refine Jeq (hw.tr0 aM) rfl ho8.src rfl (by rw [zC]) jo dt ab (fun v' u9 sC aW AM => ?_)
  have ju := aW.size
  have wH : ∀ x ∈ ag v', x ∈ ag v \/ u7.heap.size <= x := fun x hx => (AM x hx).imp id kX
  have ibw : ql ∉ ag v' := fun h => (wH _ h).elim uV kX
  have id4 : mb ∉ ag v' := fun h => (wH _ h).elim ψ kX
  have hM9 := (hM7.tr0 aM).tr aW ψ
  have id5 := (ibv.tr0 aM).tr aW uV
  have jI : v'.oneCell' = true := by obtain ⟨_, _, _, _, _, rfl, _⟩ := sC; rfl
  have eL : Fr T w0 u9 := (ed.Jb aM).trans aW (fun x hx => (hvT x hx).imp id (fun h => by have := ed.size; omega))
  have hZ9 : FZ Z u u9 := (hZ7.trans (.of0 aM)).trans ⟨_, aW, tX⟩
  refine rx ?_
  ((with_reducible apply Ji); exact rfl; (conv => lhs; whnf); exact jI; exact id5; exact rfl)
  intro lF wI aD eF
  replace wI : aG lF ql [v'] tq := wI
  refine rx ?_
  have hX : ∀ {dd : De} {cs : List Value}, RD u7 (S ++ ag v ++ ag v') (eR dd) cs -> RD lF (S ++ ag v') (eR dd) cs := fun hd => by
   have h1 := (hd.tr0 aM).old aW (fun b hb => .inl lr)
   have h2 := h1.mono (T := S ++ ag v') (fun b hb => .inl (by rcases SE.1 hb with h | h <;> simp [h]))
   exact h2.old aD (fun b hb => .inl (by rw [Sv.1 hb]; exact SA _ (zA _ hqT)))
  have j1 : ∀ x ∈ ag v', x ∈ S ++ ag v \/ u7.heap.size <= x := fun x hx => (wH x hx).imp (fun h => by simp [h]) id
  refine WI rfl ⟨rfl, ⟨hM9.tr aD (by simpa using φ), ⟨v', wI, ⟨xs ++ s4, ?_, ?_⟩, fun x hx => ?_, fun x hx hm => ?_, id4, ibw⟩, hmZ, Tw, fun x hx => by have := qP x hx; omega, pN⟩, hZ9.trans ⟨_, aD, fun x hx => by rw [Sv.1 hx]; exact Tw⟩, eL.trans aD (fun x hx => .inl (by rw [Sv.1 hx]; exact hqT))⟩
  .rw [Sm, Dx]
   exact sC.tr aD (fun x hx hm => ibw qw)
  .have h1 : ∀ b ∈ S ++ ag v ++ ag v', b ∈ S ++ ag v \/ u7.heap.size <= b := fun b hb => (SE.1 hb).elim .inl (j1 b)
   have h2 : ∀ b ∈ S ++ ag v ++ ag v', b ∈ rg u3 \/ u7.heap.size <= b := fun b hb => (h1 b hb).imp (fun h => by
    rw [Jk]
    rcases SE.1 h with h | h
    .have := uU b h; have := aV.size; omega
    .have := pM b h; omega) id
   exact (hr.imp (fun dd cs _ h => hX (h.mono h1))).app (Rws.one (hX (sg.mono h2)))
  .exact (wH x hx).elim (hvT x) (fun h => .inr ab)
  .exact (wH x hx).elim (fun h => tX x h hm) (fun h => by have := qP x hm; omega)) : P := h
theorem Yk (h : P := by
 refine tH ?_
 (refine Jp 7 (And.intro trivial aH) (aw := (by (intro u hu; exact QU ([iV 6, .string (aA t.text), zS, .slice (some ⟨k4, 0, none⟩) 1 1, .slice (some ⟨k6, 0, none⟩) 1 1, iV (bj n r)]) fD))) ?_)
 have PN : RD gl (a :: rg w2) (eX ⟨6, aA t.text, [], [e2], [e], bj n r⟩) [iV 6, .string (aA t.text), zS, .slice (some ⟨k4, 0, none⟩) 1 1, .slice (some ⟨k6, 0, none⟩) 1 1, iV (bj n r)] :=
  me.2 ⟨_, _, _, rfl, .nil, GR (rows := [aU e2]) jA (.one (dV.mono (fun b hb => .inl y0))) (by simp [Jq]) ap y5, GR (rows := [eX e]) tA (.one hd) (by simp [KG]) ap y5⟩
 refine Tj ?_
 refine Jd (cs := [iV 6, .string (aA t.text), zS, .slice (some ⟨k4, 0, none⟩) 1 1, .slice (some ⟨k6, 0, none⟩) 1 1, iV (bj n r)]) rfl rfl aH dQ hl rfl (fun jv aH aL ia => ?_)
 (have et := dX.tr aL aZ; have cn := cj.trans aL (fun x hx => .inr bt))
 (have ah := ah.tr aL ak)
 have hd := PN.old aL ap
 refine kE ?_
 refine rx ?_
 exact Jc (f', _, r5) la ⟨by simp only; omega, et, cn, by omega, ah, ⟨_, aH, hd⟩, gb⟩ eM) : P := h
theorem RU (h : P := by
 refine gK ?_
 exact JK a6 ⟨by rw [(show Gt P.checks r = false from SG (fun h => by obtain ⟨x1, x2, x3, x4, x5⟩ := h; omega))]; rfl, hS⟩) : P := h
theorem Yl (h : P := by
 clear ij ho jd hm aS
 rintro ⟨xs, left, eS, v⟩ g u ⟨g3, ij, ho, hp, jd, hF⟩
 simp only at g3 ij ho hp jd
 rw [Ja g3]
 have cI := hF.size
 have k7 := ij.lt
 have lO : w.heap.size <= r := s6
 have pj := hp.length_eq
 simp only [Sm, Sr] at pj
 refine rx ?_
 refine Θ rfl ij (fun h0 => ?_) (fun a av gN u3 qR kO aF dO => ?_)
 .have hk := LC h0 hp
  have iJ : xs.Nodup := hk.nodup_iff.2 ij.mp.nd
  refine rx ?_
  refine Jg (Jiw xs v u ho ab) ?_
  rintro u4 ⟨jA, aI⟩
  refine bM ?_
  rw [V5 Qu iJ (m := m.map Prod.fst) (fun y => hk.mem_iff)] at jA
  have pR : xs.length = (JM eO (m.map Prod.fst)).length := by rw [<- V5 Qu iJ (m := m.map Prod.fst) (fun y => hk.mem_iff), He]
  rw [pR] at jA
  exact ⟨v, rfl, ⟨jA, fun x hx => by have := (jd x hx).1; omega⟩, hF.trans aI (fun x hx => .inr (by have := (jd x hx).1; omega))⟩
 .have aV : Fr [] w u3 := hF.trans aF (fun x hx => .inr bt)
  have pw := ho.tr aF (fun x hx hm => (jd x hx).2 (by rw [Sv.1 hm]))
  have lq := qR.length_eq
  simp only [SI] at lq
  refine rx ?_
  refine JbH rfl kO ?_
  refine rx ?_
  refine Jm (l := [zT, zI, zI]) rfl (fun u4 bv gJ tt aI eA => ?_)
  refine rx ?_
  refine Jd (cs := dH a) rfl rfl tt (QD a) rfl rfl (fun u5 tu aO eV => ?_)
  replace tu : aG u5 bv [.string a.decl, iV a.at_, iV a.arm] _ := tu
  have hvo : ∀ x ∈ ag v, x ∉ [bv] := fun x hx hm => by have := pw.lt x hx; rw [Sv.1 hm] at this; omega
  have kt := (pw.tr0 aI).tr aO hvo
  have ibx := (kO.tr0 aI).tr aO (by have := kO.mp.lt; simp; omega) aZ
  have bX : Fr [] w u5 := (aV.Jb aI).trans aO (fun x hx => .inr bt)
  refine rx ?_
  refine JQ (c1 := dH a) rfl rfl rfl (fun u6 q6 yh tA aJ fm => ?_)
  refine rx ?_
  refine JC (kt.tr0 aJ) rfl tA.src rfl rfl (QD a) dt ab (fun v7 u7 ho7 aQ sw _ => ?_)
  refine rx ?_
  exact Ydu) : P := h
theorem Ym (h : P := by
 refine rx ?_
 refine Ju (l := fK a) rfl rfl (fun w1 p hp h1 aj bh => ?_)
 replace h1 : aG w1 p [.string a.1.decl, iV a.1.at_, iV a.1.arm, .string a.2.decl, iV a.2.at_, iV a.2.arm] _ := h1
 refine rx ?_
 refine Ju (l := fK b) rfl rfl (fun w2 q hq h2 aq cz => ?_)
 replace h2 : aG w2 q [.string b.1.decl, iV b.1.at_, iV b.1.arm, .string b.2.decl, iV b.2.at_, iV b.2.arm] _ := h2
 have h1 := h1.tr0 aq
 have aS := aj.Jb aq
 refine rx ?_
 (refine JE (fun z => Fr [] w2 z) az rfl ?_)
 obtain ⟨u, hu⟩ := aP w2.drew
 rw [<- hu]
 have hS : Fr [] w2 u := hu ▸ Fr.drew _ _
 refine Kw 0 hS ?_ (aw := by (intro u hu; exact (QV (j := 0) rfl rfl bU)))
 (refine bH 1 hS ?_)
 refine Kw 2 hS ?_ (aw := by (intro u hu; exact (QV (j := 0) rfl rfl bU)))
 (refine bH 3 hS ?_)
 refine Kw 5 hS ?_ (aw := by (intro u hu; exact (QV (j := 1) rfl rfl bU)))
 (refine bH 6 hS ?_)
 refine Kw 7 hS ?_ (aw := by (intro u hu; exact (QV (j := 1) rfl rfl bU)))
 (refine bH 8 hS ?_)
 refine zw ?_
 refine Jg (Jgw a.1 b.1 u) ?_
 rintro u1 mo
 have tv := hS.Jb mo
 refine wpList_nil (Jv tv ?_)
 refine TC ?_
 refine Jg (Jgw a.2 b.2 u1) ?_
 rintro u2 Y8
 have fq := tv.Jb Y8
 refine yj ?_
 refine uW ?_
 refine J3 [iV (Qe a.1 b.1), iV (Qe a.2 b.2)] rfl rfl rfl rfl (fun u3 ho aF dO => ?_)
 have oE := fq.Jb aF
 refine wpList_nil (Jv oE ?_)
 refine zK ?_
 refine Jg (orC [Qe a.1 b.1, Qe a.2 b.2] _ u3 [] (Jgs ho ap)) ?_
 rintro _ rfl
 refine wpList_nil (Jv oE ?_)
 (refine JJ (i := 12) rfl az ?_; refine rx ?_; refine Jv oE ?_)
 refine gK ?_
 refine bM ?_
 refine ⟨?_, aS.Jb oE⟩
 unfold XB
 by_cases e1 : Qe a.1 b.1 = 0
 .by_cases e2 : Qe a.2 b.2 = 0 <;> simp [tZ, e1, e2]
 .simp [tZ, e1]) : P := h
theorem Yn (h : P := by
 refine rx ?_
 exact Ydu) : P := h
theorem Yo (h : P := by
 refine gZ ?_
 have : l = [] := Dj h0
 subst this
 exact ⟨_, rfl, .nil, Fr.refl _ _⟩) : P := h
theorem Yp (h : P := by
 have hF := fv _ hF
 exact Ydy) : P := h
theorem Yq (h : P := by
 refine JF (dH ⟨aA [111, 116, 104, 101, 114], n / 17 % 3, n / 51 % 2⟩) rfl ?_
 refine rx ?_
 refine JQ (c1 := dH ⟨aA [111, 116, 104, 101, 114], n / 17 % 3, n / 51 % 2⟩) rfl rfl rfl (fun u4 q4 mL jA aI eA => ?_)
 refine rx ?_
 refine JC (hB.1.tr0 aI) rfl jA.src rfl rfl (QD _) dt ab (fun v5 u5 kt aQ sw _ => ?_)
 have fP : Fr (ag (Value.slice iK i cb)) u u5 := (aI.mono ap).trans aQ (fun x hx => .inl hx)
 have lu := kt.one
 refine rx ?_
 ((with_reducible apply Ji); exact rfl; (conv => lhs; whnf); exact lu; exact (ez.tr fP gM); exact rfl)
 intro u6 kg aM fL
 replace kg : aG u6 kU [zI, zI, zI, v5, vl] 41 := kg
 exact Ydw) : P := h
theorem Yr (h : P := by
 refine rx ?_
 refine J3 [iV 3, iV at_, zI, .string (aA (b :: T'))] rfl rfl rfl rfl (fun z1 ef mo bh => ?_)
 refine rx ?_
 refine JC (cB.tr0 ((aL).Jb mo)) rfl ef.src rfl rfl dQ dt ab (fun v' z2 YF YG gJ _ => ?_)
 refine rx ?_
 refine Jg (JbC S (at_ + k) z2 ab hl) ?_
 rintro _ rfl
 refine rx ?_
 rw [ZK] at he
 exact Jc (f', at_ + k + Qm false (S.drop (at_ + k)), acc ++ [⟨3, at_, 0, b :: T'⟩], v') la ⟨rfl, rfl, RR, by simp only; omega, by simp only [Sm, Dx]; omega, he, by simpa [kh] using YF, fun q hq => by
  rcases gJ q hq with h | h
  .exact fv q h
  .have h1 := ((hf.Jb (aL)).Jb mo).size
   omega, ((hf.Jb (aL)).Jb mo).trans YG (fun q hq => .inr (fv q hq))⟩ eM) : P := h
theorem Ys (h : P := by
 (refine KH (i := 12) rfl az ?_)
 ((with_reducible apply Ji); exact rfl; (conv => lhs; whnf); exact rfl; exact (wa.tr0 hS); exact rfl)
 intro u2 rc aI eA
 refine kE ?_
 exact JK a6 ⟨(hS.mono ap).trans aI (fun x hx => .inl hx), rc⟩) : P := h
theorem Yt (h : P := by exact Jc (k + 1) la ⟨rfl, by omega, by omega, rfl⟩ ab) : P := h
theorem Yku (h : P := by
 (refine bH 45 hS ?_)
 refine gK ?_
 exact JK a6 ⟨by rw [(show Gt P.checks r = true from SN ⟨by omega, by omega, fun h => by omega, fun h => ⟨by omega, by omega⟩, by omega⟩)]; rfl, hS⟩) : P := h
theorem Yu (h : P := by
 refine gK ?_
 refine bM ?_
 exact ⟨by rw [JdW (SG ab)], aV.Jb hS⟩) : P := h
theorem Yv (h : P := by
 rw [Cb ⟨rfl, c1⟩]
 obtain ⟨vb, vl, ez, hB, hC, jR, gM, uh, hF⟩ := hI
 have mG := hB.1.one
 have hC1 := hC.one
 refine rx ?_
 ((with_reducible apply Ji); exact rfl; (conv => lhs; whnf); exact rfl; exact ez; exact rfl)
 intro u7 Aq aQ iF
 refine rx ?_
 exact JK a6 ⟨vb, vl, Aq, ⟨hB.1.tr aQ (fun x hx hm => gM qw), hB.2⟩, hC.tr aQ (fun x hx hm => (jR x hx).2.1 (Sv.1 hm)), jR, gM, uh, hF.trans aQ (fun x hx => .inr RP)⟩) : P := h
theorem Yw (h : P := by
 refine rx ?_
 refine Gg rfl rfl (fun w1 bJ aj bh => ?_)
 (refine rx ?_; repeat' ((first | refine Vg rfl rfl (fun h => ?_) (fun h => ?_) | refine Vd rfl rfl (fun h => ?_) (fun h => ?_) | refine QZ rfl rfl (fun h => ?_) (fun h => ?_) | refine Vt rfl rfl (fun h => ?_) (fun h => ?_) | refine Ve rfl rfl (fun h => ?_) (fun h => ?_) | refine Vf rfl rfl (fun h => ?_) (fun h => ?_) | refine QB rfl rfl (fun h => ?_) (fun h => ?_) | refine Qv rfl rfl (fun h => ?_) (fun h => ?_) | refine WG rfl rfl (fun h => ?_) (fun h => ?_) | refine WY rfl rfl (fun h => ?_) (fun h => ?_)) <;> refine rx ?_))
 all_goals
  refine gZ ?_
  exact ⟨⟨_, rfl⟩, by assumption⟩) : P := h
theorem Yx (h : P := by
 have hb := CZ Addr.block e.1
 intro hk
 have := JjS _ hk
 simp only at hb
 omega) : P := h
theorem Yy (h : P := by
 try simp only at h
 have g1 := Qg h1 ha
 try simp only at h
 split at h
 .rename_i fO; have gc := JU fO g1.2.1
  obtain ⟨⟨x2, r2⟩, h2, h⟩ := Si.1 h
  try simp only at h
  have g2 := ih.exs h2 gc.1
  have l2 := g2.2.2
  simp only [Sj, Sz] at h; obtain ⟨rfl, rfl⟩ := h
  exact ⟨by simp only [mZ]; exact ⟨ga, g2.1⟩, g2.2.1, by simp only [wE, SY]; omega⟩
 .simp only [Sj, Sz] at h; obtain ⟨rfl, rfl⟩ := h
  exact ⟨by simp only [mZ, Qn, Eh]; exact ga, g1.2.1, by simp only [wE, fF, SY]; omega⟩) : P := h
theorem Yz (h : P := by exact fU.imp (fun x cs _ h => RD.mono h (fun k hk => .inl yB))) : P := h
theorem Ykv (h : P := by
 (refine bH 11 hS ?_)
 refine gK ?_
 refine JK a6 ⟨hS, ?_⟩
 simp only [Jke jO]
 rfl) : P := h
theorem Ykw (h : P := by
 refine gK ?_
 refine JK a6 ⟨hS, ?_⟩
 rw [ED ab]
 rfl) : P := h
theorem Yba (h : P := by
 simp only [hi']
 unfold wpList at h
 split
 .rename_i hw
  rw [Cb hw] at h
  rcases h with h | ⟨h1, a, w', h2⟩
  .refine .inl ?_
   unfold Oper.wp at h ⊢
   generalize (execOp (A n f).eval o).run P w = r at h ⊢
   cases r with
   | ok x w' =>
    cases x <;> simp only [Oper.upon] at h ⊢ <;> first | exact h | (refine Calls.mono h fun e w'' he => ?_; cases e <;> exact he) | exact Rows.mono h (fun _ _ he => he)
   | halt x w' => cases x <;> simp only [Oper.upon] at h ⊢ <;> exact h
  .exact .inr ⟨h1, a, w', h2⟩
 .rename_i hw
  rw [SH hw] at h
  exact h) : P := h
theorem Ybb (h : P := by
 refine rx ?_
 exact Pc) : P := h
theorem yi (h : P := by
 refine rx ?_
 exact Yeb) : P := h
theorem Ybd (h : P := by
 refine rx ?_
 refine Qc rfl rfl ea rfl ⟨_, rfl, (cH.old aY (Jf ab)).down ab, bq.trans aY (fun x hx => .inr bt)⟩) : P := h
theorem Ykx (h : P := by
 refine j5 ?_
 refine Jc (i + 1) a6 ⟨rfl, aC, fun j hj => ?_, hF.Jb hS⟩ ab
 exact Yli) : P := h
theorem YH (h : P := by
 refine bM ?_
 exact ⟨_, rfl, ho, hf⟩) : P := h
theorem Ybf (h : P := by
 refine Kz 19 hS ?_ (aw := by (intro u hu; exact (XP (p := false) underlying4 rfl rfl rfl)))
 (refine bH 20 hS ?_)
 refine j5 ?_
 exact JK a6 ⟨hS, SN ab⟩) : P := h
theorem Ybg (h : P := by exact ⟨v, rfl, ⟨jA, fun x hx => by have := (jd x hx).1; omega⟩, hF.trans aI (fun x hx => .inr (by have := (jd x hx).1; omega))⟩) : P := h
theorem Ybh (h : P := by
 refine Jc (i + 1) a6 ⟨rfl, aC, fun j hj => ?_, hF⟩ ab
 exact Yli) : P := h
theorem Ybi (h : P := by
 have l2 := g2.2
 obtain ⟨r3, h3, h⟩ := Si.1 h
 have g3 := Jr h3 g2.1
 simp only [Sj, Sz] at h; obtain ⟨rfl, rfl⟩ := h
 exact ⟨g3.1, by omega⟩) : P := h
theorem Ybj (h : P := by
 simp only [Sj, Sz] at h; obtain ⟨rfl, rfl⟩ := h
 exact ⟨g3.1, by omega⟩) : P := h
theorem Ybk (h : P := by
 intro hk
 have h1 := Jk.1 hk
 rcases cu ad.block zt with h | h
 .simp [ag, Value.ownBlock] at h; omega
 .have := aj.size; omega) : P := h
theorem Ybl (h : P := by
 have l9 := g9.2
 simp only [Sj, Sz] at h; obtain ⟨rfl, rfl⟩ := h
 exact ⟨g9.1, by omega⟩) : P := h
theorem Ybm (h : P := by
 refine rx ?_
 exact Yhg) : P := h
theorem Ybn (h : P := by
 (refine Jl (Va p 4 _ rO ab ab) ?_; rintro k1 w1 ⟨ee, fC, aj⟩; have ep : dg k1 ∈ rP := Wi ab; have fJ : (dg k1).length = 1 := rfl; refine rx ?_)
 refine gZ ?_
 exact QY hV hd (by simp [bN]) (.num ep) fC (oR.tr aj) (lb gL aj)) : P := h
theorem Yky (h : P := by
 refine gK ?_
 exact JK a6 ⟨hS, false, rfl, fun h => mi, fun _ => .inl j7⟩) : P := h
theorem Ybo (h : P := by
 refine Xk (a := d.body) LO.nil Jq rfl rfl rfl qt rfl rfl rfl Y2 ap ab (fun v2 u2 hL fv => ?_)
 have hF := fv _ hF
 have hb := bJ.tr0 hF
 refine bM ?_
 exact ⟨w1, _, aj, rfl, by rw [Jez h]; exact hL, hF⟩) : P := h
theorem Ykz (h : P := by
 refine Jc (i + 1) a6 ⟨rfl, ?_, aC, hF⟩ ab
 rw [ni, SG he]; rfl) : P := h
theorem Yla (h : P := by
 refine Jc (i + 1) a6 ⟨rfl, ?_, aC, hF⟩ ab
 rw [ni, SN he]; rfl) : P := h
theorem Ybp (h : P := by
 have hB := ai.2.2
 refine rx ?_
 exact Jc (j + 1) a6 ⟨rfl, by omega, ai⟩ ab) : P := h
theorem Ybq (h : P := by
 obtain ⟨hf, h⟩ := h
 cases r with
 | none => exact ⟨JhH, false, h, rfl, by unfold JhH; simp [Value.oneCell'], hf, .inl ⟨rfl, rfl⟩⟩
 | some d =>
  obtain ⟨cs, h1, h2⟩ := h
  exact ⟨cs, true, h1, by rw [h2.len, KL], RD.one h2, hf, .inr ⟨d, rfl, rfl, h2⟩⟩) : P := h
theorem Ymc (h : P := by refine ⟨rfl, by decide, (by first | exact rfl | (show Value.int _ _ = Value.int _ _; congr 1; simp)), ⟨v', hI⟩, ri, dJ, dW, aV⟩) : P := h
theorem Ybr (h : P := by
 (refine J4 rfl rfl p6 ?_; refine rx ?_; refine Jg (Vq _ w) ?_; rintro _ rfl; refine rx ?_)
 refine gZ ?_
 rw [SH (by unfold p2; simp; omega)] at he
 refine ⟨?_, Fr.refl _ _⟩
 rw [<- Nat.add_assoc, <- he]; rfl) : P := h
theorem Ybs (h : P := by
 refine ⟨g2.1, g2.2.1, ?_⟩
 have l2 := g2.2.2
 simp only [wE, fF, SY] at l2
 omega) : P := h
theorem Ylb (h : P := by
 have bX := s9 [] aV
 refine bM ?_
 rw [mH]
 refine ⟨v5, rfl, ⟨?_, fun x hx => by have := s8.2 x hx; omega⟩, eD.Jb bX⟩
 have h1 := s8.1
 rw [List.append_assoc, IB] at h1
 exact h1) : P := h
theorem Ybt (h : P := by exact JK a6 ⟨_, rfl, by rw [iW]; exact hT, hF, jw⟩) : P := h
theorem Ybu (h : P := by rcases Y4 with ⟨e', hd⟩ | hd <;> simp [Builtin.append_, run_underlying ht, run_underlying hd, sizeOf, typeInfo, zeroValue, hi, hz, Y5, lB, qQ, ye, Question.forced, jM, Y6, newRow, grownCap] <;> rw [<- List.append_toArray, Array.append_assoc]) : P := h
theorem Ybv (h : P := by exact JK a6 ⟨dY, bq, eA, ar, ah⟩) : P := h
theorem Ybw (h : P := by exact XY Ykp (fun p n rest => by kernel_rfl)) : P := h
theorem Ybx (h : P := by
 refine enter func170 rfl ntmps170 rfl ?_
 refine rx ?_
 ((with_reducible apply Ji); exact rfl; (conv => lhs; whnf); exact rfl; exact hB; exact rfl)
 intro w1 h1 aj bh
 refine rx ?_
 exact WI rfl ⟨rfl, ⟨_, _, _, h1⟩, aj⟩) : P := h
theorem Yby (h : P := by
 have h1 : R w (S ++ T) x cs := h.mono hr Ykc
 exact h.mono (h.tr h1 (hf.mono (fun b hb => .inl lr))) (fun b hb => .inl lr)) : P := h
theorem Ybz (h : P := by
 simp only [Sj, Sz] at h; obtain ⟨rfl, rfl⟩ := h
 exact ⟨by simp only [mZ, Qn, Eh]; exact ga, g1.2.1, by simp only [wE, fF, SY, Sr, Ec]; omega⟩) : P := h
theorem Yca (h : P := by
 have l1 := g1.2.2
 obtain ⟨r2, h2, h⟩ := Si.1 h
 have g2 := Jr h2 g1.2.1
 simp only [Sj, Sz] at h; obtain ⟨rfl, rfl⟩ := h
 exact ⟨g1.1, g2.1, by omega⟩) : P := h
theorem Ycb (h : P := by
 simp only [Sj, Sz] at h; obtain ⟨rfl, rfl⟩ := h
 exact ⟨by simp only [mZ, Qn, Eh]; exact ga, gc.1, by simp only [wE, fF, SY, Sr]; omega⟩) : P := h
theorem Ycc (h : P := by
 obtain ⟨r2, h2, h⟩ := Si.1 h
 have g2 := Jr h2 g1.1
 simp only [Sj, Sz] at h; obtain ⟨rfl, rfl⟩ := h
 exact ⟨g2.1, by have := g1.2; omega⟩) : P := h
theorem Ycd (h : P := by
 obtain ⟨i0, z, lp, hz, hs, hb, sc⟩ := R.inf
 simp [execOp, hx, ho, Instr.sliceAt, Instr.slice, run_underlying R.und, Instr.sliceBounds, Instr.sliceBound, asIntOf, sizeOf, typeInfo, lp, hs, hj]) : P := h
theorem Yce (h : P := by
 refine gZ ?_
 exact ⟨by rw [JdW (SG ab)], aV⟩) : P := h
theorem Ycf (h : P := by
 simp only [Sj, Sz] at h; obtain ⟨rfl, rfl⟩ := h
 exact ⟨jT.1, by omega⟩) : P := h
theorem Ycg (h : P := by
 simp only [Sj, Sz] at h; obtain ⟨rfl, rfl⟩ := h
 exact ⟨g4.1, by omega⟩) : P := h
theorem Ych (h : P := by
 rintro w4 ⟨h4, aI⟩
 refine rx ?_
 exact WI rfl ⟨rfl, h4, hF.trans aI (fun x hx => .inl hx)⟩) : P := h
theorem Yci (h : P := by
 refine rx ?_
 refine Qc rfl rfl ea rfl ⟨_, rfl, (cH.old aY (Jf ab)).down ab, dS.trans aY (fun x hx => .inr bt)⟩) : P := h
theorem Ycj (h : P := by
 refine rx ?_
 refine Qc rfl rfl ea rfl ⟨_, rfl, (cH.old aY (Jf ab)).down ab, bR.trans aY (fun x hx => .inr bt)⟩) : P := h
theorem Yck (h : P := by
 refine RF ?_
 refine ⟨_, _, _, rfl, hf.Jb (aR), ?_⟩
 rw [he]
 exact ⟨rfl, rfl⟩) : P := h
theorem Ylc (h : P := by
 refine gK ?_
 refine bM ?_
 exact ⟨by unfold Qd; rw [rq, Jbb aC ab]; rfl, eD.Jb hS⟩) : P := h
theorem Ycl (h : P := by
 simp only [List.flatMap_append, CP, Ey, Ce, JaF, fF, Sm, SI, SY] at YI
 omega) : P := h
theorem Ycm (h : P := by
 refine bM ?_
 rw [SQ ab] at hL
 exact ⟨w1, _, aj, rfl, by rw [Le h]; exact hL, hF⟩) : P := h
theorem Ymd (h : P := by
 have : ((2 ^ 64 - 1 - a.toNat : Nat) : Int) = 18446744073709551615 - a := by
  have : (2 ^ 64 : Nat) = 18446744073709551616 := by decide
  omega
 rw [this]; omega) : P := h
theorem Yme (h : P := by exact Vh ⟨rfl, rfl, rfl, rfl, rfl, by rw [SG ab]; rfl⟩) : P := h
theorem Yco (h : P := by
 subst hp
 have e : (a.toList == b.toList) = decide (a = b) := by rw [Nh]; simp [toList_inj]
 simp [execOp, eqGuard, binOp, Op.stringOp, hx, hy, e]) : P := h
theorem Yld (h : P := by
 have h1 := key (rs.take i) (fun r hr => hc r (E5 hr))
 rw [C9] at h1
 have : min i rs.length <= 1000 := by omega
 omega) : P := h
theorem Ymf (h : P := by exact Vh ⟨rfl, rfl, rfl, rfl, rfl, by rw [SN ab]; rfl⟩) : P := h
theorem Ycp (h : P := by
 refine RF ?_
 exact ⟨_, _, _, rfl, Fr.refl _ _, rfl, rfl⟩) : P := h
theorem Ycq (h : P := by
 simp only [bV, fv] at ai
 simp [execOp, hx, hv, Instr.storeAt, Instr.sureAddr, storeVar, sizeOf, typeInfo, hi, hs, fG, storeCells, ta, ai]) : P := h
theorem Ycr (h : P := by
 induction l with
 | nil => exact .nil
 | cons a l ih => exact .cons (brR.2 rfl) ih) : P := h
theorem Ycs (h : P := by
 obtain ⟨e, h1, h2, h3⟩ := h.exp hh p n
 exact ⟨e, by unfold bD at h1; omega, h2, fun rest hr => h3 200 AN rest hr⟩) : P := h
theorem Yct (h : P := by
 obtain ⟨e, hu⟩ := T.u
 have := Ja9 (P := P) (w := w) (a := a) hu
 exact JR (by simp [execOp, eqGuard, binOp, hx, hy, this]) h) : P := h
theorem Yle (h : P := by
 rw [Cb he] at mH
 refine bM ?_
 rw [mH]
 exact ⟨_, rfl, ⟨h.1.tr0 eD, h.2⟩, eD⟩) : P := h
theorem Ycu (h : P := by
 refine rx ?_
 exact Vh ⟨rfl, ⟨_, rfl, hP⟩, ⟨y1, yZ, y6, rfl⟩, fC, ((hF).Jb jf |>.trans aj mv)⟩) : P := h
theorem Ycv (h : P := by
 obtain ⟨a2, c2, rfl, _⟩ := cu.slice
 obtain ⟨a3, c3, rfl, _⟩ := lg.slice
 exact ⟨_, _, _, _, _, _, _, _, _, b, rfl, ha, hb⟩) : P := h
theorem Ylf (h : P := by
 rw [SK aC, SE, Sv]
 rintro (h | h)
 .exact lm h
 .exact he h.symm) : P := h
theorem Ycw (h : P := by exact ⟨h4, by simp, fun x hx y hy => by rw [Sv] at hy; subst hy; exact fun e => by have := h5 x hx; omega⟩) : P := h
theorem Ycx (h : P := by
 have l3 := g3.2.2
 simp only [Sj, Sz] at h; obtain ⟨rfl, rfl⟩ := h
 exact ⟨g3.2.1, by omega⟩) : P := h
theorem Ycy (h : P := by
 have h3 := Xw b.decl.size (by have := h.1; omega)
 have h4 := h.1
 simp only [fZ, raw, Sm, Xx]; omega) : P := h
theorem Ycz (h : P := by
 rw [e]
 refine Jg (Jh1 p v bs (zz n) w (JeV h1 h2) hw hl) ?_
 rintro w' hs
 refine rn ?_
 exact WI rfl ⟨rfl, hs⟩) : P := h
theorem Yda (h : P := by
 refine bM ?_
 exact ⟨w1, _, aj, rfl, by rw [JeA h]; exact hL, hF⟩) : P := h
theorem Ydb (h : P := by
 have := h 0 v rfl
 rwa [show a.add 0 = a by simp [Addr.add]] at this) : P := h
theorem Ydc (h : P := by
 rcases h1 with rfl | rfl | rfl
 all_goals exact XY Ykp (fun p n rest => by kernel_rfl)) : P := h
theorem Ydd (h : P := by
 simp only [Sj, Sz] at h; obtain ⟨rfl, rfl⟩ := h
 exact ⟨g1.2.1, by omega⟩) : P := h
theorem Yde (h : P := by
 refine wpList_plain rfl fun K hK => ?_
 unfold Oper.wp
 rw [Zy, hr]
 show K _ _
 rw [MK]
 exact hK _ _ h) : P := h
theorem Ydf (h : P := by
 rcases SE.1 hq with hq | hq
 .have := h5 q hq; omega
 .rw [Sv.1 hq]; omega) : P := h
theorem Ydg (h : P := by
 rcases h1 with rfl | rfl
 all_goals exact XY Ykp (fun p n rest => by kernel_rfl)) : P := h
theorem Ydh (h : P := by
 refine gZ ?_
 exact ⟨by rw [JdX (Jbb aC ab)], eD⟩) : P := h
theorem Ydi (h : P := by
 obtain ⟨ns, c, h1, h2, h3⟩ := h
 exact ⟨ns, c, h1, by rw [hf.block b hl hS]; exact h2, h3⟩) : P := h
theorem Ydj (h : P := by
 rw [Sm]
 unfold ints at this ⊢
 rw [Dp]
 exact this) : P := h
theorem Ydk (h : P := by
 refine enter func167 rfl ntmps167 rfl ?_
 refine rx ?_
 (refine Ju rfl rfl (fun w1 b hb hB aj bh => ?_); have pq := eY.lt; have ah : b ≠ q := by omega)
 have ai : ST q b [iV d.kind, .string d.name, iV d.at_, .slice ct mM iO, .slice pm mN iG, iV d.type.kind, .string d.type.name, .slice ty mO ix, iV d.body.kind, .string d.body.name, iV d.body.n, .slice gV dy dz, .slice gW dA dC, .slice gX dD dE, iV d.body.at_, iV d.depth, iV d.gen.kind, .string d.gen.name, .slice gA cY cZ, .slice gB c8 c9, .slice gC da de, iV d.gen.at_, .slice dw mP gv, .slice ck mQ fX, .slice cs mR fR, .slice cl mS fY, iV d.state.kind, .string d.state.name, .slice st mT ig, iV d.init.kind, .string d.init.name, iV d.init.n, .slice gD df dh, .slice gE dj dl, .slice gF dm dn, iV d.init.at_, .slice cm mU fM, .slice op mV fH, iV d.recov.kind, .string d.recov.name, iV d.recov.n, .slice gw cJ cK, .slice gx cL cM, .slice gy cO cQ, iV d.recov.at_] 105 w w1 := ⟨eY.tr0 aj, QL aj, hB⟩
 clear aj bh eY
 refine Ai ?_
 refine Yeq ?_
 refine oG ?_
 refine wp_seq ?_
 refine PW ?_ ?_
 .refine rx ?_
  exact Ya
 clear ai hB
 rintro g u ⟨g0, g3, g4, g5, g6, g7, g8, ai⟩
 rw [Ja g0, Ja g3, Ja g4, Ja g5, Ja g6, Ja g7, Ja g8]
 clear g0 g3 g4 g5 g6 g7 g8
 have hB := ai.2.2
 refine wp_seq ?_
 refine PW ?_ ?_
 .refine rx ?_
  exact Ya
 clear ai hB
 rintro g u ⟨g0, g3, g4, g5, g6, g7, g8, ai⟩
 rw [Ja g0, Ja g3, Ja g4, Ja g5, Ja g6, Ja g7, Ja g8]
 clear g0 g3 g4 g5 g6 g7 g8
 have hB := ai.2.2
 refine wp_seq ?_
 refine PW ?_ ?_
 .refine rx ?_
  exact Ya
 clear ai hB
 rintro g u ⟨g0, g3, g4, g5, g6, g7, g8, ai⟩
 rw [Ja g0, Ja g3, Ja g4, Ja g5, Ja g6, Ja g7, Ja g8]
 clear g0 g3 g4 g5 g6 g7 g8
 have hB := ai.2.2
 refine wp_seq ?_
 refine PW ?_ ?_
 .refine rx ?_
  exact Ya
 clear ai hB
 rintro g u ⟨g0, g3, g4, g5, g6, g7, g8, ai⟩
 rw [Ja g0, Ja g3, Ja g4, Ja g5, Ja g6, Ja g7, Ja g8]
 clear g0 g3 g4 g5 g6 g7 g8
 have hB := ai.2.2
 refine wp_seq ?_
 refine PW ?_ ?_
 .refine rx ?_
  exact Ya
 clear ai hB
 rintro g u ⟨g0, g3, g4, g5, g6, g7, g8, ai⟩
 rw [Ja g0, Ja g3, Ja g4, Ja g5, Ja g6, Ja g7, Ja g8]
 clear g0 g3 g4 g5 g6 g7 g8
 have hB := ai.2.2
 refine wp_seq ?_
 refine PW ?_ ?_
 .refine rx ?_
  exact Ya
 clear ai hB
 rintro g u ⟨g0, g3, g4, g5, g6, g7, g8, ai⟩
 rw [Ja g0, Ja g3, Ja g4, Ja g5, Ja g6, Ja g7, Ja g8]
 clear g0 g3 g4 g5 g6 g7 g8
 have hB := ai.2.2
 refine wp_seq ?_
 refine PW ?_ ?_
 .refine rx ?_
  exact Ya
 clear ai hB
 rintro g u ⟨g0, g3, g4, g5, g6, g7, g8, ai⟩
 rw [Ja g0, Ja g3, Ja g4, Ja g5, Ja g6, Ja g7, Ja g8]
 clear g0 g3 g4 g5 g6 g7 g8
 have hB := ai.2.2
 refine wp_seq ?_
 refine PW ?_ ?_
 .refine rx ?_
  exact Ya
 exact Yh) : P := h
theorem Ydl (h : P := by
 have hz := hf.size
 have hS := hS.Jb hf
 clear hf
 refine ft ?_
 refine JJ (i := 14) rfl az ?_
 .obtain ⟨n14, RM⟩ := aP u.heap.size
  refine JC hA rfl ((hc.src.tr0 aj).tr0 hS) rfl Ykf (WX _) dt ab (fun RN u hC hf wu _ => ?_)
  rw [CO, Di] at hC
  have hS : Fr [] w1 u := hS.trans hf (fun x hx => .inr (by have := ss x hx; omega))
  have qE : ∀ x ∈ ag RN, w1.heap.size <= x /\ x < u.heap.size /\ (x < n14 -> x ∈ ag (Value.slice (some ⟨bA, 0, none⟩) 0 0)) := fun x hx => ⟨(wu x hx).elim Yki kX, hC.lt x hx, fun h1 => (wu x hx).elim id kX⟩
  have hE := hE.tr hf (fun x hx hm => by have := ss x hm; have := su x hx; omega)
  have hB := hB.tr hf (fun hm => by have := ss _ hm; omega)
  have hz := hf.size
  exact Yc) : P := h
theorem Ydm (h : P := by
 clear hf
 refine ft ?_
 refine Xt (i := 20) (j := 22) rfl rfl az ?_ ?_
 .obtain ⟨n20, id1⟩ := aP u.heap.size
  refine JC hE rfl (Jfd (o := 4) ((bJ.tr0 hS)) (ys := Vk [s.o 0, s.o 1, s.o 2]) (fun j u hj => by match j, hj with | 0, hj => exact hj | 1, hj => exact hj | 2, hj => exact hj | j + 3, hj => simp [Vk] at hj)) rfl rfl (WX _) dt ab (fun vo1 u hO hf hkO _ => ?_)
  rw [CO, Di] at hO
  have hS : Fr [] w1 u := hS.trans hf (fun x hx => .inr (by have := su x hx; omega))
  have hOi : ∀ x ∈ ag vo1, w1.heap.size <= x /\ x < u.heap.size /\ (x < n20 -> x ∈ ag (Value.slice (some ⟨bE, 0, none⟩) 0 0)) := fun x hx => ⟨(hkO x hx).elim (fun h => by have := su x h; omega) kX, hO.lt x hx, fun h1 => (hkO x hx).elim id kX⟩
  have hC := hC.tr hf Yiv
  have hz := hf.size
  clear hf
  refine ft ?_
  obtain ⟨YC, YD, rfl⟩ := hC.slice
  obtain ⟨ek, YE, rfl⟩ := hO.slice
  refine Kw 21 hS ?_ (v := .agg (([iV (s.runs : Nat), zS, iV (mp.length : Nat), .slice YC s.cls.length YD, .slice ek 3 YE])).toArray) (aw := by (intro u hu; exact QU (([iV (s.runs : Nat), zS, iV (mp.length : Nat), .slice YC s.cls.length YD, .slice ek 3 YE])) fD))
  refine JJ (i := 22) rfl az ?_
  .obtain ⟨bB, jQ⟩ := aP u.heap.size
   refine WM (l := [zI, zS, zI, zS, zS]) rfl (fun u hB hf sr => ?_)
   rw [<- jQ] at hB ⊢
   have hC := hC.tr0 hf
   have hO := hO.tr0 hf
   have hz := hf.size
   have hS := hS.Jb hf
   clear hf
   refine ft ?_
   exact Ye
 .obtain ⟨bB, jQ⟩ := aP u.heap.size
  refine WM (l := [zI, zS, zI, zS, zS]) rfl (fun u hB hf sr => ?_)
  rw [<- jQ] at hB ⊢
  have hC := hC.tr0 hf
  have hE := hE.tr0 hf
  have hz := hf.size
  have hS := hS.Jb hf
  exact Yc) : P := h
theorem Ydn (h : P := by
 have hS := hS.Jb hf
 clear hf
 refine ft ?_
 refine JJ (i := 10) rfl az ?_
 .obtain ⟨n, hn⟩ := aP u.heap.size
  obtain ⟨bC, rB⟩ := aP u.heap.size
  refine Qh (k := nc) rfl rfl ab dt (fun u hC hf RC => ?_)
  rw [<- rB] at hC ⊢
  rw [QE] at hC
  have qE : In (ag (Value.slice (some ⟨bC, 0, none⟩) nc nc)) n u.heap.size := fun x hx => by simp [ag, Value.ownBlock] at hx; omega
  have hz := hf.size
  have hR := hR.tr0 hf
  have hB := hB.tr0 hf
  have hP := hP.tr0 hf
  exact Yb) : P := h
theorem Ydo (h : P := by
 have hS := hS.Jb hf
 clear hf
 refine ft ?_
 refine JJ (i := 6) rfl az ?_
 .obtain ⟨n, hn⟩ := aP u.heap.size
  refine Px ?_
  rintro vr u ⟨hR, hf⟩
  have yL : In (ag vr) n u.heap.size := fun x hx => ⟨by have := hR.2 x hx; omega, hR.1.lt x hx⟩
  have hR := hR.1
  rw [<- k7] at hR
  obtain ⟨mr, cr, rfl⟩ := hR.slice
  have hz := hf.size
  have hC := hC.tr0 hf
  have hB := hB.tr0 hf
  have hP := hP.tr0 hf
  exact Yb) : P := h
theorem Ydp (h : P := by
 have hS := hS.Jb hf
 clear hf
 refine ft ?_
 refine JJ (i := 11) rfl az ?_
 .obtain ⟨n, hn⟩ := aP u.heap.size
  obtain ⟨bB, jQ⟩ := aP u.heap.size
  refine Kt (key := gg) (val := Value.int .i64) (fun u hB hf sr => ?_)
  rw [<- jQ] at hB ⊢
  have hz := hf.size
  have hR := hR.tr0 hf
  have hC := hC.tr0 hf
  have hP := hP.tr0 hf
  exact Yb) : P := h
theorem Ydq (h : P := by
 have hS := hS.Jb hf
 clear hf
 refine ft ?_
 refine JJ (i := 12) rfl az ?_
 .obtain ⟨n, hn⟩ := aP u.heap.size
  obtain ⟨bP, rC⟩ := aP u.heap.size
  refine Kt (key := iC) (val := Value.bool) (fun u hP hf RE => ?_)
  rw [<- rC] at hP ⊢
  have hz := hf.size
  have hR := hR.tr0 hf
  have hC := hC.tr0 hf
  have hB := hB.tr0 hf
  exact Yb) : P := h
theorem Ydr (h : P := by
 refine Jd (cs := [iV (s.runs : Nat), zS, iV (mp.length : Nat), .slice YC s.cls.length YD, .slice ek 3 YE]) rfl rfl hB dQ rfl rfl (fun u6 hB6 aJ fm => ?_)
 have kY : ∀ x ∈ ag (Value.slice YC s.cls.length YD), x ≠ bB := fun x hx e => by have h2 := qE x hx; rcases DF x n14 with h3 | h3; (have := ss x (h2.2.2 h3); omega); omega
 have PV : ∀ x ∈ ag (Value.slice ek 3 YE), x ≠ bB := fun x hx e => by have h2 := hOi x hx; rcases DF x n20 with h3 | h3; (have := su x (h2.2.2 h3); omega); omega
 have ot := hS.trans aJ (fun x hx => .inr bt)
 refine wpList_nil (Jv ot ?_)
 refine gK ?_
 rw [hlp] at hB6
 refine JK a6 ⟨_, _, _, rfl, hB6, hC.tr aJ (fun x hx hm => kY x hx (Sv.1 hm)), hO.tr aJ (fun x hx hm => PV x hx (Sv.1 hm)), by omega, fun x hx => ?_, ot⟩
 rcases SE.1 hx with hx | hx
 .exact ⟨(qE x hx).1, kY x hx⟩
 .exact ⟨(hOi x hx).1, PV x hx⟩) : P := h
theorem Yds (h : P := by
 have pw := ho.tr aF (fun x hx hm => (jd x hx).2 (by rw [Sv.1 hm]))
 have lq := qR.length_eq
 simp only [SI] at lq
 refine rx ?_
 refine JbH rfl kO ?_
 refine rx ?_
 refine Jm (l := [zT, zI, zI, zT, zI, zI]) rfl (fun u4 bv gJ tt aI eA => ?_)
 refine rx ?_
 refine Jd (cs := fK a) rfl rfl tt (Wu a) rfl rfl (fun u5 tu aO eV => ?_)
 replace tu : aG u5 bv [.string a.1.decl, iV a.1.at_, iV a.1.arm, .string a.2.decl, iV a.2.at_, iV a.2.arm] _ := tu
 have hvo : ∀ x ∈ ag v, x ∉ [bv] := fun x hx hm => by have := pw.lt x hx; rw [Sv.1 hm] at this; omega
 have kt := (pw.tr0 aI).tr aO hvo
 have ibx := (kO.tr0 aI).tr aO (by have := kO.mp.lt; simp; omega) aZ
 have bX : Fr [] w u5 := (aV.Jb aI).trans aO (fun x hx => .inr bt)
 refine rx ?_
 refine JQ (c1 := fK a) rfl rfl rfl (fun u6 q6 yh tA aJ fm => ?_)
 refine rx ?_
 refine JC (kt.tr0 aJ) rfl tA.src rfl rfl (Wu a) dt ab (fun v7 u7 ho7 aQ sw _ => ?_)
 exact Yn) : P := h
theorem Ydt (h : P := by
 refine JC hA rfl ((hc.src.tr0 aj).tr0 hS) rfl Ykf (WX _) dt ab (fun RN u hC hf wu _ => ?_)
 rw [CO, Di] at hC
 have hS : Fr [] w1 u := hS.trans hf (fun x hx => .inr (by have := ss x hx; omega))
 have qE : ∀ x ∈ ag RN, w1.heap.size <= x /\ x < u.heap.size /\ (x < n14 -> x ∈ ag (Value.slice (some ⟨bA, 0, none⟩) 0 0)) := fun x hx => ⟨(wu x hx).elim Yki kX, hC.lt x hx, fun h1 => (wu x hx).elim id kX⟩
 have hB := hB.tr hf (fun hm => by have := ss _ hm; omega)
 have hz := hf.size
 exact Yek) : P := h
theorem Ylg (h : P := by
 (refine JX 37 38 hS ?_; refine bH 39 hS ?_)
 refine Kz 40 hS ?_ (aw := by (intro u hu; exact (Zd rfl rfl (SG ab))))
 (refine JX 41 42 hS ?_)
 by_cases ia2 : r.code ≠ 0
 . (apply V4 (i := 43); exact rfl; exact rfl; kernel_rfl; kernel_rfl; kernel_rfl; (intro u hu; exact (WZ rfl rfl (SN ab))); exact hS)
   refine Kz 44 hS ?_ (aw := by (intro u hu; refine (XP (a := false) (b := true) underlying4 ?_ ?_ rfl); exact rfl; exact rfl))
   (refine bH 45 hS ?_)
   exact RU
 . (apply V4 (i := 43); exact rfl; exact rfl; kernel_rfl; kernel_rfl; kernel_rfl; (intro u hu; exact (WZ rfl rfl (SG ab))); exact hS)
   refine Kz 44 hS ?_ (aw := by (intro u hu; refine (XP (a := false) (b := false) underlying4 ?_ ?_ rfl); exact rfl; exact rfl))
   exact Yku) : P := h
theorem Ydu (h : P := by
 refine Jc (xs ++ [a], gN, some (a, av), v7) a6 ⟨rfl, (ibx.tr0 aJ).tr aQ (fun hm => by have := (jd b hm).1; omega) (fun hm => (jd r hm).2 rfl), ?_, JeH qR hp, fun x hx => ?_, (bX.Jb aJ).trans aQ (fun x hx => .inr (by have := (jd x hx).1; omega))⟩ eM
 .simp only
  rw [Sm, List.flatMap_append]
  simpa using ho7
 .rcases sw x hx with h | h
  .exact jd x h
  .exact ⟨by omega, by omega⟩) : P := h
theorem Ydv (h : P := by
 simp only [SI, SY] at iT
 refine rx ?_
 refine Jl (ih e.kids[i] ab ab _ u S gY) ?_
 rintro v2 u2 ⟨fl, aq⟩
 have hL := hL.tr0 aq
 have hF := hF.Jb aq
 have cz := aq.size
 obtain ⟨⟨ys, gu, lO⟩, _⟩ := fl
 refine rx ?_
 refine Bh (al := oA e.kids[i]) hL XE rfl rfl rfl gu.src (lO.imp (fun x cs _ h => LG h)) (by unfold maxLen; simp only [Sm, SI, SY] at iT ⊢; omega) (by simp only [Sm, SI, SY] at iT ⊢; omega) ab (fun v3 u3 hL fv => ?_)
 exact Yp) : P := h
theorem Ydw (h : P := by
 refine rx ?_
 refine Jc (i + 1) a6 ⟨rfl, by omega, fin eW ⟨?_, fun x hx => ?_⟩ (fun x hx => (sw x hx).imp id kX) fP kg aM⟩ ab
 .rw [Sm, List.flatMap_append]
  simpa using kt
 .rcases sw x hx with h | h
  .exact hB.2 x h
  .omega) : P := h
theorem Ydx (h : P := by
 refine YJ ?_
 refine JQ rfl gH rfl (fun gl k4 pU jA aK fN => ?_)
 (have dX := bL.tr0 aK; have cj := bK.Jb aK)
 (have ah := ah.tr aK ak)
 (have aH := aH.tr aK ak)
 have hd := hd.tr0 aK
 have dV := dV.tr0 aK
 have tA := tA.tr0 aK
 exact Yk) : P := h
theorem Ydy (h : P := by
 refine rx ?_
 refine Jc (i + 1, v3) a6 ⟨rfl, rfl, aC, ?_, hF⟩ eM
 simp only
 rw [KP aC, <- List.append_assoc]
 exact hL) : P := h
theorem Ydz (h : P := by
 (refine J4 rfl rfl p6 ?_; refine rx ?_; refine Jg (Vq _ w) ?_; rintro _ rfl; refine rx ?_)
 rw [Cb (by unfold p1; rw [hc]; rfl)] at he
 exact Yt) : P := h
theorem Ylh (h : P := by
 (refine Jj 26 27 28 29 hS ?_; refine Jj 30 31 32 33 hS ?_; refine Jj 34 35 36 37 hS ?_; refine Jj 38 39 40 41 hS ?_; refine Jj 42 43 44 45 hS ?_)
 exact RU) : P := h
theorem Yea (h : P := by
 refine Kz 19 hS ?_ (aw := by (intro u hu; exact (XP (p := true) underlying4 rfl rfl rfl)))
 (refine bH 20 hS ?_)
 exact Yu) : P := h
theorem Yli (h : P := by
 by_cases e : j = i
 .subst e; exact JhP aC ⟨by omega, by omega, fun h => by omega⟩
 .exact iL j ab) : P := h
theorem Yeb (h : P := by
 refine gZ ?_
 exact ⟨rfl, rfl⟩) : P := h
theorem Ylj (h : P := by
 (refine Jj 34 35 36 37 hS ?_; refine Jj 38 39 40 41 hS ?_; refine Jj 42 43 44 45 hS ?_)
 exact RU) : P := h
theorem Yec (h : P := by
 have hz := hf.size
 have hS := hS.Jb hf
 clear hf
 refine ft ?_
 refine Xt (i := 14) (j := 22) rfl rfl az ?_ ?_
 .obtain ⟨n14, RM⟩ := aP u.heap.size
  refine JC hA rfl ((hc.src.tr0 aj).tr0 hS) rfl Ykf (WX _) dt ab (fun RN u hC hf wu _ => ?_)
  rw [CO, Di] at hC
  have hS : Fr [] w1 u := hS.trans hf (fun x hx => .inr (by have := ss x hx; omega))
  have qE : ∀ x ∈ ag RN, w1.heap.size <= x /\ x < u.heap.size /\ (x < n14 -> x ∈ ag (Value.slice (some ⟨bA, 0, none⟩) 0 0)) := fun x hx => ⟨(wu x hx).elim Yki kX, hC.lt x hx, fun h1 => (wu x hx).elim id kX⟩
  have hE := hE.tr hf (fun x hx hm => by have := ss x hm; have := su x hx; omega)
  have hz := hf.size
  exact Ydm
 .obtain ⟨bB, jQ⟩ := aP u.heap.size
  refine WM (l := [zI, zS, zI, zS, zS]) rfl (fun u hB hf sr => ?_)
  rw [<- jQ] at hB ⊢
  have hA := hA.tr0 hf
  have hE := hE.tr0 hf
  exact Ydl) : P := h
theorem Yed (h : P := by
 have hS := hS.Jb hf
 clear hf
 refine ft ?_
 refine Xt (i := 6) (j := 10) rfl rfl az ?_ ?_
 .obtain ⟨n, hn⟩ := aP u.heap.size
  refine Px ?_
  rintro vr u ⟨hR, hf⟩
  have yL : In (ag vr) n u.heap.size := fun x hx => ⟨by have := hR.2 x hx; omega, hR.1.lt x hx⟩
  have hR := hR.1
  rw [<- k7] at hR
  obtain ⟨mr, cr, rfl⟩ := hR.slice
  have hz := hf.size
  have hB := hB.tr0 hf
  have hP := hP.tr0 hf
  exact Ydn
 .obtain ⟨n, hn⟩ := aP u.heap.size
  obtain ⟨bC, rB⟩ := aP u.heap.size
  refine Qh (k := nc) rfl rfl ab dt (fun u hC hf RC => ?_)
  rw [<- rB] at hC ⊢
  rw [QE] at hC
  have qE : In (ag (Value.slice (some ⟨bC, 0, none⟩) nc nc)) n u.heap.size := fun x hx => by simp [ag, Value.ownBlock] at hx; omega
  have hz := hf.size
  have hB := hB.tr0 hf
  have hP := hP.tr0 hf
  exact Ydo) : P := h
theorem Yee (h : P := by
 have hS := hS.Jb hf
 clear hf
 refine ft ?_
 refine Xt (i := 10) (j := 11) rfl rfl az ?_ ?_
 .obtain ⟨n, hn⟩ := aP u.heap.size
  obtain ⟨bC, rB⟩ := aP u.heap.size
  refine Qh (k := nc) rfl rfl ab dt (fun u hC hf RC => ?_)
  rw [<- rB] at hC ⊢
  rw [QE] at hC
  have qE : In (ag (Value.slice (some ⟨bC, 0, none⟩) nc nc)) n u.heap.size := fun x hx => by simp [ag, Value.ownBlock] at hx; omega
  have hz := hf.size
  have hR := hR.tr0 hf
  have hP := hP.tr0 hf
  exact Ydp
 .obtain ⟨n, hn⟩ := aP u.heap.size
  obtain ⟨bB, jQ⟩ := aP u.heap.size
  refine Kt (key := gg) (val := Value.int .i64) (fun u hB hf sr => ?_)
  rw [<- jQ] at hB ⊢
  have hz := hf.size
  have hR := hR.tr0 hf
  have hP := hP.tr0 hf
  exact Ydn) : P := h
theorem Yef (h : P := by
 have hS := hS.Jb hf
 clear hf
 refine ft ?_
 refine Xt (i := 10) (j := 12) rfl rfl az ?_ ?_
 .obtain ⟨n, hn⟩ := aP u.heap.size
  obtain ⟨bC, rB⟩ := aP u.heap.size
  refine Qh (k := nc) rfl rfl ab dt (fun u hC hf RC => ?_)
  rw [<- rB] at hC ⊢
  rw [QE] at hC
  have qE : In (ag (Value.slice (some ⟨bC, 0, none⟩) nc nc)) n u.heap.size := fun x hx => by simp [ag, Value.ownBlock] at hx; omega
  have hz := hf.size
  have hR := hR.tr0 hf
  have hB := hB.tr0 hf
  exact Ydq
 .obtain ⟨n, hn⟩ := aP u.heap.size
  obtain ⟨bP, rC⟩ := aP u.heap.size
  refine Kt (key := iC) (val := Value.bool) (fun u hP hf RE => ?_)
  rw [<- rC] at hP ⊢
  have hz := hf.size
  have hR := hR.tr0 hf
  have hB := hB.tr0 hf
  exact Ydn) : P := h
theorem Yeg (h : P := by
 have hS := hS.Jb hf
 clear hf
 refine ft ?_
 refine Xt (i := 6) (j := 11) rfl rfl az ?_ ?_
 .obtain ⟨n, hn⟩ := aP u.heap.size
  refine Px ?_
  rintro vr u ⟨hR, hf⟩
  have yL : In (ag vr) n u.heap.size := fun x hx => ⟨by have := hR.2 x hx; omega, hR.1.lt x hx⟩
  have hR := hR.1
  rw [<- k7] at hR
  obtain ⟨mr, cr, rfl⟩ := hR.slice
  have hz := hf.size
  have hC := hC.tr0 hf
  have hP := hP.tr0 hf
  exact Ydp
 .obtain ⟨n, hn⟩ := aP u.heap.size
  obtain ⟨bB, jQ⟩ := aP u.heap.size
  refine Kt (key := gg) (val := Value.int .i64) (fun u hB hf sr => ?_)
  rw [<- jQ] at hB ⊢
  have hz := hf.size
  have hC := hC.tr0 hf
  have hP := hP.tr0 hf
  exact Ydo) : P := h
theorem Yeh (h : P := by
 have hS := hS.Jb hf
 clear hf
 refine ft ?_
 refine Xt (i := 6) (j := 12) rfl rfl az ?_ ?_
 .obtain ⟨n, hn⟩ := aP u.heap.size
  refine Px ?_
  rintro vr u ⟨hR, hf⟩
  have yL : In (ag vr) n u.heap.size := fun x hx => ⟨by have := hR.2 x hx; omega, hR.1.lt x hx⟩
  have hR := hR.1
  rw [<- k7] at hR
  obtain ⟨mr, cr, rfl⟩ := hR.slice
  have hz := hf.size
  have hC := hC.tr0 hf
  have hB := hB.tr0 hf
  exact Ydq
 .obtain ⟨n, hn⟩ := aP u.heap.size
  obtain ⟨bP, rC⟩ := aP u.heap.size
  refine Kt (key := iC) (val := Value.bool) (fun u hP hf RE => ?_)
  rw [<- rC] at hP ⊢
  have hz := hf.size
  have hC := hC.tr0 hf
  have hB := hB.tr0 hf
  exact Ydo) : P := h
theorem Yei (h : P := by
 have hS := hS.Jb hf
 clear hf
 refine ft ?_
 refine Xt (i := 11) (j := 12) rfl rfl az ?_ ?_
 .obtain ⟨n, hn⟩ := aP u.heap.size
  obtain ⟨bB, jQ⟩ := aP u.heap.size
  refine Kt (key := gg) (val := Value.int .i64) (fun u hB hf sr => ?_)
  rw [<- jQ] at hB ⊢
  have hz := hf.size
  have hR := hR.tr0 hf
  have hC := hC.tr0 hf
  exact Ydq
 .obtain ⟨n, hn⟩ := aP u.heap.size
  obtain ⟨bP, rC⟩ := aP u.heap.size
  refine Kt (key := iC) (val := Value.bool) (fun u hP hf RE => ?_)
  rw [<- rC] at hP ⊢
  have hz := hf.size
  have hR := hR.tr0 hf
  have hC := hC.tr0 hf
  exact Ydp) : P := h
theorem Yej (h : P := by
 have hz := hf.size
 have hS := hS.Jb hf
 clear hf
 refine ft ?_
 refine Xt (i := 14) (j := 15) rfl rfl az ?_ ?_
 .obtain ⟨n14, RM⟩ := aP u.heap.size
  exact Ydt
 .obtain ⟨bE, qI⟩ := aP u.heap.size
  refine Qr (fun u hE hf hsE => ?_)
  rw [<- qI] at hE ⊢
  have su : In (ag (Value.slice (some ⟨bE, 0, none⟩) 0 0)) bE u.heap.size := fun x hx => by simp [ag, Value.ownBlock] at hx; omega
  have hA := hA.tr0 hf
  have hB := hB.tr0 hf
  exact Ydl) : P := h
theorem Yek (h : P := by
 clear hf
 refine ft ?_
 refine JJ (i := 15) rfl az ?_
 .obtain ⟨bE, qI⟩ := aP u.heap.size
  refine Qr (fun u hE hf hsE => ?_)
  rw [<- qI] at hE ⊢
  have su : In (ag (Value.slice (some ⟨bE, 0, none⟩) 0 0)) bE u.heap.size := fun x hx => by simp [ag, Value.ownBlock] at hx; omega
  have hC := hC.tr0 hf
  have hB := hB.tr0 hf
  have hz := hf.size
  have hS := hS.Jb hf
  exact Yc) : P := h
theorem Yel (h : P := by
 have hz := hf.size
 have hS := hS.Jb hf
 clear hf
 refine ft ?_
 refine JJ (i := 9) rfl az ?_
 .obtain ⟨bA, xE⟩ := aP u.heap.size
  refine Qr (fun u hA hf hsA => ?_)
  rw [<- xE] at hA ⊢
  have ss : In (ag (Value.slice (some ⟨bA, 0, none⟩) 0 0)) bA u.heap.size := fun x hx => by simp [ag, Value.ownBlock] at hx; omega
  have hE := hE.tr0 hf
  have hB := hB.tr0 hf
  exact Ydl) : P := h
theorem Yem (h : P := by
 (refine J4 rfl rfl p6 ?_; refine rx ?_; refine Jg (Vq _ w) ?_; rintro _ rfl; refine rx ?_)
 exact Ydz) : P := h
theorem jg (h : Q) (k : Hd Q -> P := by
 intro zz
 (refine LZ rfl rfl ?_ YK; refine rx ?_)
 (refine LZ rfl rfl ?_ YK; refine rx ?_)
 exact zz.o) : P := k ⟨h⟩
theorem bM (h : Q) (k : Hd Q -> P := by
 intro zz
 refine rx ?_
 (apply TF; exact rfl; (conv => lhs; whnf))
 exact zz.o) : P := k ⟨h⟩
theorem Ai (h : Q) (k : Hd Q -> P := by
 intro zz
 (refine rr ?_; refine wpList_nil ?_; refine QG ?_; refine wp_seq ?_; refine KA ?_)
 (refine rr ?_; refine wpList_nil ?_; refine QG ?_; refine wp_seq ?_; refine KA ?_)
 (refine rr ?_; refine wpList_nil ?_; refine QG ?_; refine wp_seq ?_; refine KA ?_)
 exact zz.o) : P := k ⟨h⟩
theorem Yeq (h : Q) (k : Hd Q -> P := by
 intro zz
 (refine rr ?_; refine wpList_nil ?_; refine QG ?_; refine wp_seq ?_; refine KA ?_)
 (refine rr ?_; refine wpList_nil ?_; refine QG ?_; refine wp_seq ?_; refine KA ?_)
 exact zz.o) : P := k ⟨h⟩
theorem AO (h : Q) (k : Hd Q -> P := by
 intro zz
 refine rx ?_
 (refine LZ rfl rfl ?_ YK; refine rx ?_)
 exact zz.o) : P := k ⟨h⟩
theorem j5 (h : Q) (k : Hd Q -> P := by
 intro zz
 (refine UH az ?_)
 refine rx ?_
 exact zz.o) : P := k ⟨h⟩
theorem Yes (h : Q) (k : Hd Q -> P := by
 intro zz
 (refine LZ rfl rfl ?_ YK; refine rx ?_)
 (apply TF; exact rfl; (conv => lhs; whnf))
 exact zz.o) : P := k ⟨h⟩
theorem kE (h : Q) (k : Hd Q -> P := by
 intro zz
 (refine wpList_nil (JiQ ?_))
 (refine Je8 az ?_)
 exact zz.o) : P := k ⟨h⟩
theorem xb (h : Q) (k : Hd Q -> P := by
 intro zz
 refine rx ?_
 refine Vz rfl qp hlen ?_
 refine rx ?_
 refine ZF (first := []) (cap := []) (H l[i] ap cs u S hr) rfl rfl rfl ?_
 exact zz.o) : P := k ⟨h⟩
theorem na (h : Q) (k : Hd Q -> P := by
 intro zz
 refine XF (l := kh t) rfl rfl ?_
 refine rx ?_
 exact zz.o) : P := k ⟨h⟩
theorem Al (h : Q) (k : Hd Q -> P := by
 intro zz
 refine rx ?_
 refine Jg (JgN q d hk _ _ _ _ _ _ _ _ _ _ _ _ _ _ _ _ _ _ _ _ _ _ _ _ _ _ _ _ _ _ _ _ _ _ _ _ _ _ _ _ _ _ _ _ _ _ _ _ _ _ _ _ _ _ _ _ _ _ _ _ _ _ _ _ _ _ w1 ai.1) ?_
 exact zz.o) : P := k ⟨h⟩
theorem px (h : Q) (k : Hd Q -> P := by
 intro zz
 refine rn ?_
 (apply TF; exact rfl; (conv => lhs; whnf))
 exact zz.o) : P := k ⟨h⟩
theorem oG (h : Q) (k : Hd Q -> P := by
 intro zz
 refine rr ?_
 refine wpList_nil ?_
 refine QG ?_
 exact zz.o) : P := k ⟨h⟩
theorem ui (h : Q) (k : Hd Q -> P := by
 intro zz
 refine wpList_nil (Jv hS ?_)
 (refine UH az ?_)
 exact zz.o) : P := k ⟨h⟩
theorem Yez (h : Q) (k : Hd Q -> P := by
 intro zz
 (refine wpList_nil (Xz (And.intro a8 ar) ?_))
 (refine KH (i := 8) rfl az ?_)
 refine Vy rfl ?_
 (refine wpList_nil (Xz (And.intro a8 ar) ?_))
 exact zz.o) : P := k ⟨h⟩
theorem Ymh (h : Q) (k : Hd Q -> P := by
 intro zz
 refine rx ?_
 (apply JkC; exact rfl; (conv => lhs; whnf); (conv => lhs; whnf))
 exact zz.o) : P := k ⟨h⟩
theorem YJ (h : Q) (k : Hd Q -> P := by
 intro zz
 (refine wpList_nil (Xz (And.intro trivial aH) ?_))
 (refine KH (i := 4) rfl az ?_)
 exact zz.o) : P := k ⟨h⟩
theorem RF (h : Q) (k : Hd Q -> P := by
 intro zz
 refine rx ?_
 (apply JkB; exact rfl; (conv => lhs; whnf); (conv => lhs; whnf); (conv => lhs; whnf))
 exact zz.o) : P := k ⟨h⟩
theorem Ymi (h : Q) (k : Hd Q -> P := by
 intro zz
 (refine JJ (i := 35) rfl az ?_)
 refine Vy rfl ?_
 refine wpList_nil (Jv hS ?_)
 (refine JJ (i := 36) rfl az ?_)
 refine Ku rfl ?_
 exact zz.o) : P := k ⟨h⟩
theorem Ymj (h : Q) (k : Hd Q -> P := by
 intro zz
 (refine JJ (i := 24) rfl az ?_)
 refine Vy rfl ?_
 refine wpList_nil (Jv hS ?_)
 (refine JJ (i := 25) rfl az ?_)
 refine Ku rfl ?_
 exact zz.o) : P := k ⟨h⟩
theorem AQ (h : Q) (k : Hd Q -> P := by
 intro zz
 (refine wpList_nil (Xz (And.intro trivial aH) ?_))
 (refine KH (i := 5) rfl az ?_)
 exact zz.o) : P := k ⟨h⟩
theorem zB (h : Q) (k : Hd Q -> P := by
 intro zz
 refine rx ?_
 (refine JE (fun z => Fr [] u z) az rfl ?_)
 exact zz.o) : P := k ⟨h⟩
theorem AR (h : Q) (k : Hd Q -> P := by
 intro zz
 refine rx ?_
 refine J4 rfl rfl rQ ?_
 refine rx ?_
 exact zz.o) : P := k ⟨h⟩
theorem Yfg (h : Q) (k : Hd Q -> P := by
 intro zz
 (refine wpList_nil (Xz (And.intro a8 ar) ?_))
 (refine KH (i := 7) rfl az ?_)
 exact zz.o) : P := k ⟨h⟩
theorem Yfd (h : Q) (k : Hd Q -> P := by
 intro zz
 (refine KH (i := 9) rfl az ?_)
 refine Vy rfl ?_
 (refine wpList_nil (Xz hS ?_))
 (refine KH (i := 10) rfl az ?_)
 refine Ku rfl ?_
 exact zz.o) : P := k ⟨h⟩
theorem Yfi (h : Q) (k : Hd Q -> P := by
 intro zz
 (refine LZ rfl rfl ?_ YK; refine rx ?_)
 refine Jl (Uz p 3 _ hG ab) ?_
 exact zz.o) : P := k ⟨h⟩
theorem Yfj (h : Q) (k : Hd Q -> P := by
 intro zz
 (refine LZ rfl rfl ?_ YK; refine rx ?_)
 refine Jl (Uz p 2 _ hG ab) ?_
 exact zz.o) : P := k ⟨h⟩
theorem Pk (h : Q) (k : Hd Q -> P := by
 intro zz
 refine rx ?_
 refine Jg (Vo q _ 0 _ ai.1) ?_
 exact zz.o) : P := k ⟨h⟩
theorem Am (h : Q) (k : Hd Q -> P := by
 intro zz
 refine rx ?_
 refine Jg (MF q _ _ ai.1 ab) ?_
 exact zz.o) : P := k ⟨h⟩
theorem PX (h : Q) (k : Hd Q -> P := by
 intro zz
 refine rn ?_
 refine VH rfl hr.1 rfl ?_
 exact zz.o) : P := k ⟨h⟩
theorem Ak (h : Q) (k : Hd Q -> P := by
 intro zz
 refine enter func131 rfl ntmps131 rfl ?_
 refine rx ?_
 exact zz.o) : P := k ⟨h⟩
theorem Yml (h : Q) (k : Hd Q -> P := by
 intro zz
 refine wpList_nil (Jv hS ?_)
 (refine JJ (i := 37) rfl az ?_)
 exact zz.o) : P := k ⟨h⟩
theorem Ymm (h : Q) (k : Hd Q -> P := by
 intro zz
 refine wpList_nil (Jv hS ?_)
 (refine JJ (i := 26) rfl az ?_)
 exact zz.o) : P := k ⟨h⟩
theorem Yfp (h : Q) (k : Hd Q -> P := by
 intro zz
 refine rx ?_
 refine JF [zI, zT, zI, zS, zS, zI, zT, zS, zI, zT, zI, zS, zS, zS, zI, zI, zI, zT, zS, zS, zS, zI, zS, zS, zS, zS, zI, zT, zS, zI, zT, zI, zS, zS, zS, zI, zS, zS, zI, zT, zI, zS, zS, zS, zI] rfl ?_
 exact zz.o) : P := k ⟨h⟩
theorem Yfq (h : Q) (k : Hd Q -> P := by
 intro zz
 refine rx ?_
 refine KW rfl hc ?_
 refine rx ?_
 exact zz.o) : P := k ⟨h⟩
theorem Ξ (h : Q) (k : Hd Q -> P := by
 intro zz
 refine rx ?_
 refine Vz rfl hc hlen ?_
 refine rx ?_
 exact zz.o) : P := k ⟨h⟩
theorem Yfs (h : Q) (k : Hd Q -> P := by
 intro zz
 refine rx ?_
 (refine JE (fun z => Fr [] w z) az rfl ?_)
 exact zz.o) : P := k ⟨h⟩
theorem Yft (h : Q) (k : Hd Q -> P := by
 intro zz
 (refine wpList_nil (Xz (And.intro trivial aH) ?_))
 (refine KH (i := 6) rfl az ?_)
 exact zz.o) : P := k ⟨h⟩
theorem Ymn (h : Q) (k : Hd Q -> P := by
 intro zz
 (refine JX 8 9 hS ?_)
 (refine JJ (i := 7) rfl az ?_)
 refine Jg (R0 hI rn) ?_
 exact zz.o) : P := k ⟨h⟩
theorem Yfm (h : Q) (k : Hd Q -> P := by
 intro zz
 refine rx ?_
 refine KW rfl (by rw [Dq]; exact bV) ?_
 exact zz.o) : P := k ⟨h⟩
theorem Yfu (h : Q) (k : Hd Q -> P := by
 intro zz
 refine rx ?_
 refine Jh 5 [4] (σ := Nat) (fun i g u => g 4 = iV i /\ i <= l.length /\ FB u q /\ Fr [q] w u) (fun i => l.length - i) 0 ⟨rfl, SL _, h1, aj⟩ ?_
 exact zz.o) : P := k ⟨h⟩
theorem Yfv (h : Q) (k : Hd Q -> P := by intro zz; refine ⟨Ub _, jr 32 Ny, rfl, ?_, rfl, lx 41 (.inr rfl), Gv _, trivial⟩; exact zz.o) : P := k ⟨h⟩
theorem gZ (h : Q) (k : Hd Q -> P := by intro zz; (apply TF; exact rfl; (conv => lhs; whnf)); exact zz.o) : P := k ⟨h⟩
theorem gK (h : Q) (k : Hd Q -> P := by intro zz; (refine UH az ?_); exact zz.o) : P := k ⟨h⟩
theorem An (h : Q) (k : Hd Q -> P := by intro zz; (refine Jj 0 1 2 3 hS ?_; refine Jj 4 5 6 7 hS ?_); exact zz.o) : P := k ⟨h⟩
theorem ft (h : Q) (k : Hd Q -> P := by intro zz; refine wpList_nil (Jv hS ?_); exact zz.o) : P := k ⟨h⟩
theorem Yga (h : P := by exact Jc (i + 1) la ⟨rfl, by omega, he, hf.Jb hS⟩ ab) : P := h
theorem Ygb (h : P := by exact h v' w' ⟨ho, fun b hb hm => (hk b hb).elim (fun h => hR.2 b h hm) (fun h => by have := hX b hm; omega)⟩ hf hk) : P := h
theorem Ygc (h : P := by exact WI rfl ⟨rfl, ⟨_, _, _, h2⟩, (QL aj).trans aq (fun x hx => .inl hx)⟩) : P := h
theorem Ygd (h : Q) (k : Hd Q -> P := by intro zz; refine aT (XQ p _ (V.map bN) w0 rO (by rw [Io, Sr]; exact oR.1) (by rw [Io]; exact oR.2) (by simpa using h0) (by simpa using hV9)) rfl ?_; exact zz.o) : P := k ⟨h⟩
theorem oS (h : Q) (k : Hd Q -> P := by intro zz; (refine LZ rfl rfl ?_ YK; refine rx ?_); exact zz.o) : P := k ⟨h⟩
theorem Ygf (h : Q) (k : Hd Q -> P := by intro zz; refine aT (XQ p _ [[32, 60, 32], [32, 60, 61, 32], [32, 61, 61, 32], [32, 33, 61, 32]] u (fC.tr0 aY) ho.src (fC.off ho rfl) ap ap) rfl ?_; exact zz.o) : P := k ⟨h⟩
theorem Ygg (h : P := by exact Jc (i + 1) a6 ⟨rfl, rfl, by omega, aY.Jb aq⟩ ab) : P := h
theorem yw (h : P := by exact WI rfl ⟨rfl, ai.1, ai.2.1⟩) : P := h
theorem Pc (h : P := by exact Jc (i + 1) a6 ⟨rfl, by omega, ai⟩ ab) : P := h
theorem Ygj (h : P := by exact Jc (i + 1) a6 ⟨rfl, by omega, pJ, bX⟩ ab) : P := h
theorem xc (h : Q) (k : Hd Q -> P := by intro zz; (refine wpList_nil (Xz (And.intro trivial hb) ?_)); exact zz.o) : P := k ⟨h⟩
theorem zn (h : Q) (k : Hd Q -> P := by intro zz; (refine KH (i := 5) rfl az ?_); exact zz.o) : P := k ⟨h⟩
theorem xd (h : Q) (k : Hd Q -> P := by intro zz; (refine KH (i := 7) rfl az ?_); exact zz.o) : P := k ⟨h⟩
theorem Tj (h : Q) (k : Hd Q -> P := by intro zz; (refine KH (i := 8) rfl az ?_); exact zz.o) : P := k ⟨h⟩
theorem tR (h : Q) (k : Hd Q -> P := by intro zz; (refine KH (i := 10) rfl az ?_); exact zz.o) : P := k ⟨h⟩
theorem qs (h : Q) (k : Hd Q -> P := by intro zz; (refine wpList_nil (JiQ ?_)); exact zz.o) : P := k ⟨h⟩
theorem YY (h : Q) (k : Hd Q -> P := by intro zz; (refine KH (i := 11) rfl az ?_); exact zz.o) : P := k ⟨h⟩
theorem y7 (h : Q) (k : Hd Q -> P := by intro zz; (refine KH (i := 3) rfl az ?_); exact zz.o) : P := k ⟨h⟩
theorem tH (h : Q) (k : Hd Q -> P := by intro zz; (refine wpList_nil (Xz (And.intro trivial aH) ?_)); exact zz.o) : P := k ⟨h⟩
theorem zw (h : Q) (k : Hd Q -> P := by intro zz; (refine JJ (i := 4) rfl az ?_); exact zz.o) : P := k ⟨h⟩
theorem zD (h : Q) (k : Hd Q -> P := by intro zz; (refine JJ (i := 5) rfl az ?_); exact zz.o) : P := k ⟨h⟩
theorem Tu (h : Q) (k : Hd Q -> P := by intro zz; (refine JJ (i := 7) rfl az ?_); exact zz.o) : P := k ⟨h⟩
theorem AG (h : Q) (k : Hd Q -> P := by intro zz; (refine KH (i := 6) rfl az ?_); exact zz.o) : P := k ⟨h⟩
theorem Ygu (h : P := by exact Jc (i + 1) a6 ⟨rfl, rfl, rfl, by omega, he, eN, aY.Jb aI⟩ ab) : P := h
theorem Ygv (h : P := by exact Jc (i + 1) a6 ⟨rfl, by omega, he, rfl⟩ ab) : P := h
theorem Ygw (h : P := by exact h v' w' ⟨ho, fun b hb => (hk b hb).elim (fun h => hR.2 b h) kX⟩ (fun T hT => hT.trans hf (fun b hb => .inr (hR.2 b hb)))) : P := h
theorem TC (h : Q) (k : Hd Q -> P := by intro zz; (refine JJ (i := 9) rfl az ?_); exact zz.o) : P := k ⟨h⟩
theorem yj (h : Q) (k : Hd Q -> P := by intro zz; refine wpList_nil (Jv fq ?_); exact zz.o) : P := k ⟨h⟩
theorem zK (h : Q) (k : Hd Q -> P := by intro zz; (refine JJ (i := 11) rfl az ?_); exact zz.o) : P := k ⟨h⟩
theorem Pf (h : Q) (i : R) (k : Hd Q -> Hd R -> P := by intro zz yy; refine Qw (fun g u => g 0 = .pointer (some ⟨q, 0, none⟩) /\ g 3 = .pointer (some ⟨b, 0, none⟩) /\ g 4 = iV d.kind /\ g 5 = .bool false /\ g 6 = .bool false /\ g 7 = .bool false /\ g 8 = .bool false /\ ST q b [iV d.kind, .string d.name, iV d.at_, .slice ct mM iO, .slice pm mN iG, iV d.type.kind, .string d.type.name, .slice ty mO ix, iV d.body.kind, .string d.body.name, iV d.body.n, .slice gV dy dz, .slice gW dA dC, .slice gX dD dE, iV d.body.at_, iV d.depth, iV d.gen.kind, .string d.gen.name, .slice gA cY cZ, .slice gB c8 c9, .slice gC da de, iV d.gen.at_, .slice dw mP gv, .slice ck mQ fX, .slice cs mR fR, .slice cl mS fY, iV d.state.kind, .string d.state.name, .slice st mT ig, iV d.init.kind, .string d.init.name, iV d.init.n, .slice gD df dh, .slice gE dj dl, .slice gF dm dn, iV d.init.at_, .slice cm mU fM, .slice op mV fH, iV d.recov.kind, .string d.recov.name, iV d.recov.n, .slice gw cJ cK, .slice gx cL cM, .slice gy cO cQ, iV d.recov.at_] 105 w u) ?_ ?_; exact zz.o; exact yy.o) : P := k ⟨h⟩ ⟨i⟩
theorem Pg (h : Q) (i : R) (k : Hd Q -> Hd R -> P := by intro zz yy; refine Qw (fun g u => g 0 = .pointer (some ⟨q, 0, none⟩) /\ g 3 = .pointer (some ⟨b, 0, none⟩) /\ g 4 = iV d.kind /\ g 5 = .bool true /\ g 6 = .bool false /\ g 7 = .bool false /\ g 8 = .bool false /\ ST q b [iV d.kind, .string d.name, iV d.at_, .slice ct mM iO, .slice pm mN iG, iV d.type.kind, .string d.type.name, .slice ty mO ix, iV d.body.kind, .string d.body.name, iV d.body.n, .slice gV dy dz, .slice gW dA dC, .slice gX dD dE, iV d.body.at_, iV d.depth, iV d.gen.kind, .string d.gen.name, .slice gA cY cZ, .slice gB c8 c9, .slice gC da de, iV d.gen.at_, .slice dw mP gv, .slice ck mQ fX, .slice cs mR fR, .slice cl mS fY, iV d.state.kind, .string d.state.name, .slice st mT ig, iV d.init.kind, .string d.init.name, iV d.init.n, .slice gD df dh, .slice gE dj dl, .slice gF dm dn, iV d.init.at_, .slice cm mU fM, .slice op mV fH, iV d.recov.kind, .string d.recov.name, iV d.recov.n, .slice gw cJ cK, .slice gx cL cM, .slice gy cO cQ, iV d.recov.at_] 105 w u) ?_ ?_; exact zz.o; exact yy.o) : P := k ⟨h⟩ ⟨i⟩
theorem Ph (h : Q) (i : R) (k : Hd Q -> Hd R -> P := by intro zz yy; refine Qw (fun g u => g 0 = .pointer (some ⟨q, 0, none⟩) /\ g 3 = .pointer (some ⟨b, 0, none⟩) /\ g 4 = iV d.kind /\ g 5 = .bool false /\ g 6 = .bool true /\ g 7 = .bool false /\ g 8 = .bool false /\ ST q b [iV d.kind, .string d.name, iV d.at_, .slice ct mM iO, .slice pm mN iG, iV d.type.kind, .string d.type.name, .slice ty mO ix, iV d.body.kind, .string d.body.name, iV d.body.n, .slice gV dy dz, .slice gW dA dC, .slice gX dD dE, iV d.body.at_, iV d.depth, iV d.gen.kind, .string d.gen.name, .slice gA cY cZ, .slice gB c8 c9, .slice gC da de, iV d.gen.at_, .slice dw mP gv, .slice ck mQ fX, .slice cs mR fR, .slice cl mS fY, iV d.state.kind, .string d.state.name, .slice st mT ig, iV d.init.kind, .string d.init.name, iV d.init.n, .slice gD df dh, .slice gE dj dl, .slice gF dm dn, iV d.init.at_, .slice cm mU fM, .slice op mV fH, iV d.recov.kind, .string d.recov.name, iV d.recov.n, .slice gw cJ cK, .slice gx cL cM, .slice gy cO cQ, iV d.recov.at_] 105 w u) ?_ ?_; exact zz.o; exact yy.o) : P := k ⟨h⟩ ⟨i⟩
theorem Pj (h : Q) (i : R) (k : Hd Q -> Hd R -> P := by intro zz yy; refine Qw (fun g u => g 0 = .pointer (some ⟨q, 0, none⟩) /\ g 3 = .pointer (some ⟨b, 0, none⟩) /\ g 4 = iV d.kind /\ g 5 = .bool false /\ g 6 = .bool false /\ g 7 = .bool true /\ g 8 = .bool false /\ ST q b [iV d.kind, .string d.name, iV d.at_, .slice ct mM iO, .slice pm mN iG, iV d.type.kind, .string d.type.name, .slice ty mO ix, iV d.body.kind, .string d.body.name, iV d.body.n, .slice gV dy dz, .slice gW dA dC, .slice gX dD dE, iV d.body.at_, iV d.depth, iV d.gen.kind, .string d.gen.name, .slice gA cY cZ, .slice gB c8 c9, .slice gC da de, iV d.gen.at_, .slice dw mP gv, .slice ck mQ fX, .slice cs mR fR, .slice cl mS fY, iV d.state.kind, .string d.state.name, .slice st mT ig, iV d.init.kind, .string d.init.name, iV d.init.n, .slice gD df dh, .slice gE dj dl, .slice gF dm dn, iV d.init.at_, .slice cm mU fM, .slice op mV fH, iV d.recov.kind, .string d.recov.name, iV d.recov.n, .slice gw cJ cK, .slice gx cL cM, .slice gy cO cQ, iV d.recov.at_] 105 w u) ?_ ?_; exact zz.o; exact yy.o) : P := k ⟨h⟩ ⟨i⟩
theorem YL (h : Q) (k : Hd Q -> P := by intro zz; refine Jg (Jcm k1 w1 ab) ?_; exact zz.o) : P := k ⟨h⟩
theorem Ri (h : Q) (k : Hd Q -> P := by intro zz; (apply JkC; exact rfl; (conv => lhs; whnf); (conv => lhs; whnf)); exact zz.o) : P := k ⟨h⟩
theorem Ymp (h : Q) (k : Hd Q -> P := by intro zz; (refine JE (fun z => Fr [] w5 z) az rfl ?_); exact zz.o) : P := k ⟨h⟩
theorem uW (h : Q) (k : Hd Q -> P := by intro zz; (refine JJ (i := 10) rfl az ?_); exact zz.o) : P := k ⟨h⟩
theorem Px (h : Q) (k : Hd Q -> P := by intro zz; refine Jl (Jfx ds nm v0 u S0 fA hl (pO.tr0 hS)) ?_; exact zz.o) : P := k ⟨h⟩
theorem Ylr (h : Q) (k : Hd Q -> P := by intro zz; (refine Jj 0 1 2 3 hS ?_; refine Jj 4 5 6 7 hS ?_; refine JX 8 9 hS ?_); exact zz.o) : P := k ⟨h⟩
theorem yD (h : Q) (k : Hd Q -> P := by intro zz; (refine wpList_nil (Xz hS ?_)); exact zz.o) : P := k ⟨h⟩
theorem Yhg (h : P := by exact Jc (i + 1, none) a6 ⟨rfl, aC, hF.Jb aS, jw.tr0 aS, rfl, iW⟩ eM) : P := h
theorem Yhh (h : P := by exact JK a6 ⟨vt, rfl, ias he (Fr.refl _ _), .refl, fun x hx => qY x (.inr hx), SX _⟩) : P := h
theorem Ae (h : Q) (k : Hd Q -> P := by intro zz; (refine Jj 0 1 2 3 hS ?_; refine bH 4 hS ?_); exact zz.o) : P := k ⟨h⟩
theorem Yhi (h : P := by exact JK a6 yT) : P := h
theorem AD (h : P := by exact JK a6 hI) : P := h
theorem Ymr (h : P := by exact JK a6 ⟨vc, v, hI, ho, oM, hp, dJ, dW, hF⟩) : P := h
theorem Yms (h : Q) (k : Hd Q -> P := by intro zz; (refine Jj 9 10 11 12 hS ?_; refine Jj 13 14 15 16 hS ?_; refine Jj 17 18 19 20 hS ?_; refine bH 21 hS ?_); exact zz.o) : P := k ⟨h⟩
theorem PW (h : Q) (i : R) (k : Hd Q -> Hd R -> P := by intro zz yy; refine Qw (fun g u => g 0 = .pointer (some ⟨q, 0, none⟩) /\ g 3 = .pointer (some ⟨b, 0, none⟩) /\ g 4 = iV d.kind /\ g 5 = .bool false /\ g 6 = .bool false /\ g 7 = .bool false /\ g 8 = .bool true /\ ST q b [iV d.kind, .string d.name, iV d.at_, .slice ct mM iO, .slice pm mN iG, iV d.type.kind, .string d.type.name, .slice ty mO ix, iV d.body.kind, .string d.body.name, iV d.body.n, .slice gV dy dz, .slice gW dA dC, .slice gX dD dE, iV d.body.at_, iV d.depth, iV d.gen.kind, .string d.gen.name, .slice gA cY cZ, .slice gB c8 c9, .slice gC da de, iV d.gen.at_, .slice dw mP gv, .slice ck mQ fX, .slice cs mR fR, .slice cl mS fY, iV d.state.kind, .string d.state.name, .slice st mT ig, iV d.init.kind, .string d.init.name, iV d.init.n, .slice gD df dh, .slice gE dj dl, .slice gF dm dn, iV d.init.at_, .slice cm mU fM, .slice op mV fH, iV d.recov.kind, .string d.recov.name, iV d.recov.n, .slice gw cJ cK, .slice gx cL cM, .slice gy cO cQ, iV d.recov.at_] 105 w u) ?_ ?_; exact zz.o; exact yy.o) : P := k ⟨h⟩ ⟨i⟩
theorem a6 (h : P := by (repeat (first | exact dR.refl _ _ _ | exact dR.mrg _ _ _ _ | (refine dR.hi rfl ?_) | (refine dR.one rfl ?_) | exact dR.all rfl | (refine dR.inn rfl ?_) | (refine dR.set rfl ?_)))) : P := h
theorem aX (h : P := by exact fun x hx => by first | exact .inl hx | exact .inl (SC.2 (.inl (Sv.1 hx)))) : P := h
theorem ab (h : P := by omega) : P := h
theorem ak (h : P := by simp <;> omega) : P := h
theorem az (h : P := by kernel_rfl) : P := h
theorem bt (h : P := by rw [Sv.1 hx]; omega) : P := h
theorem la (h : P := by (repeat (first | exact dR.mrg _ _ _ _ | (refine dR.hi rfl ?_) | (refine dR.one rfl ?_) | exact dR.all rfl | (refine dR.inn rfl ?_) | (refine dR.set rfl ?_)))) : P := h
theorem ap (h : P := by simp) : P := h
theorem aZ (h : P := by simp; omega) : P := h
theorem dt (h : P := by unfold maxLen; omega) : P := h
theorem dQ (h : P := by simp [Value.oneCell']) : P := h
theorem eM (h : P := by simp only; omega) : P := h
theorem bU (h : P := by decide) : P := h
theorem oT (h : P := by (try simp only [Ql, List.append_assoc]); kernel_rfl) : P := h
theorem gi (h : P := by assumption) : P := h
theorem qw (h : P := by rw [<- Sv.1 hm]; exact hx) : P := h
theorem qH (h : P := by simp only [Sm]; omega) : P := h
theorem YK (h : P := by simp only [List.append_eq, Sm, SI, SY]; omega) : P := h
theorem oz (h : P := by simp [ag, Value.ownBlock]) : P := h
theorem kX (h : P := by exact fun h => by omega) : P := h
theorem fD (h : P := by rfl) : P := h
theorem mv (h : P := by simpa using lV) : P := h
theorem YM (h : P := by exact fun b hb => by simp at hb ⊢; rcases hb with h | h | h <;> simp [h]) : P := h
theorem y5 (h : P := by simp [ag, Value.ownBlock, Jk]; omega) : P := h
theorem mE (h : P := by simpa using h) : P := h
theorem sD (h : P := by simp [Jk] <;> omega) : P := h
theorem lr (h : P := by simp [hb]) : P := h
theorem lA (h : P := by simp [hx]) : P := h
theorem xe (h : P := by rw [Ce]; exact nT) : P := h
theorem y8 (h : P := by intro b hb; simp [Jk]; omega) : P := h
theorem zt (h : P := by rw [e]; simp [ag, Value.ownBlock]) : P := h
theorem xo (h : P := by unfold maxLen; simp; omega) : P := h
theorem wJ (h : P := by simp at hx ⊢; simp [hx]) : P := h
theorem RP (h : P := by rw [Sv.1 hx]; exact uh) : P := h
theorem Yis (h : P := by intro c hc; simp only [SC, S9, CU] at hc; rcases hc with rfl | rfl | rfl | rfl | rfl <;> first | rfl | assumption) : P := h
theorem y0 (h : P := by simp [Jk] at hb ⊢; omega) : P := h
theorem Yiu (h : P := by intro u hu; exact (Kv rfl (Cells.VO hu.1) rfl)) : P := h
theorem mi (h : P := by cases h) : P := h
theorem Yiv (h : P := by exact fun x hx hm => by have h1 := su x hm; have h2 := qE x hx; rcases DF x n14 with h3 | h3; (have := ss x (h2.2.2 h3); omega); omega) : P := h
theorem wK (h : P := by simp [bN, Ql]) : P := h
theorem Tr (h : P := by rw [Ce]; exact nn) : P := h
theorem Yja (h : P := by exact fun x hx hm => by have := tc x hx; rw [Sv.1 hm] at this; omega) : P := h
theorem Yls (h : P := by simp only [raw, Sm]; omega) : P := h
theorem Yje (h : P := by simp only [mZ, Qn, Eh]; exact ⟨hA, h0, g1.1⟩) : P := h
theorem tY (h : P := by simpa using hi) : P := h
theorem Yjg (h : P := by exact fun hm => by rcases uY hm with h | h | h; exact icb h.symm; exact iqt h.symm; exact (mj tm h).2.2.2.2.2.1 rfl) : P := h
theorem Yjh (h : P := by exact fun hm => by rcases uY hm with h | h | h; exact ica h.symm; exact iqb h.symm; exact (mj bm h).2.2.2.2.1 rfl) : P := h
theorem Yji (h : P := by unfold bD; simp only [jc, WH]; omega) : P := h
theorem Y1 (h : P := by rw [Ce]; exact eN) : P := h
theorem Yjk (h : P := by rw [h]; exact Sv.2 rfl) : P := h
theorem sE (h : P := by simp [hp5]) : P := h
theorem PY (h : P := by exact fun b hb => by simp [hb]) : P := h
theorem Ymt (h : P := by simp only [execOp, eqGuard, binOp, Op.intBits, hx, hy, hr]; simp) : P := h
theorem Ymu (h : P := by have h := Cells.get hu (j := 3) rfl; rw [add_lit] at h; exact h) : P := h
theorem Yjn (h : P := by exact fun j x hx => by rw [add_lit]; exact hb.cell (by simpa using hx)) : P := h
theorem Φ (h : P := by simp [ag, Value.ownBlock]; omega) : P := h
theorem Yjp (h : P := by rw [Sv.1 h]; omega) : P := h
theorem ω (h : P := by rw [Sv.1 hb]; simp) : P := h
theorem Yjr (h : P := by intro u hu; exact (J7 rfl (aG.cell (wa.tr0 hu) rfl))) : P := h
theorem Yjs (h : P := by exact fun j u hu => by have := (Cells.VO hb).sub o m j u hu; rwa [add_lit, Di] at this) : P := h
theorem Ylu (h : P := by rw [Dq]; exact bV hu) : P := h
theorem Yju (h : P := by simp [execOp, resolve, invoke, builtin, Builtin.len_, run_underlying S.u, hx, goInt]) : P := h
theorem Yjv (h : P := by simp [execOp, eqGuard, binOp, Op.intArith, hx, hy, hr]) : P := h
theorem Yjx (h : P := by rw [Sv.1 hx]; exact hp) : P := h
theorem Yjy (h : P := by exact fun b hb => by have := Jk.1 hb; omega) : P := h
theorem Yjz (h : P := by simp [execOp, resolve, invoke, builtin, hs, hx, hr]) : P := h
theorem YN (h : P := by simp [Jk.2 lV]) : P := h
theorem Ykb (h : P := by exact fun k hk => by rcases SE.1 hk with h | h; exact .inl h; exact hT k h) : P := h
theorem Ykc (h : P := by exact fun b hb => by rcases SE.1 hb with h | h; exact .inl h; exact hT b h) : P := h
theorem Ykd (h : P := by exact fun b hb => by rcases hT b hb with h | h; exact .inl (Jk.2 h); exact .inr h) : P := h
theorem Yke (h : P := by exact fun k hk hm => by have := oD k hk; rw [Sv.1 hm] at this; omega) : P := h
theorem Ykf (h : P := by rw [JeE, Dq]) : P := h
theorem Yip (h : P := by rw [Sv.1 hx]; simp) : P := h
theorem Ykg (h : P := by simp [eqGuard, binOp, Op.intCmp]) : P := h
theorem Y2 (h : P := by unfold maxLen; simp) : P := h
theorem Yki (h : P := by exact fun h => by have := ss x h; omega) : P := h
theorem Ykj (h : P := by simp [ag, Value.ownBlock, e]) : P := h
theorem T9 (h : P := by split <;> omega) : P := h
theorem Ylv (h : P := by rw [C9, Hw hk]) : P := h
theorem xn (h : P := by simp [h]) : P := h
theorem Ymw (h : P := by simp at hx; simp [hx]) : P := h
theorem yB (h : P := by simp [hk]) : P := h
theorem AN (h : P := by unfold bF; omega) : P := h
theorem AS (h : P := by unfold bD; omega) : P := h
theorem Yko (h : P := by simpa [ag, Value.ownBlock] using hb) : P := h
theorem Ykp (h : P := by exact fun nx => by kernel_rfl) : P := h
theorem Ah (h : P := by simpa using ah) : P := h
theorem Ag (h : P := by simpa using hb) : P := h
end
end Go.Rf
