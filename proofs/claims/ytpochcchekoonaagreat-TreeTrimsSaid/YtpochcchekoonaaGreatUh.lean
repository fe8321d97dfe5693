/-
  Calls with a deferred call that recovers; package tree: read.
-/
import Derived.Test.YtpochcchekoonaaGreatUg
namespace Go.Rf
open Go.RowKit
set_option linter.unusedVariables false
set_option linter.unusedSimpArgs false
theorem enterD {P : Program} {fid : FuncId} {fn : Func} {c : Code} {l : List Value} {w : World} {R : Ending → World → Prop} {n : Nat}
    (hf : P.funcs[fid]? = some fn) (hb : fn.body = some c) (hn : fn.ntmps = n) (hl : Nat.ble l.length n = true)
    (h : c.wp P (bodyPostD P fn R) (A n (envL 0 l)) w) : Calls P fid l.toArray w R := by
  refine calls_of_wp_defers hf hb ?_
  rw [enter_act hn hl]
  exact h
section
variable {D : Dfs}
variable {P : Program} {ops : Array Oper} {Q : Exit → Act → World → Prop} {rest : List Oper} {n : Nat} {f : Env} {w : World}
variable {d : Nat} {ty : TypeId} {ps : String} {af : Array Edge} {x y : Operand} {t t2 : Nat}
theorem s_defer {k g : Nat} {cap : List Value} {at_ : Array TypeId} (hg : ev n f (.tmp g) = .func (.func k) #[] cap.toArray)
    (h : wpList P ops Q rest (@A n f ⟨{ target := .fn (.func k) cap.toArray, args := #[] } :: D.ds⟩) w) :
    wpList P ops Q (⟨none, .defer { callee := .value (.tmp g), args := #[], argTypes := at_ }, ty, ps, af, none⟩ :: rest) (A n f) w := by
  refine wpList_plain rfl fun K hK => ?_
  unfold Oper.wp
  rw [A_eval]
  have hr : (execOp (ev n f) ⟨none, .defer { callee := .value (.tmp g), args := #[], argTypes := at_ }, ty, ps, af, none⟩).run P w = .ok (.defer { target := .fn (.func k) cap.toArray, args := #[] }) w := by
    simp [execOp, resolve, hg, Deferred.ofValue]
  rw [hr]
  exact hK _ _ h
theorem s_assert {m xt : Nat} {v : Value} [G : AggT P t m] (hx : ev n f x = .iface t v) (h : wpList P ops Q rest (A n (upd f d (.tuple #[v, .bool true]))) w) : wpList P ops Q (⟨some d, .typeAssert x xt t true, ty, ps, af, none⟩ :: rest) (A n f) w := by
  obtain ⟨dd, hd, ha⟩ := G.agg
  refine s_run ?_ h
  cases dd <;> simp_all [execOp, Instr.typeAssert, run_underlying hd, aggD]
class IfcT (P : Program) (t : Nat) : Prop where
  u : ∃ ms, P.underlying t = some (.interface ms)
theorem equalIn_nil (k : Nat) {ms : Array (String × TypeId)} (hu : P.underlying t = some (.interface ms)) : (Op.equalIn (k + 1) t .nilIface .nilIface).run P w = .ok true w := by
  simp [Op.equalIn, run_underlying hu]
theorem equalIn_ifcNil (k : Nat) {ms : Array (String × TypeId)} {tt : Nat} {v : Value} (hu : P.underlying t = some (.interface ms)) : (Op.equalIn (k + 1) t (.iface tt v) .nilIface).run P w = .ok false w := by
  simp [Op.equalIn, run_underlying hu]
theorem s_ifcNil [T : IfcT P t] (hx : ev n f x = .nilIface) (h : wpList P ops Q rest (A n (upd f d (.bool false))) w) : wpList P ops Q (⟨some d, .binOp .neq t x (.const .nilIface) t2, ty, ps, af, none⟩ :: rest) (A n f) w := by
  obtain ⟨ms, hu⟩ := T.u
  have : (Op.equal t .nilIface .nilIface).run P w = .ok true w := equalIn_nil 9999 hu
  have hy : ev n f (.const .nilIface) = .nilIface := rfl
  exact s_run (by simp [execOp, eqGuard, binOp, hx, hy, this]) h
theorem s_ifcNotNil {tt : Nat} {v : Value} [T : IfcT P t] (hx : ev n f x = .iface tt v) (h : wpList P ops Q rest (A n (upd f d (.bool true))) w) : wpList P ops Q (⟨some d, .binOp .neq t x (.const .nilIface) t2, ty, ps, af, none⟩ :: rest) (A n f) w := by
  obtain ⟨ms, hu⟩ := T.u
  have : (Op.equal t (.iface tt v) .nilIface).run P w = .ok false w := equalIn_ifcNil 9999 hu
  have hy : ev n f (.const .nilIface) = .nilIface := rfl
  exact s_run (by simp [execOp, eqGuard, binOp, hx, hy, this]) h
end
section
variable {P : Program} {fn : Func} {R : Ending → World → Prop} {n k ty fid : Nat} {f : Env} {w : World} {cap : List Value} {a : Addr}
theorem leave1 {u : FrameMode} {D : Dfs} [F : FnT P fid] (hr : fn.results = #[.cell k ty]) (hv : ev n f (.tmp k) = .pointer (some a)) (hu : u ≠ .run) (h : CallsD P fid cap.toArray u w fun e u2 w' => (∃ x, e = .returned x) ∧ settle u2 = .returning ∧ ∃ v, (loadVar ty a).run P w' = .ok v w' ∧ R (.returned v) w') :
    Leaves P fn (A n f).tmps R [{ target := .fn (.func fid) cap.toArray, args := #[] }] u w := by
  obtain ⟨fn', hf, hn, hb⟩ := F.f
  refine leaves_cons (f := fid) (args := cap.toArray) hu ?_ (h.mono ?_)
  · have hn' : ¬ fn'.name = "runtime.NumGoroutine" := by simpa using hn
    have hb' : ¬ fn'.body = none := by intro e; rw [e] at hb; cases hb
    simp [invoke, callFunc, hf, hn', hb']
  · rintro e u2 w' ⟨⟨x, rfl⟩, h2, v, h3, h4⟩
    show Leaves P fn _ R [] (settle u2) w'
    rw [h2]
    refine ⟨v, ?_, h4⟩
    have e : (A n f).tmps.getD k undef = .pointer (some a) := by rw [A_getD]; exact hv
    rw [Array.getD_eq_getD_getElem?] at e
    simp [results, hr, e, asAddr, h3]
theorem q_retD [F : FnT P fid] (hr : fn.results = #[.cell k ty]) (hv : ev n f (.tmp k) = .pointer (some a)) (h : CallsD P fid cap.toArray .returning w fun e u2 w' => (∃ x, e = .returned x) ∧ settle u2 = .returning ∧ ∃ v, (loadVar ty a).run P w' = .ok v w' ∧ R (.returned v) w') :
    bodyPostD P fn R .ret (@A n f ⟨[{ target := .fn (.func fid) cap.toArray, args := #[] }]⟩) w := leave1 hr hv (by simp) h
theorem q_panD {ch : List PanicEntry} [F : FnT P fid] (hr : fn.results = #[.cell k ty]) (hv : ev n f (.tmp k) = .pointer (some a)) (h : CallsD P fid cap.toArray (.panicking ch) w fun e u2 w' => (∃ x, e = .returned x) ∧ settle u2 = .returning ∧ ∃ v, (loadVar ty a).run P w' = .ok v w' ∧ R (.returned v) w') :
    bodyPostD P fn R (.panic ch) (@A n f ⟨[{ target := .fn (.func fid) cap.toArray, args := #[] }]⟩) w := leave1 hr hv (by simp) h
end
/-- a deferred function that begins with 'x := recover()' -/
theorem enterR {P : Program} {fid : FuncId} {fn : Func} {id d1 d2 ty1 ty2 : Nat} {ps1 ps2 : String} {af1 af2 : Array Edge} {c : Code} {l : List Value} {w : World} {R : Ending → World → Prop} {n : Nat} {u u' : FrameMode} {v : Value}
    (hf : P.funcs[fid]? = some fn) (hb : fn.body = some (.seq (.region id #[⟨some d1, .call { callee := .builtin .recover, args := #[], argTypes := #[] }, ty1, ps1, af1, none⟩, ⟨some d2, .assign (.tmp d1), ty2, ps2, af2, none⟩] false) c)) (hn : fn.ntmps = n) (hl : Nat.ble l.length n = true) (hd : Nat.blt d1 n = true)
    (hrec : ∀ (c₀ : Frame) (cs : List Frame), c₀.mode = u → (recoverD (c₀ :: cs) = none ∧ v = .nilIface ∧ u' = u) ∨ recoverD (c₀ :: cs) = some (v, { c₀ with mode := u' } :: cs))
    (h : c.wp P (bodyPost P fn R) (A n (upd (upd (envL 0 l) d1 v) d2 v)) w) : CallsD P fid l.toArray u w fun e u2 w' => u2 = u' ∧ R e w' := by
  refine callsD_of_wpS hf hb fun c₀ cs hu => ?_
  rw [enter_act hn hl]
  refine wpS_seq (wpS_region ?_)
  have h2 : ∀ (cs' : List Frame), cs' = { c₀ with mode := u' } :: cs → c.wpS P (bodyPostS P fn c₀ cs fun e u2 w' => u2 = u' ∧ R e w') (A n (upd (upd (envL 0 l) d1 v) d2 v)) cs' w := by
    rintro _ rfl
    refine wpS_of_wp (wp_mono h fun e a w hq => ?_)
    cases e with
    | normal => obtain ⟨h1, v, h2, h3⟩ := hq; exact ⟨h1, u', rfl, v, h2, rfl, h3⟩
    | ret => obtain ⟨h1, v, h2, h3⟩ := hq; exact ⟨h1, u', rfl, v, h2, rfl, h3⟩
    | panic ch => obtain ⟨h1, h3⟩ := hq; exact ⟨h1, u', rfl, rfl, h3⟩
    | exit id => exact hq.elim
    | goto l => exact hq.elim
    | outgrown => exact ⟨u', rfl, hq⟩
  have hev : ev n (upd (envL 0 l) d1 v) (.tmp d1) = v := by
    show cond (Nat.blt d1 n) (upd (envL 0 l) d1 v d1) undef = v
    rw [hd, upd_same]; rfl
  have r2 : List.range 2 = [0, 1] := rfl
  have e1 : (execOp (ev n (envL 0 l)) ⟨some d1, .call { callee := .builtin .recover, args := #[], argTypes := #[] }, ty1, ps1, af1, none⟩).run P w = .ok .recover w := by simp [execOp, resolve, invoke, builtin]
  have e2 : (execOp (ev n (upd (envL 0 l) d1 v)) ⟨some d2, .assign (.tmp d1), ty2, ps2, af2, none⟩).run P w = .ok (.value v) w := by simp only [execOp, hev]; rfl
  have k2 : ∀ cs', cs' = { c₀ with mode := u' } :: cs → wpOpsS P #[⟨some d1, .call { callee := .builtin .recover, args := #[], argTypes := #[] }, ty1, ps1, af1, none⟩, ⟨some d2, .assign (.tmp d1), ty2, ps2, af2, none⟩] (Exit.thenS (c.wpS P (bodyPostS P fn c₀ cs fun e u2 w' => u2 = u' ∧ R e w')) (bodyPostS P fn c₀ cs fun e u2 w' => u2 = u' ∧ R e w')) [1] (A n (upd (envL 0 l) d1 v)) cs' w := by
    intro cs' hcs
    unfold wpOpsS
    simp only [Region.wanted, A_eval]
    simp only [List.getElem?_toArray, List.getElem?_cons_succ, List.getElem?_cons_zero, if_true, e2]
    unfold wpOpsS
    show c.wpS P _ ((A n (upd (envL 0 l) d1 v)).put (some d2) v) cs' w
    rw [A_put]
    exact h2 cs' hcs
  show wpOpsS P _ _ (List.range 2) _ _ _
  rw [r2]
  unfold wpOpsS
  simp only [Region.wanted, A_eval]
  simp only [List.getElem?_toArray, List.getElem?_cons_zero, if_true, e1]
  rcases hrec c₀ cs hu with ⟨h3, rfl, rfl⟩ | h3
  · simp only [h3, A_put]
    exact k2 _ (by rw [← hu])
  · simp only [h3, A_put]
    exact k2 _ rfl
end Go.Rf
namespace Go.Proofs.YtpochcchekoonaaGreat
open Go.Rf Go.RowKit
set_option linter.unusedVariables false
set_option linter.unusedSimpArgs false
instance : IfcT Tryz.prog 20 := ⟨⟨_, Tryz.underlying20⟩⟩
attribute [local irreducible] Code.wp wpList Exit.then Exit.inBlock bodyPost A Calls execOp Addr.add
def bad7 (i code : Int) : List Value := [.int .i64 0, .int .i64 0, .string .empty, .slice none 0 0, .int .i64 i, .slice none 0 0, .int .i64 code]
/-! ### read -/
def ReadR (t : List Nd) (flag : Bool) (S : List Nat) (u : World) (n : Nat) : Res V → Ending → World → Prop
  | .ok v e' sp, e, u' => Fr [] u u' ∧ (if e' = n then ∃ s sv sp', e = .returned (.agg (vc v s ++ [.int .i64 (-1), sv, .int .i64 0]).toArray) ∧ VS u' S v.kids s ∧ Own u' 93 3 sv sp'.length (spC sp') ∧ (flag = true → sp' = sp) ∧ (∀ q ∈ blks sv, u.heap.size ≤ q) else e = .returned (.agg (bad7 (-1) 11).toArray))
  | .stop i _, e, u' => Fr [] u u' ∧ e = .returned (.agg (bad7 i 0).toArray)
  | .bad, e, u' => Fr [] u u' ∧ e = .returned (.agg (bad7 (-1) 11).toArray)
theorem deferR (rb : Nat) (w : World) : CallsD Tryz.prog 116 #[.pointer (some ⟨rb, 0, none⟩)] .returning w fun e u2 w' => u2 = .returning ∧ e = .returned (.tuple #[]) ∧ w' = w := by
  refine enterR (l := [.pointer (some ⟨rb, 0, none⟩)]) Tryz.func116 rfl Tryz.ntmps116 rfl rfl (v := .nilIface) (u' := .returning) (fun c₀ cs h => .inl ⟨by simp [recoverD, h], rfl, rfl⟩) ?_
  refine rx ?_
  refine s_ifcNil rfl ?_
  refine rx ?_
  exact end0 rfl ⟨rfl, rfl⟩
theorem deferP (rb : Nat) (w : World) (i code : Int) (cs : List Value) (hb : Blk w rb cs 77) (hl : cs.length = 7) : CallsD Tryz.prog 116 #[.pointer (some ⟨rb, 0, none⟩)] (.panicking [stp i code]) w fun e u2 w' => u2 = .panicking [{ v := (stp i code).v, recovered := true }] ∧ e = .returned (.tuple #[]) ∧ Blk w' rb (bad7 i code) 77 ∧ Fr [rb] w w' := by
  refine enterR (l := [.pointer (some ⟨rb, 0, none⟩)]) Tryz.func116 rfl Tryz.ntmps116 rfl rfl (v := .iface 168 (.agg #[.int .i64 i, .int .i64 code])) (u' := .panicking [{ v := .iface 168 (.agg #[.int .i64 i, .int .i64 code]), recovered := true }]) (fun c₀ cs h => .inr (by simp [recoverD, h, stp])) ?_
  refine rx ?_
  refine s_ifcNotNil rfl ?_
  refine rx ?_
  refine s_assert rfl ?_
  refine rx ?_
  refine s_alloc rfl (fun w1 hb1 hf1 hs1 => ?_)
  refine s_storeAggB (cs := [.int .i64 i, .int .i64 code]) rfl rfl hb1 (by simp [Value.oneCell']) rfl rfl (fun w2 hb2 hf2 hs2 => ?_)
  refine rx ?_
  refine s_build (bad7 i code) rfl ?_
  have hlt := hb.lt
  refine s_storeAggB (cs := bad7 i code) rfl rfl ((hb.tr0 hf1).tr hf2 (by simp; omega)) (by simp [bad7, Value.oneCell']) hl rfl (fun w3 hb3 hf3 hs3 => ?_)
  refine rx ?_
  exact end0 rfl ⟨rfl, hb3, ((hf1.trans hf2 (by simp)).mono (by simp)).trans hf3 (by simp)⟩
theorem retD {fn : Func} {R : Ending → World → Prop} {n k : Nat} {f : Env} {w : World} {rb : Nat} {cs : List Value} (hr : fn.results = #[.cell k 77]) (hv : ev n f (.tmp k) = .pointer (some ⟨rb, 0, none⟩)) (hb : Blk w rb cs 77) (hl : cs.length = 7) (h : R (.returned (.agg cs.toArray)) w) :
    bodyPostD Tryz.prog fn R .ret (@A n f ⟨[{ target := .fn (.func 116) [.pointer (some ⟨rb, 0, none⟩)].toArray, args := #[] }]⟩) w :=
  q_retD hr hv ((deferR rb w).mono fun e u2 w' ⟨h1, h2, h3⟩ => ⟨⟨_, h2⟩, by rw [h1]; rfl, _, AggT.load _ cs hl (fun j x hx => by rw [h3, add_lit]; exact hb.cell (by simpa using hx)), by rw [h3]; exact h⟩)
theorem panD {fn : Func} {R : Ending → World → Prop} {n k : Nat} {f : Env} {w : World} {rb : Nat} {cs : List Value} {i code : Int} (hr : fn.results = #[.cell k 77]) (hv : ev n f (.tmp k) = .pointer (some ⟨rb, 0, none⟩)) (hb : Blk w rb cs 77) (hl : cs.length = 7) (h : ∀ w', Fr [rb] w w' → R (.returned (.agg (bad7 i code).toArray)) w') :
    bodyPostD Tryz.prog fn R (.panic [stp i code]) (@A n f ⟨[{ target := .fn (.func 116) [.pointer (some ⟨rb, 0, none⟩)].toArray, args := #[] }]⟩) w :=
  q_panD hr hv ((deferP rb w i code cs hb hl).mono fun e u2 w' ⟨h1, h2, h3, h4⟩ => ⟨⟨_, h2⟩, by rw [h1]; rfl, _, AggT.load _ (bad7 i code) rfl (fun j x hx => by rw [add_lit]; exact h3.cell (by simpa using hx)), h w' h4⟩)
set_option maxHeartbeats 4000000 in
theorem readP (t : List Nd) (hv : VT t) (ht0 : 0 < t.length) (hok : ∀ x ∈ t, NdOk x) (path : List Int) (hpl : path.length ≤ 1000000000) (bs : Nat → Nat) (flag : Bool) (hbs : SpB t flag bs) (hb0 : bs (t.length - 1) ≤ 100000000000) (S : List Nat) (sn spv : Value) (u : World) (hn : NS u S t sn) (hp : IS u S path spv) (hSb : ∀ q ∈ S, q < u.heap.size) :
    Calls Tryz.prog 88 #[.agg #[sn], spv, .bool flag] u (ReadR t flag S u path.length (rd path (tA t (t.length - 1)) 0)) := by
  obtain ⟨an, cn, rfl, _⟩ := hn.slice
  obtain ⟨ap, cp, rfl, _⟩ := hp.slice
  have htl := hv.len
  refine enterD Tryz.func88 rfl Tryz.ntmps88 rfl ?_
  refine rx ?_
  refine s_box (l := [.slice an t.length cn]) rfl rfl (fun u1 hb1 hf1 hs1 => ?_)
  refine s_box (l := [.slice ap path.length cp]) rfl rfl (fun u2 hb2 hf2 hs2 => ?_)
  refine s_box (l := [.bool flag]) rfl rfl (fun u3 hb3 hf3 hs3 => ?_)
  refine s_alloc rfl (fun u4 hb4 hf4 hs4 => ?_)
  obtain ⟨tb, htb⟩ : ∃ y, y = u.heap.size := ⟨_, rfl⟩
  obtain ⟨pathb, hpathb⟩ : ∃ y, y = u1.heap.size := ⟨_, rfl⟩
  obtain ⟨fb, hfb⟩ : ∃ y, y = u2.heap.size := ⟨_, rfl⟩
  obtain ⟨rb, hrb⟩ : ∃ y, y = u3.heap.size := ⟨_, rfl⟩
  rw [← htb] at hb1 ⊢
  rw [← hpathb] at hb2 ⊢
  rw [← hfb] at hb3 ⊢
  rw [← hrb] at hb4 ⊢
  have hF4 : Fr [] u u4 := ((hf1.trans0 hf2).trans0 hf3).trans0 hf4
  have hb14 := ((hb1.tr0 hf2).tr0 hf3).tr0 hf4
  refine rx ?_
  refine s_makeFunc (a := []) (b := [.pointer (some ⟨rb, 0, none⟩)]) rfl rfl ?_
  refine s_defer (cap := [.pointer (some ⟨rb, 0, none⟩)]) rfl ?_
  refine rx ?_
  have hm4 : ∀ q ∈ rb :: S, q ∈ S ∨ u.heap.size ≤ q := fun q hq => by
    rcases List.mem_cons.1 hq with h | h
    · right; omega
    · exact .inl h
  have hn4 := (hn.mono hm4).tr0 hF4
  refine s_call (newP t _ u4 (rb :: S) (fun q hq => by
    rcases List.mem_cons.1 hq with h | h
    · omega
    · have := hSb q h; have := hF4.size; omega) hn4 hok hv) rfl ?_
  rintro _ u5 ⟨wb, b, A, F, rfl, hw5, hwb, hbb, hAA, hFF, hf5⟩
  refine ⟨_, rfl, ?_⟩
  refine s_alloc rfl (fun u6 hb6 hf6 hs6 => ?_)
  obtain ⟨vb, hvb⟩ : ∃ y, y = u5.heap.size := ⟨_, rfl⟩
  rw [← hvb] at hb6 ⊢
  ((with_reducible apply s_storeB); exact rfl; (conv => lhs; whnf); exact rfl; exact hb6; exact rfl)
  intro u7 hb7 hf7 hs7
  have hs5 := hf5.size
  have hF47 : Fr [] u4 u7 := (hf5.trans0 hf6).trans hf7 (by simp; omega)
  have hF57 : Fr [] u5 u7 := hf6.trans hf7 (by simp; omega)
  have hb17 := hb14.tr0 hF47
  refine rx ?_
  refine s_call (plainsP t hv hok (rb :: S) _ wb b A F u7 (hw5.tr0 hF57) (hn4.tr0 hF47)) rfl ?_
  rintro _ u8 ⟨PL, rfl, hb8, hPL, hf8⟩
  refine ⟨_, rfl, ?_⟩
  refine s_alloc rfl (fun u9 hb9 hf9 hs9 => ?_)
  obtain ⟨plb, hplb⟩ : ∃ y, y = u8.heap.size := ⟨_, rfl⟩
  rw [← hplb] at hb9 ⊢
  ((with_reducible apply s_storeB); exact rfl; (conv => lhs; whnf); exact rfl; exact hb9; exact rfl)
  intro ua hba hfa hsa
  refine rx ?_
  refine s_alloc rfl (fun uc hbc hfc hsc => ?_)
  obtain ⟨ab, hab⟩ : ∃ y, y = ua.heap.size := ⟨_, rfl⟩
  rw [← hab] at hbc ⊢
  ((with_reducible apply s_storeB); exact rfl; (conv => lhs; whnf); exact rfl; exact hbc; exact rfl)
  intro ud hbd hfd hsd
  refine rx ?_
  refine s_makeFunc (a := []) (b := [.pointer (some ⟨ab, 0, none⟩), .pointer (some ⟨pathb, 0, none⟩), .pointer (some ⟨tb, 0, none⟩)]) rfl rfl ?_
  refine s_alloc rfl (fun ue hbe hfe hse => ?_)
  obtain ⟨chb, hchb⟩ : ∃ y, y = ud.heap.size := ⟨_, rfl⟩
  rw [← hchb] at hbe ⊢
  ((with_reducible apply s_storeB); exact rfl; (conv => lhs; whnf); exact rfl; exact hbe; exact rfl)
  intro uf hbf hff hsf
  refine rx ?_
  refine s_alloc rfl (fun ug hbg hfg hsg => ?_)
  obtain ⟨fob, hfob⟩ : ∃ y, y = uf.heap.size := ⟨_, rfl⟩
  rw [← hfob] at hbg ⊢
  refine rx ?_
  obtain ⟨c, hc⟩ : ∃ c : Cp, c = ⟨tb, vb, fb, plb, PL, pathb, chb, fob, ab, rb, wb, b, A, F, .slice an t.length cn, .slice ap path.length cp, flag⟩ := ⟨_, rfl⟩
  refine s_makeFunc (a := []) (b := c.caps) rfl (by rw [hc]; rfl) ?_
  ((with_reducible apply s_storeB); exact rfl; (conv => lhs; whnf); exact rfl; exact hbg; exact rfl)
  intro uh hbh hfh hsh
  have hl5 := hw5.lt
  have hs8 := hf8.size
  have hl8 := hb8.lt
  have hF8a : Fr [] u8 ua := hf9.trans hfa (by simp; omega)
  have hFad : Fr [] ua ud := hfc.trans hfd (by simp; omega)
  have hFdf : Fr [] ud uf := hfe.trans hff (by simp; omega)
  have hFfh : Fr [] uf uh := hfg.trans hfh (by simp; omega)
  have hFdh := hFdf.trans0 hFfh
  have hFah := hFad.trans0 hFdh
  have hF8h := hF8a.trans0 hFah
  have hF7h := hf8.trans0 hF8h
  have hF5h := hF57.trans0 hF7h
  have hF4h := hF47.trans0 hF7h
  have hm5 : ∀ q ∈ ab :: rb :: S, q ∈ rb :: S ∨ u4.heap.size ≤ q := fun q hq => by
    rcases List.mem_cons.1 hq with h | h
    · right; omega
    · exact .inl h
  have hm5' : ∀ q ∈ ab :: rb :: S, q ∈ rb :: S ∨ u5.heap.size ≤ q := fun q hq => by
    rcases List.mem_cons.1 hq with h | h
    · right; omega
    · exact .inl h
  have hmp : ∀ q ∈ ab :: rb :: S, q ∈ S ∨ u.heap.size ≤ q := fun q hq => by
    rcases List.mem_cons.1 hq with h | h
    · right; omega
    · exact hm4 q h
  have hout : ∀ x, u.heap.size ≤ x → x ≠ ab → x ≠ rb → x ∉ ab :: rb :: S := fun x h1 h2 h3 hx => by
    rcases List.mem_cons.1 hx with h | h
    · exact h2 h
    rcases List.mem_cons.1 h with h | h
    · exact h3 h
    · have := hSb x h; omega
  have hcap : RdCap c t path (ab :: rb :: S) uh := by
    subst hc
    refine ⟨hb14.tr0 hF4h, (hn4.mono hm5).tr0 hF4h, (hw5.mono hm5').tr0 hF5h, hb7.tr0 hF7h, ((hb3.tr0 hf4).tr0 hF4h), hba.tr0 hFah, hb8.tr0 hF8h, (((hb2.tr0 hf3).tr0 hf4).tr0 hF4h), ((hp.mono hmp).tr0 hF4).tr0 hF4h, hbf.tr0 hFfh, hbh, ?_, hpl⟩
    intro x hx
    simp only [List.mem_cons, List.not_mem_nil, or_false] at hx
    rcases hx with rfl | rfl | rfl | rfl | rfl | rfl | rfl | rfl <;> refine hout _ ?_ ?_ ?_ <;> omega
  have hrk : RdK c uh 0 [] (.slice none 0 0) := by
    subst hc
    exact ⟨hbd.tr0 hFdh, hb4.tr0 hF4h, Own.nil _ _ _, by simp [blks, Value.ownBlock]; omega⟩
  have hcab : c.ab = ab ∧ c.rb = rb ∧ c.flag = flag := by subst hc; exact ⟨rfl, rfl, rfl⟩
  have hb1h := hb14.tr0 hF4h
  have hm1 : ((t.length - 1 : Nat) : Int) = (t.length : Int) - 1 := by omega
  have hFuh := hF4.trans0 hF4h
  refine rx ?_
  refine s_callVP (first := []) (cap := c.caps) (vs := [.int .i64 ((t.length : Int) - 1)]) (followR t hv hok path bs flag hbs (t.length - 1) (by omega) c (ab :: rb :: S) uh 0 [] (.slice none 0 0) hcab.2.2 hcap hrk ⟨by simp [hcab.1], by simp [hcab.2.1], by simp [blks, Value.ownBlock]⟩ (fun q hq => ?_) (Nat.zero_le _) (by simp; omega)) rfl rfl (by rw [hm1]; rfl) ?_
  · rcases List.mem_cons.1 hq with h | h
    · omega
    rcases List.mem_cons.1 h with h | h
    · omega
    · have := hSb q h; omega
  intro e ui hpost
  rcases hres : rd path (tA t (t.length - 1)) 0 with ⟨v, e', sp1⟩ | ⟨i, n⟩ | _
  rotate_left
  · rw [hres] at hpost
    obtain ⟨rfl, ⟨cs, hcl, hcb⟩, hfi⟩ := hpost
    show Exit.then _ _ _ _ _
    (repeat (first | refine q_then_panic ?_ | refine q_blk_panic ?_))
    rw [hcab.2.1] at hcb
    refine panD rfl rfl hcb hcl (fun w' hw' => ⟨(hFuh.trans hfi ?_).trans hw' (by simp; omega), rfl⟩)
    rw [hcab.1, hcab.2.1]; simp [blks, Value.ownBlock]; omega
  · rw [hres] at hpost
    obtain ⟨rfl, ⟨cs, hcl, hcb⟩, hfi⟩ := hpost
    show Exit.then _ _ _ _ _
    (repeat (first | refine q_then_panic ?_ | refine q_blk_panic ?_))
    rw [hcab.2.1] at hcb
    refine panD rfl rfl hcb hcl (fun w' hw' => ⟨(hFuh.trans hfi ?_).trans hw' (by simp; omega), rfl⟩)
    rw [hcab.1, hcab.2.1]; simp [blks, Value.ownBlock]; omega
  rw [hres] at hpost
  obtain ⟨s, sv', sp', rfl, hvs, hrk2, hfl, hm, hfi, hki⟩ := hpost
  show wpList _ _ _ _ _ _
  have hend := rd_end path _ 0 (Nat.zero_le _) hres
  have hFui : Fr [] u ui := hFuh.trans hfi (by rw [hcab.1, hcab.2.1]; simp [blks, Value.ownBlock]; omega)
  rw [hcab.2.2] at hfl
  have hrbi := hrk2.rb
  have habi := hrk2.ab
  have hdi := hrk2.d
  rw [hcab.2.1] at hrbi hdi
  rw [hcab.1] at habi hdi
  have hpbi : Blk ui pathb [.slice ap path.length cp] 22 := by
    have := (((hb2.tr0 hf3).tr0 hf4).tr0 hF4h).tr hfi (by rw [hcab.1, hcab.2.1]; simp [blks, Value.ownBlock]; omega)
    exact this
  have hnew : ∀ q ∈ blks sv', u.heap.size ≤ q := fun q hq => by
    rcases hki q hq with h | h
    · simp [blks, Value.ownBlock] at h
    · omega
  have hvs' : VS ui (ab :: rb :: S) v.kids s := hvs.mono (fun q hq => .inl (List.mem_append.2 (.inl hq)))
  refine rx ?_
  refine s_storeSubB (o := 0) (cs := vc v s) rfl rfl hrbi (VR.mem1 (w := ui) v _ ⟨_, rfl, hvs'⟩) (Nat.le_of_ble_eq_true rfl) rfl (fun uj hbj hfj hsj => ?_)
  refine rx ?_
  ((with_reducible apply s_storeB); exact rfl; (conv => lhs; whnf); exact rfl; exact hbj; exact rfl)
  intro uk hbk hfk hsk
  have hFik : Fr [rb] ui uk := hfj.trans hfk (by simp)
  have habk := habi.tr hFik (by simp; omega)
  have hpbk := hpbi.tr hFik (by simp; omega)
  by_cases hlt : e' < path.length
  · refine rx ?_
    refine s_build (bad7 (-1) 11) rfl ?_
    refine s_storeAggB (cs := bad7 (-1) 11) rfl rfl hbk (by simp [bad7, Value.oneCell']) rfl rfl (fun ul hbl hfl hsl => ?_)
    refine rx ?_
    refine retD rfl rfl hbl rfl ⟨(hFui.trans hFik (by simp; omega)).trans hfl (by simp; omega), ?_⟩
    rw [if_neg (by omega)]
  · have hbk' : Blk uk rb (vc v s ++ [.int .i64 (-1), sv', .int .i64 0]) 77 := hbk
    have hone : ∀ q ∈ vc v s ++ [.int .i64 (-1), sv', .int .i64 0], q.oneCell' = true := by
      intro q hq
      rcases List.mem_append.1 hq with h | h
      · exact VR.mem1 (w := ui) v _ ⟨_, rfl, hvs'⟩ q h
      · simp only [List.mem_cons, List.not_mem_nil, or_false] at h
        rcases h with rfl | rfl | rfl
        · rfl
        · exact hrk2.own.one
        · rfl
    clear hbk hbj
    refine rx ?_
    refine s_storeAggB (cs := vc v s ++ [.int .i64 (-1), sv', .int .i64 0]) rfl rfl hbk' hone rfl rfl (fun ul hbl hfl2 hsl => ?_)
    refine rx ?_
    have hFil : Fr [rb] ui ul := hFik.trans hfl2 (by simp)
    refine retD rfl rfl hbl rfl ⟨hFui.trans hFil (by simp; omega), ?_⟩
    rw [if_pos (by omega)]
    refine ⟨s, sv', sp', rfl, (hvs'.tr (hFil.mono (by simp))).mono (fun q hq => .inl (by simp [hq])), ?_, hfl, hnew⟩
    exact hrk2.own.tr hFil (fun q hq hm => by simp at hm; subst hm; exact hdi.2.2 hq)
end Go.Proofs.YtpochcchekoonaaGreat
