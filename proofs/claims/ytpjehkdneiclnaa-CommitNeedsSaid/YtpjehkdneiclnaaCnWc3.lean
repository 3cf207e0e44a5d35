import Derived.Test.YtpjehkdneiclnaaCnWc2
set_option linter.unusedSimpArgs false
set_option linter.unusedVariables false
namespace Go.Wc
variable {P:Program} {τ:Tys} {t:Nat} {ti:TI} {w:World} {Γ:Env} {h:Hp}
def Yl (P:Program) (o:Oper) (Γ:Env) (h:Hp) (K:(Hp→Prop)→Value→Prop):Prop:=
  ∃ f v,K f v∧f h∧ ∀ w:World,f w.heap→(execOp (ev Γ) o).run P w= .ok (.value v) w
theorem yl_binOp {o : Oper} {op : BinOp} {t : Nat} {x y : Operand} {u : Nat} {K : (Hp → Prop) → Value → Prop} (ho : o.op = .binOp op t x y u)
    (hA:Agree P τ) (H:binW τ op t (ev Γ x) (ev Γ y) (K fun _=>True)):Yl P o Γ h K:=by
  suffices ∃ v,K (fun _=>True) v∧ ∀ w:World,((do eqGuard op t x y (ev Γ x) (ev Γ y); binOp op t (ev Γ x) (ev Γ y):Sem Value)).run P w= .ok v w by
    obtain ⟨v,h1,h2⟩:=this
    exact ⟨_,v,h1,trivial,fun w _=>by simp only [execOp,ho]; simp only [Sem.run_bind] at h2 ⊢; simp only [h2]; rfl⟩
  unfold binW at H
  split at H
  case h_1 k a k' b e1 e2=>
    rw [e1,e2]
    have hg: ∀ w:World,(eqGuard op t x y (.int k a) (.int k' b)).run P w= .ok () w:=fun w=>by unfold eqGuard; split <;> rfl
    simp only [Sem.run_bind,hg,Result.andThen_ok]
    split at H
    case h_1=>obtain ⟨v,h1,h2⟩:=so_sh H; exact ⟨v,h1,h2 t⟩
    case h_2=>obtain ⟨v,h1,h2⟩:=so_sh H; exact ⟨v,h1,h2 t⟩
    case h_3=>
      by_cases hk:k=k'
      · subst hk; simp [cnd] at H; obtain ⟨v,h1,h2⟩:=so_binI H; exact ⟨v,h1,h2 t⟩
      · simp [hk,cnd] at H
  case h_2 a b e1 e2=>
    rw [e1,e2]
    have hg: ∀ w:World,(eqGuard op t x y (.string a) (.string b)).run P w= .ok () w:=fun w=>by unfold eqGuard; split <;> rfl
    simp only [Sem.run_bind,hg,Result.andThen_ok]
    obtain ⟨v,h1,h2⟩:=so_str H; exact ⟨v,h1,h2 t⟩
  case h_3 n1 n2=>
    split at H
    · exact H.elim
    rename_i ti ht
    have hAt:=hA t ti ht
    have key: ∀ K':Bool→Prop,eqB τ t ti (ev Γ x) (ev Γ y) K'→ ∃ b,K' b∧(∀ w:World,(Op.equal t (ev Γ x) (ev Γ y)).run P w= .ok b w)∧
        (∀ w:World,(eqGuard op t x y (ev Γ x) (ev Γ y)).run P w= .ok () w)∧
        (op= .eql→binOp op t (ev Γ x) (ev Γ y)=(do pure (.bool (← Op.equal t (ev Γ x) (ev Γ y)))))∧
        (op= .neq→binOp op t (ev Γ x) (ev Γ y)=(do pure (.bool (!(← Op.equal t (ev Γ x) (ev Γ y)))))):=by
      intro K' HK
      obtain ⟨b,h1,h2⟩:=so_eqB hA ht HK
      refine ⟨b,h1,h2, ?_⟩
      unfold eqB at HK
      split at HK <;> first | exact HK.elim | skip
      case h_1=>
        rename_i e0 e1 e2
        cases hq:ti.eq with
        | false=>rw [hq] at HK; exact HK.elim
        | true=>rw [e1,e2]; exact ⟨fun w=>r_eqGuard hAt hq (by rw [e0]; rfl) w,fun e=>by subst e; rfl,fun e=>by subst e; rfl⟩
      case h_2=>
        rename_i e0 e1 e2
        cases hq:ti.eq with
        | false=>rw [hq] at HK; exact HK.elim
        | true=>rw [e1,e2]; exact ⟨fun w=>r_eqGuard hAt hq (by rw [e0]; rfl) w,fun e=>by subst e; rfl,fun e=>by subst e; rfl⟩
      all_goals (rename_i e1 e2; rw [e1,e2]; exact ⟨fun w=>by unfold eqGuard; split <;> rfl,fun e=>by subst e; rfl,fun e=>by subst e; rfl⟩)
    split at H
    case h_1=>
      obtain ⟨b,h1,h2,h3,h4,_⟩:=key _ H
      exact ⟨_,h1,fun w=>by rw [h4 rfl]; simp [h3,h2]⟩
    case h_2=>
      obtain ⟨b,h1,h2,h3,_,h4⟩:=key _ H
      exact ⟨_,h1,fun w=>by rw [h4 rfl]; simp [h3,h2]⟩
    case h_3=>exact H.elim
theorem yl_unOp {o:Oper} {op:UnOp} {x:Operand} {u:Nat} {K:(Hp→Prop)→Value→Prop} (ho:o.op= .unOp op u x)
    (H:unW op (ev Γ x) (K fun _=>True)):Yl P o Γ h K:=by
  unfold unW at H
  split at H
  case h_1 b e=>exact ⟨_,_,H,trivial,fun w _=>by simp [execOp,ho,e,Op.unary]⟩
  case h_2 k n e=>exact ⟨_,_,H,trivial,fun w _=>by simp [execOp,ho,e,Op.unary,Op.intArith]⟩
  case h_3 k n e=>exact ⟨_,_,H,trivial,fun w _=>by simp [execOp,ho,e,Op.unary,Op.intBits]⟩
  case h_4=>exact H.elim
theorem yl_load {o:Oper} {t:Nat} {a:Operand} {K:(Hp→Prop)→Value→Prop} (ho:o.op= .load t a)
    (hA:Agree P τ) (H:opR τ (.load t a) Γ h K):Yl P o Γ h K:=by
  simp only [opR] at H
  split at H
  case h_2=>exact H.elim
  rename_i p e
  split at H
  case h_2=>exact H.elim
  rename_i ti ht
  have hAt:=hA t ti ht
  cases hg:isAgg ti.kd with
  | true =>
    rw [hg] at H
    cases hn:Nat.beq (ckns ti.cks) ti.size with
    | false=>rw [hn] at H; exact H.elim
    | true =>
      rw [hn] at H; simp only [cond_true,cnd] at H
      obtain ⟨f,vs,h1,h2,h3,h4⟩:=ldCs_elim H
      have hl:vs.length=ti.size:=by rw [h3]; simpa using hn
      refine ⟨_,_,h1,h2,fun w hf=> ?_⟩
      simp only [execOp,ho,e,Instr.loadAt,Instr.sureAddr,Sem.run_bind,Sem.run_pure,Result.andThen_ok]
      rw [r_loadVar hAt hg hl (fun j hj=>by simpa using h4 w.heap hf j hj)]
      rfl
  | false =>
    rw [hg] at H; simp only [cond_false,cnd] at H
    split at H
    case h_2=>exact H.elim
    obtain ⟨v,h1,h2⟩:=ldC_elim H
    refine ⟨_,_,h2,h1,fun w hf=> ?_⟩
    simp only [execOp,ho,e,Instr.loadAt,Instr.sureAddr,Sem.run_bind,Sem.run_pure,Result.andThen_ok]
    rw [r_loadVar1 hAt hg hf]
    rfl
theorem yl_nilCheck {o:Oper} {x:Operand} {K:(Hp→Prop)→Value→Prop} (ho:o.op= .nilCheck x)
    (H:opR τ (.nilCheck x) Γ h K):Yl P o Γ h K:=by
  simp only [opR] at H
  split at H
  case h_1 p e=>
    cases p with
    | none=>exact H.elim
    | some a=>exact ⟨_,_,H,trivial,fun w _=>by simp [execOp,ho,e]⟩
  case h_2 f a b e=>exact ⟨_,_,H,trivial,fun w _=>by simp [execOp,ho,e]⟩
  case h_3=>exact H.elim
theorem r_slice {s:Sl} {lo hi:Int} {size:Nat} {K:Sl→Prop} (H:slW s lo hi size K):
    K ⟨if s.cap=lo.toNat then s.a else s.a.map (·.add (lo.toNat*size)),hi.toNat - lo.toNat,s.cap - lo.toNat⟩∧0≤lo∧lo≤hi∧0≤hi∧hi≤s.cap:=
  ⟨H.2.2,H.2.1.1,H.2.1.2,H.1.1,H.1.2⟩
theorem r_bound {k:IntKind} {i:Int} {y:Nat} {c:BoundsCode} (h0:0≤i) (h1:i≤y):(Instr.sliceBound (.int k i) y c).run P w= .ok i.toNat w:=by
  simp [Instr.sliceBound,asIntOf,h0,h1]
theorem yl_slice {o : Oper} {t : Nat} {x : Operand} {lo hi : Option Operand} {K : (Hp → Prop) → Value → Prop} (ho : o.op = .slice t x lo hi none)
    (hA:Agree P τ) (H:opR τ (.slice t x lo hi none) Γ h K):Yl P o Γ h K:=by
  simp only [opR] at H
  split at H
  case h_2=>exact H.elim
  rename_i ti ht
  have hAt:=hA t ti ht
  obtain ⟨d,hd,hk⟩:=hAt.und
  have hu: ∀ w:World,(underlying t).run P w= .ok d w:=fun w=>run_underlying hd w
  split at H
  case h_4=>exact H.elim
  case h_1 e a n c k i e1 e2 e3=>
    rw [e1] at hk; obtain rfl:=kdOf_slice hk
    split at H
    case h_2=>exact H.elim
    rename_i te hte
    have hs:=r_size (hA e te hte)
    cases hi with
    | none =>
      obtain ⟨h1,h2,h3,h4,h5⟩:=r_slice H
      refine ⟨_,_,h1,trivial,fun w _=> ?_⟩
      cases lo with
      | none =>
        simp only at e3; cases e3
        simp [execOp,ho,e2,Instr.sliceAt,hu,Instr.slice,Instr.sliceBounds,hs]
      | some l =>
        simp only at e3
        have hb:=r_bound (P:=P) (w:=w) (k:=k) (c:= .sliceB) h2 h3
        simp [execOp,ho,e2,e3,Instr.sliceAt,hu,Instr.slice,Instr.sliceBounds,hs,hb]
    | some y =>
      simp only at H
      split at H
      case h_2=>exact H.elim
      rename_i k2 j ey
      obtain ⟨h1,h2,h3,h4,h5⟩:=r_slice H
      refine ⟨_,_,h1,trivial,fun w _=> ?_⟩
      have hb2:=r_bound (P:=P) (w:=w) (k:=k2) (c:= .sliceAcap) h4 h5
      cases lo with
      | none =>
        simp only at e3; cases e3
        simp [execOp,ho,e2,ey,Instr.sliceAt,hu,Instr.slice,Instr.sliceBounds,hs,hb2]
      | some l =>
        simp only at e3
        have hb:=r_bound (P:=P) (w:=w) (k:=k) (c:= .sliceB) (y:=j.toNat) h2 (by omega)
        simp [execOp,ho,e2,e3,ey,Instr.sliceAt,hu,Instr.slice,Instr.sliceBounds,hs,hb,hb2]
  case h_2 s k i e1 e2 e3=>
    rw [e1] at hk; obtain rfl:=kdOf_str hk
    cases hi with
    | none =>
      obtain ⟨⟨h1,h2⟩,⟨h3,h4⟩,h5⟩:=H
      refine ⟨_,_,h5,trivial,fun w _=> ?_⟩
      cases lo with
      | none =>
        simp only at e3; cases e3
        simp [execOp,ho,e2,Instr.sliceAt,hu,Instr.slice,Instr.sliceBounds]
      | some l =>
        simp only at e3
        have hb:=r_bound (P:=P) (w:=w) (k:=k) (c:= .sliceB) h3 h4
        simp [execOp,ho,e2,e3,Instr.sliceAt,hu,Instr.slice,Instr.sliceBounds,hb]
    | some y =>
      simp only at H
      split at H
      case h_2=>exact H.elim
      rename_i k2 j ey
      obtain ⟨⟨h1,h2⟩,⟨h3,h4⟩,h5⟩:=H
      refine ⟨_,_,h5,trivial,fun w _=> ?_⟩
      have hb2:=r_bound (P:=P) (w:=w) (k:=k2) (c:= .sliceAlen) h1 h2
      cases lo with
      | none =>
        simp only at e3; cases e3
        simp [execOp,ho,e2,ey,Instr.sliceAt,hu,Instr.slice,Instr.sliceBounds,hb2]
      | some l =>
        simp only at e3
        have hb:=r_bound (P:=P) (w:=w) (k:=k) (c:= .sliceB) (y:=j.toNat) h3 (by omega)
        simp [execOp,ho,e2,e3,ey,Instr.sliceAt,hu,Instr.slice,Instr.sliceBounds,hb,hb2]
  case h_3 n e p k i e1 e2 e3=>
    rw [e1] at hk; obtain rfl:=kdOf_arr hk
    split at H
    case h_2=>exact H.elim
    rename_i te hte
    have hs:=r_size (hA e te hte)
    cases hi with
    | none =>
      obtain ⟨h1,h2,h3,h4,h5⟩:=r_slice H
      refine ⟨_,_,h1,trivial,fun w _=> ?_⟩
      cases lo with
      | none =>
        simp only at e3; cases e3
        simp [execOp,ho,e2,Instr.sliceAt,Instr.sureAddr,hu,Instr.sliceBounds,hs]
        by_cases hc:n=0 <;> simp [hc]
      | some l =>
        simp only at e3
        have hb:=r_bound (P:=P) (w:=w) (k:=k) (c:= .sliceB) h2 h3
        simp only [execOp,ho,e2,e3,Instr.sliceAt,Instr.sureAddr,hu,Instr.sliceBounds,hs,hb,Option.map_some,Option.map_none,Sem.run_bind,Result.andThen_ok,Sem.run_pure,Option.isSome_none,Bool.false_eq_true,if_false]
        by_cases hc:n=i.toNat <;> simp [hc]
    | some y =>
      simp only at H
      split at H
      case h_2=>exact H.elim
      rename_i k2 j ey
      obtain ⟨h1,h2,h3,h4,h5⟩:=r_slice H
      refine ⟨_,_,h1,trivial,fun w _=> ?_⟩
      have hb2:=r_bound (P:=P) (w:=w) (k:=k2) (c:= .sliceAlen) h4 h5
      cases lo with
      | none =>
        simp only at e3; cases e3
        simp [execOp,ho,e2,ey,Instr.sliceAt,Instr.sureAddr,hu,Instr.sliceBounds,hs,hb2]
        by_cases hc:n=0 <;> simp [hc]
      | some l =>
        simp only at e3
        have hb:=r_bound (P:=P) (w:=w) (k:=k) (c:= .sliceB) (y:=j.toNat) h2 (by omega)
        simp only [execOp,ho,e2,e3,ey,Instr.sliceAt,Instr.sureAddr,hu,Instr.sliceBounds,hs,hb,hb2,Option.map_some,Option.map_none,Sem.run_bind,Result.andThen_ok,Sem.run_pure,Option.isSome_none,Bool.false_eq_true,if_false]
        by_cases hc:n=i.toNat <;> simp [hc]
end Go.Wc
