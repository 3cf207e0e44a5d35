import Derived.Test.YtpjehkdneiclnaaCnWc11
set_option linter.unusedSimpArgs false
set_option linter.unusedVariables false
namespace Go.Wc
variable {P:Program} {τ:Tys} {σ cl:Specs}
def argEnv:Nat→List Value→Env
  | _,[]=>[]
  | i,v::r=>(i,v)::argEnv (i+1) r
theorem argEnv_find: ∀ (l:List Value) (i t:Nat) (v:Value),Env.find (argEnv i l) t=some v→i≤t∧l[t - i]? =some v
  | [],_,_,_,h=>by simp [argEnv,Env.find] at h
  | x :: l, i, t, v, h => by
    simp only [argEnv,Env.find] at h
    cases hb:Nat.beq i t with
    | true =>
      rw [hb] at h; simp at h; subst h
      have:i=t:=by simpa using hb
      subst this; simp
    | false =>
      rw [hb] at h
      obtain ⟨h1,h2⟩:=argEnv_find l (i+1) t v h
      refine ⟨by omega, ?_⟩
      rw [show t - i=(t - (i+1))+1 from by omega]
      simpa using h2
abbrev resW (τ:Tys) (Γ:Env) (h:Hp):List ResultVar→(List Value→Prop)→Prop
  | [],K=>K []
  | .tmp t :: r, K => match Env.find Γ t with
    | some v=>resW τ Γ h r fun vs=>K (v::vs)
    | none=>False
  | .cell a t :: r, K => match Env.find Γ a with
    | some (.pointer (some p)) => match τ.get t with
      | some ti=>cnd (isAgg ti.kd) ((cnd (Nat.beq (ckns ti.cks) ti.size) (ldCs ti.cks h p 0 fun _ us=>resW τ Γ h r fun vs=>K (.agg us.toArray::vs)) (False))) (match ti.cks with
          | [c]=>ldC c h p fun _ u=>resW τ Γ h r fun vs=>K (u::vs)
          | _=>False)
      | none=>False
    | _=>False
abbrev oneOf (K:Value→Prop):List Value→Prop
  | [v]=>K v
  | vs=>K (.tuple vs.toArray)
abbrev retK (τ:Tys) (rs:Array ResultVar) (K:Value→Hp→Prop):Kont:=fun e Γ h=>match e with
  | .ret=>resW τ Γ h rs.toList (oneOf fun v=>K v h)
  | .normal=>resW τ Γ h rs.toList (oneOf fun v=>K v h)
  | _=>False
theorem r_results {n : Nat} {Γ : Env} {a : Act} {w : World} (hA : Agree P τ) (hf : Fits n Γ a) (g : ResultVar → Sem Value) (hg1 : ∀ t, g (.tmp t) = pure (a.tmps.getD t undef))
    (hg2: ∀ b t,g (.cell b t)=do loadVar t (← asAddr (a.tmps.getD b undef))): ∀ (rs:List ResultVar) (K:List Value→Prop),resW τ Γ w.heap rs K→
    ∃ vs,K vs∧(rs.mapM g:Sem (List Value)).run P w= .ok vs w
  | [],K,H=>⟨[],H,rfl⟩
  | .tmp t :: r, K, H => by
    simp only [resW] at H
    split at H
    case h_2=>exact H.elim
    rename_i v hv
    obtain ⟨vs,h1,h2⟩:=r_results hA hf g hg1 hg2 r _ H
    refine ⟨_,h1, ?_⟩
    have:a.tmps.getD t undef=v:=by simp [hf.2.2 t v hv]
    simp only [List.mapM_cons,hg1,Sem.run_bind,Sem.run_pure,Result.andThen_ok,h2,this]
  | .cell b t :: r, K, H => by
    simp only [resW] at H
    split at H
    case h_2=>exact H.elim
    rename_i p hp
    split at H
    case h_2=>exact H.elim
    rename_i ti ht
    have hb:(asAddr (a.tmps.getD b undef)).run P w= .ok p w:=by simp [hf.2.2 b _ hp,asAddr]
    have hAt:=hA t ti ht
    cases hg:isAgg ti.kd with
    | true =>
      rw [hg] at H; simp only [cond_true,cnd] at H
      cases hn:Nat.beq (ckns ti.cks) ti.size with
      | false=>rw [hn] at H; exact H.elim
      | true =>
        rw [hn] at H; simp only [cond_true,cnd] at H
        obtain ⟨f,us,h1,h2,h3,h4⟩:=ldCs_elim H
        obtain ⟨vs,g1,g2⟩:=r_results hA hf g hg1 hg2 r _ h1
        refine ⟨_,g1, ?_⟩
        simp only [List.mapM_cons,hg2,Sem.run_bind,hb,Sem.run_pure,Result.andThen_ok]
        rw [r_loadVar hAt hg (by rw [h3]; simpa using hn) (fun j hj=>by simpa using h4 _ h2 j hj)]
        simp only [Result.andThen_ok,g2]
    | false =>
      rw [hg] at H; simp only [cond_false,cnd] at H
      split at H
      case h_2=>exact H.elim
      obtain ⟨u,h1,h2⟩:=ldC_elim H
      obtain ⟨vs,g1,g2⟩:=r_results hA hf g hg1 hg2 r _ h2
      refine ⟨_,g1, ?_⟩
      simp only [List.mapM_cons,hg2,Sem.run_bind,hb,Sem.run_pure,Result.andThen_ok]
      rw [r_loadVar1 hAt hg h1]
      simp only [Result.andThen_ok,g2]
theorem oneOf_run {vs:List Value} {K:Value→Prop} (H:oneOf K vs):K (if h:vs.toArray.size=1 then vs.toArray[0] else .tuple vs.toArray):=by
  match vs with
  | []=>exact H
  | [v]=>exact H
  | v::u::r=>exact H
theorem results_run {n:Nat} {fn:Func} {Γ:Env} {a:Act} {w:World} {K:Value→Prop} (hA:Agree P τ) (hf:Fits n Γ a)
    (H:resW τ Γ w.heap fn.results.toList (oneOf K)): ∃ v,(results fn a.tmps).run P w= .ok v w∧K v:=by
  obtain ⟨vs,h1,h2⟩:=r_results (P:=P) hA hf (fun
      | .tmp t=>pure (a.tmps.getD t undef)
      | .cell b t=>do loadVar t (← asAddr (a.tmps.getD b undef))) (fun _=>rfl) (fun _ _=>rfl) _ _ H
  refine ⟨_, ?_,oneOf_run h1⟩
  simp only [results,Sem.run_bind,Array.mapM_eq_mapM_toList,Sem.run_map]
  have h3:=congrArg (fun r=>Result.andThen r fun a w'=>Result.ok (a.toArray:Array Value) w') h2
  simp only [Result.andThen_ok] at h3
  have h4:=congrArg (fun r=>Result.andThen r fun (a:Array Value) w'=>Sem.run P (pure (if h:a.size=1 then a[0] else Value.tuple a)) w') h3
  exact h4
theorem spec_ok {f:Nat} {fn:Func} {c:Code} {S:Spec} (hA:Agree P τ) (hσ:SpecsOk P σ) (hcl:SpecsOk P cl) (hm:P.follows .mixedOrders=true)
    (hf:P.funcs[f]? =some fn) (hb:fn.body=some c) (hn:(fn.name== "runtime.NumGoroutine")=false) (A:Ann) (ho:once (pts A)=true) (src:(Value→Hp→Prop)→Src)
    (entry: ∀ args h K,S args h K→args.length≤fn.ntmps∧W τ σ cl fn.ntmps (src K) c A [] (argEnv 0 args) h (retK τ fn.results K))
    (obl: ∀ K k inner vals h,k ∈ pts A→inner.length=depth k A→src K k inner.reverse vals h→ptW τ σ cl fn.ntmps (src K) k vals h c A [] inner (retK τ fn.results K)):
    SpecOk P f S:=by
  refine ⟨⟨fn,hf,hn,by rw [hb]; rfl⟩,fun args K w HS=> ?_⟩
  obtain ⟨hlen,hW⟩:=entry args _ _ HS
  refine calls_of_wp hf hb ?_
  have hO:Obl τ σ cl fn.ntmps (src K) c A [] (retK τ fn.results K):=fun k hk inner hin vals h hs=>obl K k inner vals h hk hin (by simpa using hs)
  have hfit:Fits fn.ntmps (argEnv 0 args) {tmps:=args.toArray++Array.replicate (fn.ntmps - args.toArray.size) undef,defers:=[]}:=by
    refine ⟨by simp; omega,rfl,fun t v hv=> ?_⟩
    obtain ⟨_,h2⟩:=argEnv_find _ _ _ _ hv
    simp only [Nat.sub_zero] at h2
    have hlt:t<args.length:=by
      rw [List.getElem?_eq_some_iff] at h2; exact h2.1
    simp only []
    rw [Array.getElem?_append_left (by simpa using hlt)]
    simpa using h2
  refine wp_mono (W_sound (w0:=w) hA hσ hcl hm c A [] _ ho hO _ _ hW _ w hfit rfl (Same.refl w)) fun e a w' he=> ?_
  cases e with
  | normal =>
    obtain ⟨Γ,h1,h2,h3⟩:=he
    obtain ⟨v,g1,g2⟩:=results_run hA h1 h3
    exact ⟨h1.2.1,v,g1,v,rfl,h2,g2⟩
  | ret =>
    obtain ⟨Γ,h1,h2,h3⟩:=he
    obtain ⟨v,g1,g2⟩:=results_run hA h1 h3
    exact ⟨h1.2.1,v,g1,v,rfl,h2,g2⟩
  | exit id=>obtain ⟨Γ,h1,h2,h3⟩:=he; exact h3.elim
  | _=>exact he.elim
end Go.Wc
