import Derived.Test.YtpjehkdneiclnaaCnWc7
set_option linter.unusedSimpArgs false
set_option linter.unusedVariables false
namespace Go.Wc
variable {P:Program} {τ:Tys} {t:Nat} {ti:TI} {w:World} {Γ:Env} {h:Hp}
theorem r_apV {e : Nat} {te : TI} {s : Sl} {n : Nat} {new : List Value} {K : Sl → Hp → Prop} (hA : Agrees P e te) (zs : Bool)
    (hz:zs=true→((s.len+n:Nat):Int)≤IntKind.i64.max) (x:Value) (app:Sem (Array Value))
    (happ: ∀ w':World,w'.heap=w.heap→app.run P w'= .ok new.toArray w')
    (H:apV e te.size te.bytes te.zero w.heap s n new K):
    Out P (fun v h' => ∃ r : Sl, v = .slice r.a r.len r.cap ∧ K r h') w
      ((Sem.run P (do
        let size ← Go.sizeOf e
        let need:=s.len+n
        if need≤s.cap then
          let new ← app
          if let some a:=s.a then storeCells (a.add (s.len*size)) new.toList
          pure (.slice s.a need s.cap)
        else
          if (need:Int)>IntKind.i64.max∧(zs∨(← typeInfo e).bytes=0) then runtimePanic (.error "growslice: len out of range")
          if Builtin.nextslicecap need s.cap*(← typeInfo e).bytes>2 ^ 48 then (if zs then runtimePanic (.error "growslice: len out of range") else do
            if !(← Builtin.mayShare size s.len n s.a x) then mark .noRoom
            unsupported (.resourceLimit "append: a slice or a string whose bytes no memory bears"))
          let newCap ← choose (.appendCap need s.cap e)
          askRoom (newCap*(← typeInfo e).bytes)
          let old ← Builtin.firstCells size s.len (.slice s.a s.len s.cap)
          let new ← app
          let rest:=Builtin.zeroCells (← zeroValue e).cells (newCap - need)
          pure (.slice (some (← newRow e (old++new++rest))) need newCap)) w).andThen fun a w'=>Result.ok (Next.value a) w'):=by
  simp only [Sem.run_bind,r_size hA,Result.andThen_ok]
  unfold apV at H
  by_cases hc:s.len+n≤s.cap
  · rw [if_pos hc] at H ⊢
    simp only [Sem.run_bind,happ w rfl,Result.andThen_ok]
    obtain ⟨sa,sl,sc⟩:=s
    cases sa with
    | none =>
      simp only [Sem.run_pure,Result.andThen_ok]
      exact ⟨Same.refl w,_,rfl,H⟩
    | some a =>
      obtain ⟨w',g1,g2,g3⟩:=r_stAll (P:=P) H
      simp only [Sem.run_bind,g1,Result.andThen_ok,Sem.run_pure]
      exact ⟨g2,_,rfl,g3⟩
  · rw [if_neg hc] at H ⊢
    obtain ⟨hb,hcap,old,hold,H⟩:=H
    obtain ⟨inf,hi,hi1,hi2,hi3⟩:=r_info hA w
    have hi': ∀ w':World,∃ i,(typeInfo e).run P w'= .ok i w'∧i.bytes=te.bytes:=fun w'=>by
      obtain ⟨i,h1,_,h2,_⟩:=r_info hA w'; exact ⟨i,h1,h2⟩
    simp only [Sem.run_bind,hi,Result.andThen_ok]
    rw [if_neg (by
      rintro ⟨h1,h2⟩
      rcases h2 with h2 | h2
      · have:=hz h2; omega
      · exact hb (by rw [← hi2]; exact h2))]
    simp only [Sem.run_bind,Result.andThen_ok,hi]
    rw [if_neg (by rw [hi2]; omega)]
    obtain ⟨c,hcd⟩: ∃ c,(Question.appendCap (s.len+n) s.cap e).cut (w.tape w.drawn (Question.appendCap (s.len+n) s.cap e))=c:=⟨_,rfl⟩
    have hcge:s.len+n≤c:=by rw [← hcd]; simp [Question.cut]
    have hch:(choose (.appendCap (s.len+n) s.cap e)).run P w= .ok c {w with drawn:=w.drawn+1}:=by
      rw [run_choose,hcd]; rfl
    obtain ⟨inf2,hj,_⟩:=hi' {w with drawn:=w.drawn+1}
    have hfc:=r_firstCells (P:=P) (w:= {w with drawn:=w.drawn+1}) (l:=s.len) (c:=s.cap) hold
    have hzr:=r_zero hA {w with drawn:=w.drawn+1}
    have hap:=happ {w with drawn:=w.drawn+1} rfl
    simp only [Sem.run_pure,Sem.run_bind,Result.andThen_ok,hch,hj,run_askRoom,hfc,hap,hzr,newRow,run_newObj]
    refine ⟨⟨rfl,rfl,rfl⟩,⟨_,_,_⟩,rfl, ?_⟩
    have:=H c hcge
    rw [show (old.toArray++new.toArray++Builtin.zeroCells te.zero.cells (c - (s.len+n)))=(old++new++zeros te.zero (c - (s.len+n))).toArray from by
      apply Array.ext'
      simp only [Builtin.zeroCells,Array.toList_append,Array.toList_map,Array.toList_range]
      rw [zeros_eq]; simp [zeros]]
    exact this
theorem oc_append {o : Oper} {args : Array Operand} {ats : Array TypeId} {s x : Operand} {t u : Nat} {K : Value → Hp → Prop} (ho : o.op = .call { callee := .builtin .append, args := args, argTypes := ats })
    (e0:args.toList=[s,x]) (e0':ats.toList=[t,u]) (hA:Agree P τ)
    (H:match τ.get t,τ.get u,ev Γ s with
      | some ti, some tu, .slice a n c => match ti.kd with
        | .slice e => match τ.get e with
          | some te => match tu.kd, ev Γ x with
            | .slice _, .slice b m d=>apW e te.size te.bytes te.zero w.heap ⟨a,n,c⟩ ⟨b,m,d⟩ fun s h'=>K (.slice s.a s.len s.cap) h'
            | .str, .string y=>bif Nat.beq te.size 1 then apT e te.size te.bytes te.zero w.heap ⟨a,n,c⟩ y fun s h'=>K (.slice s.a s.len s.cap) h' else False
            | .int _, .int _ m=>apZ e te.size te.bytes te.zero w.heap ⟨a,n,c⟩ m fun s h'=>K (.slice s.a s.len s.cap) h'
            | _,_=>False
          | none=>False
        | _=>False
      | _,_,_=>False):
    Out P K w ((execOp (ev Γ) o).run P w):=by
  obtain rfl:args= #[s,x]:=by apply Array.ext'; simpa using e0
  obtain rfl:ats= #[t,u]:=by apply Array.ext'; simpa using e0'
  split at H
  case h_2=>exact H.elim
  rename_i ti tu a n c ht htu es
  split at H
  case h_2=>exact H.elim
  rename_i e e1
  obtain ⟨dd,hd,hk⟩:=(hA t ti ht).und
  rw [e1] at hk; obtain rfl:=kdOf_slice hk
  obtain ⟨du,hdu,hku⟩:=(hA u tu htu).und
  split at H
  case h_2=>exact H.elim
  rename_i te hte
  have hAe:=hA e te hte
  have fin: ∀ r:Result Next,Out P (fun v h'=> ∃ r:Sl,v= .slice r.a r.len r.cap∧K (.slice r.a r.len r.cap) h') w r→Out P K w r:=by
    intro r hr
    have aux: ∀ v h',(∃ r:Sl,v= .slice r.a r.len r.cap∧K (.slice r.a r.len r.cap) h')→K v h':=by rintro v h' ⟨r,rfl,h⟩; exact h
    unfold Out at hr ⊢
    split at hr
    · exact ⟨hr.1,aux _ _ hr.2⟩
    · exact ⟨hr.1,aux _ _ hr.2⟩
    · exact ⟨hr.1,Calls.mono hr.2 fun e w'' ⟨v,h1,h2,h3⟩=>⟨v,h1,h2,aux _ _ h3⟩⟩
    · exact hr.elim
  apply fin
  simp only [execOp,ho,resolve,invoke,builtin,Sem.run_bind,Sem.run_pure,Result.andThen_ok,Builtin.append_]
  simp only [List.map_toArray,List.map_cons,List.map_nil,List.getElem?_toArray,List.getElem?_cons_zero,List.getElem?_cons_succ,es,Sem.run_bind,run_underlying hd,run_underlying hdu,Result.andThen_ok,Sem.run_pure]
  split at H
  case h_4=>exact H.elim
  case h_1 el b m d e2 e3=>
    rw [e2] at hku; obtain rfl:=kdOf_slice hku
    obtain ⟨new,h1,h2⟩:=H
    have hap: ∀ w':World,w'.heap=w.heap→(Builtin.firstCells te.size m (.slice b m d)).run P w'= .ok new.toArray w':=fun w' hw=>r_firstCells (by rw [hw]; exact h1)
    have key:=r_apV (P:=P) (w:=w) hAe false (by simp) (ev Γ x) (Builtin.firstCells te.size m (.slice b m d)) hap h2
    simp only [Sem.run_bind,r_size hAe,Result.andThen_ok] at key ⊢
    simp only [e3,Bool.false_eq_true,if_false,Bool.not_false,if_true,Builtin.lenOf] at key ⊢
    exact key
  case h_2 y e2 e3=>
    rw [e2] at hku; obtain rfl:=kdOf_str hku
    cases hb:Nat.beq te.size 1 with
    | false=>rw [hb] at H; exact H.elim
    | true=>
    rw [hb] at H; simp only [cond_true,cnd] at H
    have hap: ∀ w':World,w'.heap=w.heap→(Builtin.firstCells te.size y.size (.string y)).run P w'= .ok (byteVals y).toArray w':=fun w' _=>by
      simp only [Builtin.firstCells,Sem.run_pure]
      congr 1
      apply Array.ext'
      have:y.extract 0 y.size=y:=by simp
      rw [this]
      simp [byteVals]
    have key:=r_apV (P:=P) (w:=w) hAe false (by simp) (ev Γ x) (Builtin.firstCells te.size y.size (.string y)) hap H
    simp only [Sem.run_bind,r_size hAe,Result.andThen_ok] at key ⊢
    simp only [e3,Bool.false_eq_true,if_false,Bool.not_false,if_true,Builtin.lenOf] at key ⊢
    exact key
  case h_3 k2 k m e2 e3=>
    rw [e2] at hku; obtain rfl:=kdOf_int hku
    obtain ⟨h0,h1,h2,h3⟩:=H
    have hmax:IntKind.i64.max=9223372036854775807:=by decide
    have hw:IntKind.i64.wrap m=m:=by
      rw [hmax] at h2
      have e1:(2:Int) ^ 64=18446744073709551616:=by decide
      have e2:(2:Int) ^ (64 - 1)=9223372036854775808:=by decide
      simp only [IntKind.wrap,IntKind.bits,IntKind.signed,Bool.true_and,decide_eq_true_eq,e1,e2]
      split <;> omega
    obtain ⟨inf,hi,hi1,hi2,hi3⟩:=r_info hAe w
    have hsz:=hAe.2
    have hap: ∀ w':World,w'.heap=w.heap→((if m.toNat*te.size=0 then pure #[] else do pure (Builtin.zeroCells (← zeroValue e).cells m.toNat)):Sem (Array Value)).run P w'= .ok (zeros te.zero m.toNat).toArray w':=fun w' _=>by
      have hzc:Builtin.zeroCells te.zero.cells m.toNat=(zeros te.zero m.toNat).toArray:=by
        apply Array.ext'
        simp only [Builtin.zeroCells,Array.toList_map,Array.toList_range]
        exact zeros_eq _ _
      by_cases hz0:m.toNat*te.size=0
      · rw [if_pos hz0,Sem.run_pure,← hzc,Builtin.zeroCells,hsz,hz0,show Array.range 0= #[] from rfl,Array.map_empty]
      · rw [if_neg hz0,Sem.run_bind,r_zero hAe,Result.andThen_ok,Sem.run_pure,hzc]
    have key:=r_apV (P:=P) (w:=w) hAe true (fun _=>h2) (ev Γ x) _ hap h3
    simp only [Sem.run_bind,r_size hAe,Result.andThen_ok] at key ⊢
    simp only [e3,if_true,Sem.run_bind,asInt,asIntOf,Sem.run_pure,Result.andThen_ok,hw,Bool.not_true,Bool.false_eq_true,if_false] at key ⊢
    rw [if_neg (by omega)]
    simp only [Sem.run_bind,hi,Result.andThen_ok,hi2]
    rw [if_neg (by omega)]
    rw [Sem.run_bind,Sem.run_pure,Result.andThen_ok]
    exact key
theorem oc_call {o:Oper} {f:Nat} {args:Array Operand} {ats:Array TypeId} {K:Value→Hp→Prop} (ho:o.op= .call {callee:= .value (.func f),args:=args,argTypes:=ats})
    {S:Spec} (hS:SpecOk P f S) (H:S (args.toList.map (ev Γ)) w.heap K):Out P K w ((execOp (ev Γ) o).run P w):=by
  obtain ⟨⟨fn,h1,h2,h3⟩,h4⟩:=hS
  have h5:=h4 _ _ _ H
  simp only [execOp,ho,resolve,ev,Deferred.ofValue,invoke,Sem.run_bind,Sem.run_pure,Result.andThen_ok,callFunc,run_program,h1,h2,h3,Bool.false_eq_true,if_false]
  refine ⟨Same.refl w, ?_⟩
  have:(#[]++Array.map (ev Γ) args++ #[])=(args.toList.map (ev Γ)).toArray:=by apply Array.ext'; simp
  rw [this]
  exact h5
theorem oc_phi {o:Oper} {x:Operand} {args:Array Operand} {ats:Array TypeId} {K:Value→Hp→Prop} (ho:o.op= .call {callee:= .value x,args:=args,argTypes:=ats})
    {cl:Specs} (hcl:SpecsOk P cl) (H:phi cl (ev Γ x) (args.toList.map (ev Γ)) w.heap K):Out P K w ((execOp (ev Γ) o).run P w):=by
  unfold phi at H
  split at H
  case h_2=>exact H.elim
  rename_i id first captured ex
  split at H
  case h_2=>exact H.elim
  rename_i S hS
  obtain ⟨⟨fn,h1,h2,h3⟩,h4⟩:=hcl id S hS
  have h5:=h4 _ _ _ H
  simp only [execOp,ho,resolve,ex,Deferred.ofValue,invoke,Sem.run_bind,Sem.run_pure,Result.andThen_ok,callFunc,run_program,h1,h2,h3,Bool.false_eq_true,if_false]
  refine ⟨Same.refl w, ?_⟩
  have:(first++Array.map (ev Γ) args++captured)=(first.toList++args.toList.map (ev Γ)++captured.toList).toArray:=by apply Array.ext'; simp
  rw [this]
  exact h5
theorem opC_sound {o : Oper} {K : Value → Hp → Prop} {σ cl : Specs} {rt : Nat} (hA : Agree P τ) (hσ : SpecsOk P σ) (hcl : SpecsOk P cl)
    (H:opC τ σ cl rt o.op Γ w.heap K):Out P K w ((execOp (ev Γ) o).run P w):=by
  cases ho:o.op with
  | alloc e=>rw [ho] at H; exact oc_alloc ho hA H
  | box e x=>rw [ho] at H; exact oc_box ho H
  | buildSlice t n ps=>rw [ho] at H; exact oc_buildSlice ho hA H
  | store t a x=>rw [ho] at H; exact oc_store ho hA H
  | convert s d x=>rw [ho] at H; exact oc_convert ho hA H
  | makeMap t x=>rw [ho] at H; exact oc_makeMap ho hA H
  | makeSlice t l c=>rw [ho] at H; exact oc_makeSlice ho hA H
  | mapUpdate t m k x=>rw [ho] at H; exact oc_mapUpdate ho hA H
  | call c =>
    rw [ho] at H
    obtain ⟨callee,args,ats⟩:=c
    cases callee with
    | builtin b =>
      simp only [opC] at H
      split at H
      case h_1 s x t u e1 e2=>exact oc_append ho e1 e2 hA H
      case h_2 d x t l e1 e2=>exact oc_copy ho e1 ⟨l,e2⟩ hA H
      case h_3 x t l e1 e2=>exact oc_clear ho e1 ⟨l,e2⟩ hA H
      case h_4 m k t l e1 e2=>exact oc_delete ho e1 ⟨l,e2⟩ hA H
      case h_5=>exact H.elim
    | value x =>
      cases x with
      | func f =>
        simp only [opC] at H
        split at H
        · rename_i S hS; exact oc_call ho (hσ f S hS) H
        · exact H.elim
      | _ =>
        simp only [opC] at H
        split at H
        · rename_i ti hti
          have:=oc_phi (P:=P) (K:=fun v h'=>isA ti v fun v=>K v h') ho hcl H
          have aux: ∀ v h',isA ti v (fun v=>K v h')→K v h':=fun v h' hh=>isA_elim (K:=fun v=>K v h') hh
          unfold Out at this ⊢
          split at this
          · exact ⟨this.1,aux _ _ this.2⟩
          · exact ⟨this.1,aux _ _ this.2⟩
          · exact ⟨this.1,Calls.mono this.2 fun e w'' ⟨v,h1,h2,h3⟩=>⟨v,h1,h2,aux _ _ h3⟩⟩
          · exact this.elim
        · exact H.elim
    | _=>simp only [opC] at H
  | _=>rw [ho] at H; simp only [opC] at H
theorem opW_sound {o:Oper} {K:Value→Hp→Prop} {σ cl:Specs} {rt:Nat} (hA:Agree P τ) (hσ:SpecsOk P σ) (hcl:SpecsOk P cl)
    (H:opW τ σ cl rt o.op Γ w.heap K):Out P K w ((execOp (ev Γ) o).run P w):=by
  unfold opW at H
  cases hr:(isR o.op || readsConv τ o.op) with
  | false=>rw [hr] at H; exact opC_sound hA hσ hcl H
  | true =>
    rw [hr] at H; simp only [cond_true,cnd] at H
    obtain ⟨f,v,h1,h2,h3⟩:=opR_sound (P:=P) (K:=fun _ v=>K v w.heap) hA H
    rw [h3 w h2]
    exact ⟨Same.refl w,h1⟩
end Go.Wc
