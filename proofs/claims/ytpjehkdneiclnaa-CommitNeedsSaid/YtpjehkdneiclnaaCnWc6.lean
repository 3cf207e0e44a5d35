import Derived.Test.YtpjehkdneiclnaaCnWc5
set_option linter.unusedSimpArgs false
set_option linter.unusedVariables false
namespace Go.Wc
variable {P:Program} {τ:Tys} {t:Nat} {ti:TI} {w:World} {Γ:Env} {h:Hp}
def Same (w w':World):Prop:=w'.os=w.os∧w'.output=w.output∧w'.tape=w.tape
theorem Same.refl (w:World):Same w w:=⟨rfl,rfl,rfl⟩
theorem Same.trans {a b c:World} (h1:Same a b) (h2:Same b c):Same a c:=⟨h2.1.trans h1.1,h2.2.1.trans h1.2.1,h2.2.2.trans h1.2.2⟩
def Callable (P:Program) (f:Nat):Prop:= ∃ fn,P.funcs[f]? =some fn∧(fn.name== "runtime.NumGoroutine")=false∧fn.body.isNone=false
def SpecOk (P:Program) (f:Nat) (S:Spec):Prop:=
  Callable P f∧ ∀ args K w,S args w.heap K→Calls P f args.toArray w fun e w'=> ∃ v,e= .returned v∧Same w w'∧K v w'.heap
def SpecsOk (P:Program) (σ:Specs):Prop:= ∀ f S,σ.get f=some S→SpecOk P f S
theorem specsOk_nil:SpecsOk P []:=fun f S h=>by simp [Specs.get] at h
theorem specsOk_cons {f:Nat} {S:Spec} {σ:Specs} (h1:SpecOk P f S) (h2:SpecsOk P σ):SpecsOk P ((f,S)::σ):=by
  intro g T hg
  simp only [Specs.get] at hg
  cases hb:Nat.beq f g with
  | true => rw [hb] at hg; simp only [cond_true, cnd, Option.some.injEq] at hg; subst hg; have : f = g := by simpa using hb
            subst this; exact h1
  | false=>rw [hb] at hg; exact h2 g T hg
def Out (P:Program) (K:Value→Hp→Prop) (w:World):Result Next→Prop
  | .ok (.value v) w'=>Same w w'∧K v w'.heap
  | .ok .skip w'=>Same w w'∧K undef w'.heap
  | .ok (.enter f args) w'=>Same w w'∧Calls P f args w' fun e w''=> ∃ v,e= .returned v∧Same w' w''∧K v w''.heap
  | _=>False
theorem r_setCell {a:Addr} {v u:Value} (hu:hcell w.heap a=some u) (hf:hfrz w.heap a=false) (hv:v.oneCell'=true):
    (store a v).run P w= .ok () (w.setCell a v):=by
  rw [run_store P w a v .plain hv]
  rw [← cell_eq] at hu
  rw [← frz_eq] at hf
  simp [hu,hf]
theorem stV_elim {a:Addr} {v:Value} {K:Hp→Prop} (H:stV h a v K):v.oneCell'=true∧(∃ u,hcell h a=some u)∧hfrz h a=false∧K (hset h a v):=by
  cases v <;> first | exact H.elim | exact ⟨rfl,H⟩
theorem r_stAll: ∀ {vs:List Value} {a:Addr} {i:Nat} {K:Hp→Prop} {w:World},stAll w.heap a i vs K→
    ∃ w',(storeCells a vs i).run P w= .ok () w'∧Same w w'∧K w'.heap
  | [],a,i,K,w,H=>⟨w,rfl,Same.refl w,H⟩
  | v :: vs, a, i, K, w, H => by
    obtain ⟨hv,⟨u,hu⟩,hf,hK⟩:=stV_elim H
    obtain ⟨w',h1,h2,h3⟩:=r_stAll (w:=w.setCell (a.add i) v) (vs:=vs) (a:=a) (i:=i+1) (K:=K) hK
    refine ⟨w', ?_,Same.trans ⟨rfl,rfl,rfl⟩ h2,h3⟩
    simp only [storeCells,Sem.run_bind,r_setCell hu hf hv,Result.andThen_ok]
    exact h1
theorem zeros_eq (l:Array Value) (n:Nat):(List.range (n*l.size)).map (fun i=>l[i % l.size]!)=(List.replicate n l.toList).flatten:=by
  induction n with
  | zero=>simp
  | succ n ih =>
    rw [Nat.succ_mul,List.range_add,List.map_append,ih,List.replicate_succ',List.flatten_append]
    congr 1
    simp only [List.flatten_cons,List.flatten_nil,List.append_nil,List.map_map]
    apply List.ext_getElem
    · simp
    · intro i h1 h2
      simp only [List.length_map,List.length_range] at h1
      simp only [List.getElem_map,List.getElem_range,Function.comp]
      rw [Nat.mul_comm n,Nat.mul_add_mod,Nat.mod_eq_of_lt h1]
      simp [h1]
theorem zeros_arr {z:Value} (m n:Nat) (hm:z.cells.size=m):((Array.range (n*m)).map (fun i=>z.cells[i % z.cells.size]!))=(zeros z n).toArray:=by
  subst hm
  apply Array.ext'
  simp only [Array.toList_map,Array.toList_range]
  exact zeros_eq _ _
theorem oc_alloc {o:Oper} {e:Nat} {K:Value→Hp→Prop} (ho:o.op= .alloc e) (hA:Agree P τ) {σ cl:Specs} {rt:Nat} (H:opC τ σ cl rt (.alloc e) Γ w.heap K):
    Out P K w ((execOp (ev Γ) o).run P w):=by
  simp only [opC] at H
  split at H
  case h_2=>exact H.elim
  rename_i te hte
  simp only [execOp,ho,Instr.alloc,Sem.run_bind,r_zero (hA e te hte),Result.andThen_ok,newVar,newRow,run_newObj,Sem.run_pure]
  exact ⟨⟨rfl,rfl,rfl⟩,H⟩
theorem oc_box {o:Oper} {e:Nat} {x:Operand} {K:Value→Hp→Prop} (ho:o.op= .box e x) {σ cl:Specs} {rt:Nat} (H:opC τ σ cl rt (.box e x) Γ w.heap K):
    Out P K w ((execOp (ev Γ) o).run P w):=by
  simp only [opC] at H
  simp only [execOp,ho,Instr.box,Sem.run_bind,Result.andThen_ok,newVar,newRow,run_newObj,Sem.run_pure]
  exact ⟨⟨rfl,rfl,rfl⟩,H⟩
theorem oc_buildSlice {o : Oper} {n : Nat} {ps : Array (Nat × Operand)} {K : Value → Hp → Prop} (ho : o.op = .buildSlice t n ps) (hA : Agree P τ) {σ cl : Specs} {rt : Nat} (H : opC τ σ cl rt (.buildSlice t n ps) Γ w.heap K) :
    Out P K w ((execOp (ev Γ) o).run P w):=by
  simp only [opC] at H
  split at H
  case h_2=>exact H.elim
  rename_i ti ht
  obtain ⟨d,hd,hk⟩:=(hA t ti ht).und
  split at H
  case h_2=>exact H.elim
  rename_i e e1
  rw [e1] at hk; obtain rfl:=kdOf_slice hk
  split at H
  case h_2=>exact H.elim
  rename_i te hte
  cases hb:Nat.ble (n*te.size) 16777216 with
  | false=>rw [hb] at H; exact H.elim
  | true =>
    rw [hb] at H; simp only [cond_true,cnd] at H
    simp only [Nat.ble_eq] at hb
    have hz:=r_zero (hA e te hte)
    have hsz:=(hA e te hte).2
    have hps:(ps.map fun (i,x)=>(i,ev Γ x)).toList=ps.toList.map fun p=>(p.1,ev Γ p.2):=by simp
    obtain ⟨r,h1,h2⟩:=r_fill _ _ (fun i x hx=>hx) _ (zeros te.zero n).toArray _ (by simpa using H)
    simp only [execOp,ho,Instr.buildSlice,Sem.run_bind,run_underlying hd,Result.andThen_ok,r_size (hA e te hte)]
    rw [if_neg (by omega)]
    have hfin:Out P K w ((Sem.run P (match Instr.fill (fun i=>some (i*te.size,te.size)) (zeros te.zero n).toArray (ps.map fun (i,x)=>(i,ev Γ x)).toList with
        | some cells=>do pure (Value.slice (some (← newRow e cells)) n n)
        | _=>stuck "buildSlice: a part of the wrong size") w).andThen fun a w'=>Sem.run P (pure (Next.value a)) w'):=by
      rw [hps,h2]
      simp only [newRow,Sem.run_bind,run_newObj,Result.andThen_ok,Sem.run_pure]
      refine ⟨⟨rfl,rfl,rfl⟩, ?_⟩
      simpa using h1
    by_cases h0:n*te.size=0
    · rw [if_pos h0, Sem.run_bind, Sem.run_pure, Result.andThen_ok]
      rw [← zeros_arr te.size n hsz,h0] at hfin
      rw [h0]
      simp only [show Array.range 0= #[] from rfl,Array.map_empty] at hfin ⊢
      exact hfin
    · rw [if_neg h0]
      rw [Sem.run_bind,hz,Result.andThen_ok,Sem.run_bind,Sem.run_pure,Result.andThen_ok]
      rw [zeros_arr te.size n hsz]
      exact hfin
theorem modify_push (h:Hp) (o:Obj) (f:Obj→Obj):(h.push o).modify h.size f=h.push (f o):=by
  apply Array.ext
  · simp
  · intro i h1 h2
    simp only [Array.size_modify,Array.size_push] at h1
    rw [Array.getElem_modify]
    by_cases hi:h.size=i
    · subst hi; simp
    · rw [if_neg hi,Array.getElem_push_lt (by omega),Array.getElem_push_lt (by omega)]
theorem oc_store {o:Oper} {a x:Operand} {K:Value→Hp→Prop} (ho:o.op= .store t a x) (hA:Agree P τ) {σ cl:Specs} {rt:Nat} (H:opC τ σ cl rt (.store t a x) Γ w.heap K):
    Out P K w ((execOp (ev Γ) o).run P w):=by
  simp only [opC] at H
  split at H
  case h_2=>exact H.elim
  rename_i p ep
  split at H
  case h_2=>exact H.elim
  rename_i ti ht
  cases hb:Nat.beq (ev Γ x).cells.toList.length ti.size with
  | false=>rw [hb] at H; exact H.elim
  | true =>
    rw [hb] at H; simp only [cond_true,cnd] at H
    obtain ⟨w',h1,h2,h3⟩:=r_stAll (P:=P) H
    have hs:(ev Γ x).cells.size=ti.size:=by simpa using hb
    simp only [execOp,ho,ep,Instr.storeAt,Instr.sureAddr,Sem.run_bind,Sem.run_pure,Result.andThen_ok,storeVar,r_size (hA t ti ht)]
    rw [if_neg (by simp [hs])]
    rw [h1]
    exact ⟨h2,h3⟩
theorem oc_convert {o:Oper} {s d:Nat} {x:Operand} {K:Value→Hp→Prop} (ho:o.op= .convert s d x) (hA:Agree P τ) {σ cl:Specs} {rt:Nat} (H:opC τ σ cl rt (.convert s d x) Γ w.heap K):
    Out P K w ((execOp (ev Γ) o).run P w):=by
  simp only [opC] at H
  split at H
  case h_2=>exact H.elim
  rename_i ts td hts htd
  obtain ⟨ds,hds,hks⟩:=(hA s ts hts).und
  obtain ⟨dd,hdd,hkd⟩:=(hA d td htd).und
  split at H
  case h_2=>exact H.elim
  case h_1 e b e1 e2 e3=>
    rw [e1] at hks; rw [e2] at hkd; obtain rfl:=kdOf_str hks; obtain rfl:=kdOf_slice hkd
    split at H
    case h_2=>exact H.elim
    rename_i te hte
    split at H
    case h_2=>exact H.elim
    rename_i ek
    obtain ⟨de,hde,hke⟩:=(hA e te hte).und
    rw [ek] at hke; obtain rfl:=kdOf_int hke
    have hc: ∀ n,b.size≤(Question.appendCap b.size 0 e).cut n:=fun n=>by simp [Question.cut]
    obtain ⟨c,hcap⟩: ∃ c,(Question.appendCap b.size 0 e).cut (w.tape w.drawn (Question.appendCap b.size 0 e))=c:=⟨_,rfl⟩
    have hcge:b.size≤c:=by rw [← hcap]; exact hc _
    have H':=H c hcge
    have hch:(choose (.appendCap b.size 0 e)).run P w= .ok c {w with drawn:=w.drawn+1}:=by
      rw [run_choose,hcap]; rfl
    have hsz:(byteVals b++List.replicate (c - b.size) (Value.int .u8 0)).length=c:=by
      have:(byteVals b).length=b.size:=by simp [byteVals]
      simp [this]; omega
    have harr:(Array.map (fun b=>Value.int IntKind.u8 (b.toNat:Int)) b.data++Array.replicate (c - b.size) (Value.int IntKind.u8 0))=(byteVals b++List.replicate (c - b.size) (Value.int .u8 0)).toArray:=by
      apply Array.ext'; simp [byteVals]
    generalize byteVals b++List.replicate (c - b.size) (Value.int .u8 0)=L at*
    simp only [execOp,ho,convert,Sem.run_bind,run_underlying hds,run_underlying hdd,run_underlying hde,Result.andThen_ok,e3,Conv.stringToBytes,hch,newRow,run_newObj,Sem.run_pure,markStringish,run_shape,harr]
    simp only [World.shape?,Array.getElem?_push_size,run_freeze,Result.andThen_ok,World.freeze,List.size_toArray,hsz]
    refine ⟨⟨rfl,rfl,rfl⟩, ?_⟩
    simp only [Nat.one_ne_zero,if_false]
    rw [modify_push]
    exact H'
end Go.Wc
