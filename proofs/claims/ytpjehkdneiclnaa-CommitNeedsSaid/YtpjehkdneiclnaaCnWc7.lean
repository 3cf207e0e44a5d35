import Derived.Test.YtpjehkdneiclnaaCnWc6
set_option linter.unusedSimpArgs false
set_option linter.unusedVariables false
namespace Go.Wc
variable {P:Program} {τ:Tys} {t:Nat} {ti:TI} {w:World} {Γ:Env} {h:Hp}
theorem oc_makeMap {o:Oper} {x:Option Operand} {K:Value→Hp→Prop} (ho:o.op= .makeMap t x) (hA:Agree P τ) {σ cl:Specs} {rt:Nat} (H:opC τ σ cl rt (.makeMap t x) Γ w.heap K):
    Out P K w ((execOp (ev Γ) o).run P w):=by
  cases x with
  | none =>
    simp only [opC] at H
    simp only [execOp,ho,Instr.makeMap,Option.map_none,Sem.run_bind,Sem.run_pure,Result.andThen_ok,run_newObj]
    exact ⟨⟨rfl,rfl,rfl⟩,H⟩
  | some x =>
    simp only [opC] at H
    split at H
    case h_2=>exact H.elim
    rename_i ti k n ht ex
    split at H
    case h_2=>exact H.elim
    rename_i kt e e1
    obtain ⟨d,hd,hk⟩:=(hA t ti ht).und
    rw [e1] at hk; obtain rfl:=kdOf_map hk
    simp only [execOp,ho,Instr.makeMap,Option.map_some,Sem.run_bind,run_underlying hd,ex,asInt,asIntOf,Sem.run_pure,Result.andThen_ok,run_newObj]
    exact ⟨⟨rfl,rfl,rfl⟩,H⟩
theorem oc_makeSlice {o:Oper} {l c:Operand} {K:Value→Hp→Prop} (ho:o.op= .makeSlice t l c) (hA:Agree P τ) {σ cl:Specs} {rt:Nat} (H:opC τ σ cl rt (.makeSlice t l c) Γ w.heap K):
    Out P K w ((execOp (ev Γ) o).run P w):=by
  simp only [opC] at H
  split at H
  case h_2=>exact H.elim
  rename_i ti k1 i k2 j ht el ec
  split at H
  case h_2=>exact H.elim
  rename_i e e1
  obtain ⟨d,hd,hk⟩:=(hA t ti ht).und
  rw [e1] at hk; obtain rfl:=kdOf_slice hk
  split at H
  case h_2=>exact H.elim
  rename_i te hte
  obtain ⟨⟨h1,h2,h3⟩,h4,h5⟩:=H
  obtain ⟨inf,hi,hi1,hi2,hi3⟩:=r_info (hA e te hte) w
  have hsz:=(hA e te hte).2
  have hmax:IntKind.i64.max=9223372036854775807:=by decide
  have wr: ∀ x:Int,0≤x→x≤IntKind.i64.max→IntKind.i64.wrap x=x:=by
    intro x h0 hm
    rw [hmax] at hm
    have e1:(2:Int) ^ 64=18446744073709551616:=by decide
    have e2:(2:Int) ^ (64 - 1)=9223372036854775808:=by decide
    simp only [IntKind.wrap,IntKind.bits,IntKind.signed,Bool.true_and,decide_eq_true_eq,e1,e2]
    split <;> omega
  have hni:IntKind.i64.wrap i=i:=wr i h1 (by omega)
  have hnj:IntKind.i64.wrap j=j:=wr j (by omega) h4
  have hbig:(decide (j<0) || decide ((te.bytes:Int)*j>2 ^ 48))=false:=by
    rw [Bool.or_eq_false_iff]; refine ⟨by simp; omega, ?_⟩
    rw [Int.mul_comm]; simpa using h3
  simp only [execOp,ho,Instr.makeSlice,Sem.run_bind,run_underlying hd,el,ec,asInt,asIntOf,Sem.run_pure,Result.andThen_ok,hi,hni,hnj,hi2,hbig,Bool.false_or]
  have hc2:(decide (i<0) || decide (i>j))=false:=by rw [Bool.or_eq_false_iff]; exact ⟨by simp; omega,by simp; omega⟩
  rw [if_neg (by rw [hc2]; simp)]
  simp only [Sem.run_bind,run_askRoom,Result.andThen_ok,r_size (hA e te hte)]
  have hfin:Out P K w ((Sem.run P (do let a ← newRow e ((Array.range (j.toNat*te.size)).map (fun x=>te.zero.cells[x % te.zero.cells.size]!)); pure (Value.slice (some a) i.toNat j.toNat)) w).andThen fun a w'=>Sem.run P (pure (Next.value a)) w'):=by
    rw [zeros_arr te.size j.toNat hsz]
    simp only [newRow,Sem.run_bind,run_newObj,Result.andThen_ok,Sem.run_pure]
    exact ⟨⟨rfl,rfl,rfl⟩,h5⟩
  by_cases h0:j.toNat*te.size=0
  · rw [if_pos h0, Sem.run_bind, Sem.run_pure, Result.andThen_ok, h0]
    rw [h0] at hfin
    simp only [show Array.range 0= #[] from rfl,Array.map_empty] at hfin ⊢
    exact hfin
  · rw [if_neg h0, Sem.run_bind, r_zero (hA e te hte), Result.andThen_ok, Sem.run_bind, Sem.run_pure, Result.andThen_ok]
    exact hfin
theorem bytes_eq {a b:ByteArray}:(a==b)=true↔a=b:=by
  constructor
  · intro h
    cases a; cases b
    have h:(ByteArray.beq _ _)=true:=h
    unfold ByteArray.beq at h
    simp at h
    simp [h]
  · rintro rfl
    show (ByteArray.beq _ _)=true
    simp [ByteArray.beq]
theorem sameBits_of {kd:Kd} {k x:Value} (hs:sameK kd k x=some true):Instr.sameBits 10000 x k=true:=by
  unfold sameK at hs
  split at hs
  · rename_i k1 a k2 b
    split at hs
    · rename_i e; subst e; simp at hs; subst hs; simp [Instr.sameBits]
    · cases hs
  · simp only [Option.some.injEq] at hs; rw [bytes_eq] at hs; subst hs; exact bytes_eq.2 rfl
  · simp at hs; subst hs; simp [Instr.sameBits]
  · cases hs
theorem mfind_some {kd:Kd} {k:Value}: ∀ {l:List MapEntry} {n i:Nat} {v:Value},mfind kd k l n=some (some (i,v))→
    n≤i∧ ∃ e,l[i - n]? =some e∧sameK kd k e.key=some true∧e.val=v
  | [],n,i,v,H=>by simp [mfind] at H
  | e :: l, n, i, v, H => by
    simp only [mfind] at H
    split at H
    · rename_i hs; simp at H; obtain ⟨rfl,rfl⟩:=H; exact ⟨Nat.le_refl _,e,by simp,hs,rfl⟩
    · obtain ⟨h1, e', h2, h3⟩ := mfind_some H
      refine ⟨by omega,e', ?_,h3⟩
      rw [show i - n=(i - (n+1))+1 from by omega]
      simpa using h2
    · cases H
theorem r_setMap {r:Nat} {es:Array MapEntry} {clock:Nat} (o:Obj) (hb:w.heap[r]? =some (.map es clock)):(setObj r o).run P w= .ok () {w with heap:=w.heap.setIfInBounds r o}:=by
  simp [setObj,Sem.run,hb]
theorem oc_mapUpdate {o : Oper} {m k x : Operand} {K : Value → Hp → Prop} (ho : o.op = .mapUpdate t m k x) (hA : Agree P τ) {σ cl : Specs} {rt : Nat} (H : opC τ σ cl rt (.mapUpdate t m k x) Γ w.heap K) :
    Out P K w ((execOp (ev Γ) o).run P w):=by
  simp only [opC] at H
  split at H
  case h_2=>exact H.elim
  rename_i ti ht
  obtain ⟨d,hd,hk⟩:=(hA t ti ht).und
  split at H
  case h_2=>exact H.elim
  rename_i kt e r e1 em
  rw [e1] at hk; obtain rfl:=kdOf_map hk
  split at H
  case h_2=>exact H.elim
  rename_i tk htk
  cases hkk:isKey tk.kd with
  | false=>rw [hkk] at H; exact H.elim
  | true =>
    rw [hkk] at H; simp only [cond_true,cnd] at H
    obtain ⟨dk,hdk,hkd⟩:=(hA kt tk htk).und
    obtain ⟨r',rfl,es,clock,h1,oo,h2,h3⟩:=H
    have hck:(Instr.checkKey false 10000 kt (ev Γ k)).run P w= .ok () w:=r_checkKey hdk (by rw [hkd]; exact hkk) w
    have h2':=h2
    rw [← hkd,findNow_eq] at h2'
    simp only [execOp,ho,Instr.mapUpdate,Sem.run_bind,run_underlying hd,em,Result.andThen_ok,r_getMap h1,hck,r_findKey hdk h2']
    cases oo with
    | none =>
      simp only [r_setMap _ h1,Result.andThen_ok]
      exact ⟨⟨rfl,rfl,rfl⟩,h3⟩
    | some p =>
      obtain ⟨i,v⟩:=p
      obtain ⟨_,e',g1,g2,_⟩:=mfind_some h2
      have hkey:(((es[i]?).map (·.key)).getD (ev Γ k))=e'.key:=by
        rw [← Array.getElem?_toList]; simp only [Nat.sub_zero] at g1; rw [g1]; rfl
      simp only [hkey,Instr.keyThatStays,sameBits_of g2,if_true,Sem.run_bind,Sem.run_pure,Result.andThen_ok,r_setMap _ h1]
      exact ⟨⟨rfl,rfl,rfl⟩,h3⟩
theorem oc_delete {o : Oper} {args : Array Operand} {ats : Array TypeId} {m k : Operand} {K : Value → Hp → Prop} (ho : o.op = .call { callee := .builtin .delete, args := args, argTypes := ats })
    (e0:args.toList=[m,k]) (e0': ∃ l,ats.toList=t::l) (hA:Agree P τ)
    (H:match τ.get t with
      | some ti => match ti.kd, ev Γ m with
        | .map kt _, .map r => match τ.get kt with
          | some tk=>bif isKey tk.kd then dlW tk.kd w.heap r (ev Γ k) fun h'=>K undef h' else False
          | none=>False
        | _,_=>False
      | none=>False):
    Out P K w ((execOp (ev Γ) o).run P w):=by
  obtain rfl:args= #[m,k]:=by apply Array.ext'; simpa using e0
  obtain ⟨l,hl⟩:=e0'
  have ha0:ats[0]? =some t:=by rw [← Array.getElem?_toList,hl]; rfl
  split at H
  case h_2=>exact H.elim
  rename_i ti ht
  obtain ⟨d,hd,hk⟩:=(hA t ti ht).und
  split at H
  case h_2=>exact H.elim
  rename_i kt e r e1 em
  rw [e1] at hk; obtain rfl:=kdOf_map hk
  split at H
  case h_2=>exact H.elim
  rename_i tk htk
  cases hkk:isKey tk.kd with
  | false=>rw [hkk] at H; exact H.elim
  | true =>
    rw [hkk] at H; simp only [cond_true,cnd] at H
    obtain ⟨dk,hdk,hkd⟩:=(hA kt tk htk).und
    have hck: ∀ b,(Instr.checkKey b 10000 kt (ev Γ k)).run P w= .ok () w:=fun b=>r_checkKey hdk (by rw [hkd]; exact hkk) w
    unfold dlW at H
    split at H
    case h_1=>
      simp [execOp,ho,resolve,invoke,builtin,Builtin.delete_,ha0,run_underlying hd,em,hck,Out]
      exact ⟨⟨rfl,rfl,rfl⟩,H⟩
    case h_2 r'=>
      obtain ⟨es,clock,h1,oo,h2,h3⟩:=H
      have h2':=h2
      rw [← hkd,findNow_eq] at h2'
      cases oo with
      | none =>
        simp [execOp,ho,resolve,invoke,builtin,Builtin.delete_,ha0,run_underlying hd,em,hck,Out,r_getMap h1,r_findKey hdk h2',r_setMap _ h1]
        exact ⟨⟨rfl,rfl,rfl⟩,h3⟩
      | some p =>
        simp [execOp,ho,resolve,invoke,builtin,Builtin.delete_,ha0,run_underlying hd,em,hck,Out,r_getMap h1,r_findKey hdk h2',r_setMap _ h1]
        exact ⟨⟨rfl,rfl,rfl⟩,h3⟩
theorem oc_clear {o : Oper} {args : Array Operand} {ats : Array TypeId} {x : Operand} {K : Value → Hp → Prop} (ho : o.op = .call { callee := .builtin .clear, args := args, argTypes := ats })
    (e0:args.toList=[x]) (e0': ∃ l,ats.toList=t::l) (hA:Agree P τ)
    (H:match τ.get t with
      | some ti => match ti.kd, ev Γ x with
        | .slice e, .slice a n c => match τ.get e with
          | some te=>clW te.zero w.heap ⟨a,n,c⟩ fun h'=>K undef h'
          | none=>False
        | _,_=>False
      | none=>False):
    Out P K w ((execOp (ev Γ) o).run P w):=by
  obtain rfl:args= #[x]:=by apply Array.ext'; simpa using e0
  obtain ⟨l,hl⟩:=e0'
  have ha0:ats[0]? =some t:=by rw [← Array.getElem?_toList,hl]; rfl
  split at H
  case h_2=>exact H.elim
  rename_i ti ht
  obtain ⟨d,hd,hk⟩:=(hA t ti ht).und
  split at H
  case h_2=>exact H.elim
  rename_i e a n c e1 ex
  rw [e1] at hk; obtain rfl:=kdOf_slice hk
  split at H
  case h_2=>exact H.elim
  rename_i te hte
  simp only [execOp,ho,resolve,invoke,builtin,Sem.run_bind,Sem.run_pure,Result.andThen_ok,Builtin.clear_,ha0]
  simp only [List.map_toArray,List.map_cons,List.map_nil,List.getElem?_toArray,List.getElem?_cons_zero,ex,Sem.run_bind,run_underlying hd,Result.andThen_ok]
  cases a with
  | none =>
    simp only [Sem.run_pure,Result.andThen_ok]
    exact ⟨Same.refl w,H⟩
  | some a =>
    cases n with
    | zero =>
      simp only [Sem.run_pure,Result.andThen_ok]
      have H:K undef w.heap:=H
      exact ⟨Same.refl w,H⟩
    | succ n =>
      obtain ⟨w',g1,g2,g3⟩:=r_stAll (P:=P) H
      have hzc:(Builtin.zeroCells te.zero.cells (n+1)).toList=zeros te.zero (n+1):=by
        simp only [Builtin.zeroCells,Array.toList_map,Array.toList_range]
        exact zeros_eq _ _
      simp only [Sem.run_bind,r_zero (hA e te hte),Result.andThen_ok,hzc,g1,Sem.run_pure]
      exact ⟨g2,g3⟩
theorem r_firstCells {a:Option Addr} {n size l c:Nat} {vs:List Value} (H:cellsAt w.heap a (n*size) vs):
    (Builtin.firstCells size n (.slice a l c)).run P w= .ok vs.toArray w:=by
  cases a with
  | none=>simp only [cellsAt] at H; subst H; rfl
  | some a=>obtain ⟨h1,h2⟩:=H; exact r_loadCells h1 h2
theorem oc_copy {o : Oper} {args : Array Operand} {ats : Array TypeId} {d x : Operand} {K : Value → Hp → Prop} (ho : o.op = .call { callee := .builtin .copy, args := args, argTypes := ats })
    (e0:args.toList=[d,x]) (e0': ∃ l,ats.toList=t::l) (hA:Agree P τ)
    (H:match τ.get t,ev Γ d,ev Γ x with
      | some ti, .slice a n c, .slice b m e => match ti.kd with
        | .slice el => match τ.get el with
          | some te=>cpW te.size w.heap ⟨a,n,c⟩ ⟨b,m,e⟩ fun n h'=>K (.int .i64 n) h'
          | none=>False
        | _=>False
      | _,_,_=>False):
    Out P K w ((execOp (ev Γ) o).run P w):=by
  obtain rfl:args= #[d,x]:=by apply Array.ext'; simpa using e0
  obtain ⟨l,hl⟩:=e0'
  have ha0:ats[0]? =some t:=by rw [← Array.getElem?_toList,hl]; rfl
  split at H
  case h_2=>exact H.elim
  rename_i ti a n c b m e ht ed ex
  split at H
  case h_2=>exact H.elim
  rename_i el e1
  obtain ⟨dd,hd,hk⟩:=(hA t ti ht).und
  rw [e1] at hk; obtain rfl:=kdOf_slice hk
  split at H
  case h_2=>exact H.elim
  rename_i te hte
  obtain ⟨new,h1,h2⟩:=H
  have hc:=r_firstCells (P:=P) (l:=m) (c:=e) h1
  simp only [execOp,ho,resolve,invoke,builtin,Sem.run_bind,Sem.run_pure,Result.andThen_ok,Builtin.copy_,ha0]
  simp only [List.map_toArray,List.map_cons,List.map_nil,List.getElem?_toArray,List.getElem?_cons_zero,List.getElem?_cons_succ,ed,ex,Sem.run_bind,run_underlying hd,Result.andThen_ok,Builtin.lenOf,Sem.run_pure,r_size (hA el te hte)]
  have hmin:m.min n=min m n:=rfl
  simp only [hmin,hc,Result.andThen_ok]
  cases a with
  | none =>
    simp only [Sem.run_pure,Result.andThen_ok]
    exact ⟨Same.refl w,h2⟩
  | some a =>
    obtain ⟨w',g1,g2,g3⟩:=r_stAll (P:=P) h2
    simp only [g1,Sem.run_bind,Sem.run_pure,Result.andThen_ok]
    exact ⟨g2,g3⟩
end Go.Wc
