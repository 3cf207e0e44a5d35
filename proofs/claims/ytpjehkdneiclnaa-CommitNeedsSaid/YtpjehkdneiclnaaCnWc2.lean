import Derived.Test.YtpjehkdneiclnaaCnWc1
import Derived.Laws.Sem
import Derived.Laws.Cells
import Derived.Laws.Entries
set_option linter.unusedSimpArgs false
set_option linter.unusedVariables false
namespace Go.Wc
variable {P:Program} {τ:Tys} {t:Nat} {ti:TI} {w:World}
theorem Agrees.info (h:Agrees P t ti): ∃ i,P.info? t=some i∧i.size=ti.size∧i.bytes=ti.bytes∧i.zero=some ti.zero:=by
  obtain ⟨h,_⟩:=h
  unfold tiOf at h
  split at h
  · rename_i i d hi hd
    cases hz:i.zero with
    | none=>rw [hz] at h; simp at h
    | some z=>rw [hz] at h; simp at h; exact ⟨i,hi,h.2.1,h.2.2.1,by rw [← h.2.2.2.1]; exact hz⟩
  · cases h
theorem Agrees.und (h:Agrees P t ti): ∃ d,P.underlying t=some d∧kdOf d=ti.kd:=by
  obtain ⟨h,_⟩:=h
  unfold tiOf at h
  split at h
  · rename_i i d hi hd
    cases hz:i.zero with
    | none=>rw [hz] at h; simp at h
    | some z=>rw [hz] at h; simp at h; exact ⟨d,hd,h.1⟩
  · cases h
theorem Agrees.eqf (h:Agrees P t ti): ∃ d,P.underlying t=some d∧kdOf d=ti.kd∧eqOf P t d=ti.eq:=by
  obtain ⟨h,_⟩:=h
  unfold tiOf at h
  split at h
  · rename_i i d hi hd
    cases hz:i.zero with
    | none=>rw [hz] at h; simp at h
    | some z=>rw [hz] at h; simp at h; exact ⟨d,hd,h.1,h.2.2.2.2⟩
  · cases h
theorem kdOf_slice {d:TypeDesc} {e:Nat} (h:kdOf d= .slice e):d= .slice e:=by cases d <;> simp [kdOf] at h; subst h; rfl
theorem kdOf_ptr {d:TypeDesc} {e:Nat} (h:kdOf d= .ptr e):d= .pointer e:=by cases d <;> simp [kdOf] at h; subst h; rfl
theorem kdOf_arr {d:TypeDesc} {n e:Nat} (h:kdOf d= .arr n e):d= .array n e:=by cases d <;> simp [kdOf] at h; obtain ⟨rfl,rfl⟩:=h; rfl
theorem kdOf_map {d:TypeDesc} {n e:Nat} (h:kdOf d= .map n e):d= .map n e:=by cases d <;> simp [kdOf] at h; obtain ⟨rfl,rfl⟩:=h; rfl
theorem kdOf_int {d:TypeDesc} {k:IntKind} (h:kdOf d= .int k):d= .int k:=by cases d <;> simp [kdOf] at h; subst h; rfl
theorem kdOf_bool {d:TypeDesc} (h:kdOf d= .bool):d= .bool:=by cases d <;> simp [kdOf] at h; rfl
theorem kdOf_str {d:TypeDesc} (h:kdOf d= .str):d= .string:=by cases d <;> simp [kdOf] at h; rfl
theorem kdOf_func {d:TypeDesc} (h:kdOf d= .func): ∃ p r v,d= .func p r v:=by cases d <;> simp [kdOf] at h; exact ⟨_,_,_,rfl⟩
theorem kdOf_iface {d:TypeDesc} (h:kdOf d= .iface): ∃ ms,d= .interface ms:=by cases d <;> simp [kdOf] at h; exact ⟨_,rfl⟩
theorem kdOf_struct {d:TypeDesc} {fs:List (Nat × Nat)} (h:kdOf d= .struct fs): ∃ f:Array Field,d= .struct f∧f.toList.map (fun f=>(f.type,f.offset))=fs:=by
  cases d <;> simp [kdOf] at h; exact ⟨_,rfl,h⟩
theorem r_und (h:Agrees P t ti) (w:World): ∃ d,(underlying t).run P w= .ok d w∧kdOf d=ti.kd:=by
  obtain ⟨d,h1,h2⟩:=h.und
  exact ⟨d,run_underlying h1 w,h2⟩
theorem r_info (h:Agrees P t ti) (w:World): ∃ i,(typeInfo t).run P w= .ok i w∧i.size=ti.size∧i.bytes=ti.bytes∧i.zero=some ti.zero:=by
  obtain ⟨i,h1,h2⟩:=h.info
  exact ⟨i,by simp [typeInfo,h1],h2⟩
theorem r_size (h:Agrees P t ti) (w:World):(Go.sizeOf t).run P w= .ok ti.size w:=by
  obtain ⟨i,h1,h2,_⟩:=r_info h w
  simp [Go.sizeOf,h1,h2]
theorem r_zero (h:Agrees P t ti) (w:World):(zeroValue t).run P w= .ok ti.zero w:=by
  obtain ⟨i,h1,_,_,h2⟩:=r_info h w
  simp [zeroValue,h1,h2]
theorem r_agg (h:Agrees P t ti) (w:World):(Go.isAgg t).run P w= .ok (isAgg ti.kd) w:=by
  obtain ⟨d,h1,h2⟩:=r_und h w
  rw [← h2]
  simp only [Go.isAgg,Sem.run_bind,h1,Result.andThen_ok]
  cases d <;> rfl
theorem r_load {a:Addr} {v:Value} (h:hcell w.heap a=some v):(Go.load a).run P w= .ok v w:=by
  rw [← cell_eq] at h
  simp [Go.load,Sem.run,h]
theorem add_add (a:Addr) (i j:Nat):(a.add i).add j=a.add (i+j):=by
  unfold Addr.add
  by_cases hi:i=0
  · subst hi; simp
  · by_cases hj : j = 0
    · subst hj; simp [hi]
    · rw [if_neg hi, if_neg hj, if_neg (by omega)]
      simp [Nat.add_assoc]
theorem lump_get (k:IntKind) (n:Nat) (l:List Int) (i:Nat) (h:i<n):(lumpV k n l)[i]? =some (.int k (l.getD i 0)):=by
  simp only [lumpV,List.getElem?_map,nrm,nrmF_get l n 0 i h,Nat.zero_add,Option.map_some]
theorem ldCs_elim : ∀ {cks : List CK} {h : Hp} {a : Addr} {i : Nat} {K : (Hp → Prop) → List Value → Prop}, ldCs cks h a i K →
    ∃ f vs,K f vs∧f h∧vs.length=ckns cks∧ ∀ h',f h'→ ∀ j,(hj:j<vs.length)→hcell h' (a.add (i+j))=some vs[j]
  | [],h,a,i,K,H=>⟨_,_,H,trivial,rfl,fun h' _ j hj=>absurd hj (by simp)⟩
  | c :: cs, h, a, i, K, H => by
    have one:ckn c=1→ldC c h (a.add i) (fun f v=>ldCs cs h a (i+1) fun g vs=>K (fun h'=>f h'∧g h') (v::vs))→
        ∃ f vs,K f vs∧f h∧vs.length=ckns (c::cs)∧ ∀ h',f h'→ ∀ j,(hj:j<vs.length)→hcell h' (a.add (i+j))=some vs[j]:=by
      intro hc H
      obtain ⟨v,h1,h2⟩:=ldC_elim H
      obtain ⟨f,vs,h3,h4,h5,h6⟩:=ldCs_elim h2
      refine ⟨_,_,h3,⟨h1,h4⟩,by simp [h5,ckns,hc,Nat.add_comm],fun h' hf j hj=> ?_⟩
      cases j with
      | zero=>simpa using hf.1
      | succ j=>have:=h6 h' hf.2 j (by simpa using hj); simpa [Nat.add_assoc,Nat.add_comm 1 j] using this
    cases c with
    | lump k n =>
      obtain ⟨l,hl,h1,h2⟩:=(H:ldL k n h (a.add i) _)
      obtain ⟨f,vs,h3,h4,h5,h6⟩:=ldCs_elim h2
      refine ⟨_,_,h3,⟨h1,h4⟩,by simp [h5,ckns,ckn,lumpV_length],fun h' hf j hj=> ?_⟩
      by_cases hjn:j<n
      · have e1 := hf.1 j hjn
        rw [add_add] at e1
        rw [e1,← lump_get k n l j hjn]
        rw [← List.getElem?_eq_getElem hj,List.getElem?_append_left (by rw [lumpV_length]; exact hjn)]
      · have hj2 : j - n < vs.length := by simp [lumpV_length] at hj; omega
        have:=h6 h' hf.2 (j - n) hj2
        rw [show i+n+(j - n)=i+j from by omega] at this
        rw [this,← List.getElem?_eq_getElem hj,← List.getElem?_eq_getElem hj2,List.getElem?_append_right (by rw [lumpV_length]; omega),lumpV_length]
    | int k=>exact one rfl H
    | bool=>exact one rfl H
    | str=>exact one rfl H
    | ptr=>exact one rfl H
    | sl=>exact one rfl H
    | map=>exact one rfl H
    | any=>exact one rfl H
theorem r_loadCells {a:Addr} {n:Nat} {vs:List Value} (hn:vs.length=n) (h: ∀ j,(hj:j<vs.length)→hcell w.heap (a.add j)=some vs[j]):
    (loadCells a n).run P w= .ok vs.toArray w:=by
  subst hn
  refine run_loadCells_list _ a vs fun j v hj=> ?_
  rw [List.getElem?_eq_some_iff] at hj
  obtain ⟨hj,rfl⟩:=hj
  exact h j hj
theorem r_loadVar (h:Agrees P t ti) {a:Addr} {vs:List Value} (hg:isAgg ti.kd=true) (hn:vs.length=ti.size)
    (hv: ∀ j,(hj:j<vs.length)→hcell w.heap (a.add j)=some vs[j]):(loadVar t a).run P w= .ok (.agg vs.toArray) w:=by
  simp only [loadVar,Sem.run_bind,r_agg h,hg,Result.andThen_ok,if_true,r_size h,r_loadCells hn hv,Sem.run_pure]
theorem r_loadVar1 (h:Agrees P t ti) {a:Addr} {v:Value} (hg:isAgg ti.kd=false) (hv:hcell w.heap a=some v):
    (loadVar t a).run P w= .ok v w:=by
  simp only [loadVar,Sem.run_bind,r_agg h,hg,Result.andThen_ok,Bool.false_eq_true,if_false,r_load hv]
def RunsTo (P:Program) (s:Sem Value) (f:Hp→Prop) (v:Value):Prop:= ∀ w:World,f w.heap→s.run P w= .ok v w
theorem r_ixW {a:Option Addr} {n:Nat} {j:Int} {size:Nat} {K:Addr→Prop} (H:ixW a n j size K): ∃ b,a=some b∧0≤j∧j<n∧K (b.add (j.toNat*size)):=by
  obtain ⟨b,h1,h2,h3⟩:=H; exact ⟨b,h1,h2.1,h2.2,h3⟩
theorem so_binI {op:BinOp} {k:IntKind} {a b:Int} {K:Value→Prop} (H:intB op k a b K): ∃ v,K v∧ ∀ (t:Nat) (w:World),(binOp op t (.int k a) (.int k b)).run P w= .ok v w:=by
  cases op <;> simp only [intB] at H <;> first | exact H.elim | skip
  case quo=>exact ⟨_,H.2,fun t w=>by simp [binOp,Op.intDiv,H.1]⟩
  case rem=>exact ⟨_,H.2,fun t w=>by simp [binOp,Op.intDiv,H.1]⟩
  all_goals exact ⟨_,H,fun t w=>by simp [binOp,Op.intArith,Op.intBits,Op.intCmp]⟩
theorem so_sh {op:BinOp} {k k':IntKind} {a b:Int} {K:Value→Prop} (H:shW op k a b K): ∃ v,K v∧ ∀ (t:Nat) (w:World),(binOp op t (.int k a) (.int k' b)).run P w= .ok v w:=by
  cases op <;> simp only [shW] at H <;> first | exact H.elim | skip
  all_goals
    obtain ⟨h0,H⟩:=H
    exact ⟨_,H,fun t w=>by simp [binOp,Op.shift,Int.not_lt.2 h0]⟩
theorem so_str {op:BinOp} {a b:ByteArray} {K:Value→Prop} (H:strB op a b K): ∃ v,K v∧ ∀ (t:Nat) (w:World),(binOp op t (.string a) (.string b)).run P w= .ok v w:=by
  cases op <;> simp only [strB] at H <;> first | exact H.elim | skip
  case add=>exact ⟨_,H.2,fun t w=>by simp only [binOp,Op.stringOp]; rw [if_neg (by have:=H.1; omega)]; rfl⟩
  all_goals exact ⟨_,H,fun t w=>by simp [binOp,Op.stringOp]⟩
theorem r_part {K:Value→Prop} {cs:Array Value} {off:Nat} (hA:Agrees P t ti) (H:partW ti cs.toList off K):
    ∃ v,K v∧ ∀ w:World,(part t cs off).run P w= .ok v w:=by
  unfold partW at H
  cases hg:isAgg ti.kd with
  | true =>
    rw [hg] at H
    refine ⟨_,H,fun w=> ?_⟩
    simp only [part,Sem.run_bind,r_agg hA,hg,Result.andThen_ok,if_true,r_size hA,Sem.run_pure]
    congr 2
    apply Array.ext'
    rw [Array.toList_extract,List.extract_eq_take_drop]; simp
  | false =>
    rw [hg] at H; simp only [cond_false,cnd] at H
    split at H
    case h_2=>exact H.elim
    rename_i v l e
    refine ⟨_,H,fun w=> ?_⟩
    have:cs[off]? =some v:=by
      rw [← Array.getElem?_toList]
      have:=congrArg List.head? e
      rwa [List.head?_drop] at this
    simp [part,r_agg hA,hg,this]
theorem eqFs_run (eqf : Nat → Value → Value → Sem Bool) {eq : Nat → Value → Value → (Bool → Prop) → Prop} {xs ys : Array Value} (hA : Agree P τ)
    (hq: ∀ t x y K,eq t x y K→ ∃ b,K b∧ ∀ w:World,(eqf t x y).run P w= .ok b w): ∀ (f:List Field) (K:Bool→Prop),f.all (fun f=>f.name != "_")=true→
    eqFs τ eq xs.toList ys.toList (f.map fun f=>(f.type,f.offset)) K→ ∃ b,K b∧ ∀ w:World,
      (forIn (m:=Sem) f ((none,()):Option Bool × Unit) fun (f:Field) _=>
        if f.name ≠ "_" then do
          let u ← part f.type xs f.offset
          let v ← part f.type ys f.offset
          let b ← eqf f.type u v
          if (!b)=true then pure (ForInStep.done (some false,())) else pure (ForInStep.yield (none,()))
        else pure (ForInStep.yield (none,()))).run P w= .ok (if b=true then none else some false,()) w
  | [],K,_,H=>⟨true,H,fun w=>rfl⟩
  | x :: f, K, hn, H => by
    simp only [List.all_cons,Bool.and_eq_true] at hn
    simp only [List.map_cons,eqFs] at H
    split at H
    · exact H.elim
    rename_i tf htf
    obtain ⟨u,H,hu⟩:=r_part (hA _ _ htf) H
    obtain ⟨v,H,hv⟩:=r_part (hA _ _ htf) H
    obtain ⟨b,H,hb⟩:=hq _ _ _ _ H
    obtain ⟨c,H,hc⟩:=eqFs_run eqf hA hq f _ hn.2 H
    refine ⟨b && c,H,fun w=> ?_⟩
    have hne:x.name ≠ "_" :=by simpa using hn.1
    simp only [List.forIn_cons,if_pos hne,Sem.run_bind,hu,hv,hb,Result.andThen_ok]
    cases b with
    | false=>simp
    | true=>simp only [Bool.not_true,Bool.false_eq_true,if_false,Sem.run_pure,Result.andThen_ok,Bool.true_and]; exact hc w
theorem eqAr_run (eqf : Value → Value → Sem Bool) {e n : Nat} {te : TI} {k : IntKind} {xs ys : Array Value} {l m : List Int} (hA : Agrees P e te) (hg : isAgg te.kd = false)
    (hx:xs.toList=l.map (Value.int k)) (hy:ys.toList=m.map (Value.int k)) (l1:l.length=n) (l2:m.length=n)
    (hq : ∀ a b, ∀ w : World, (eqf (.int k a) (.int k b)).run P w = .ok (a == b) w) : ∀ (r i : Nat), i + r = n → ∀ w : World,
      (forIn (m:=Sem) (List.range' i r) ((none,()):Option Bool × Unit) fun (i:Nat) _=>do
          let u ← part e xs (i*1)
          let v ← part e ys (i*1)
          let b ← eqf u v
          if (!b)=true then pure (ForInStep.done (some false,())) else pure (ForInStep.yield (none,()))).run P w=
        .ok (if (l.drop i==m.drop i)=true then none else some false,()) w
  | 0, i, hi, w => by
    rw [List.drop_eq_nil_of_le (by omega),List.drop_eq_nil_of_le (by omega)]
    rfl
  | r + 1, i, hi, w => by
    have hp: ∀ (zs:Array Value) (z:List Int) (hz:zs.toList=z.map (Value.int k)) (lz:i<z.length) (w:World),(part e zs (i*1)).run P w= .ok (.int k z[i]) w:=by
      intro zs z hz lz w
      have:zs[i]? =some (.int k z[i]):=by
        rw [← Array.getElem?_toList,hz,List.getElem?_map,List.getElem?_eq_getElem lz]; rfl
      simp [part,r_agg hA,hg,this]
    rw [List.range'_succ,List.forIn_cons]
    simp only [Sem.run_bind,hp xs l hx (by omega),hp ys m hy (by omega),hq,Result.andThen_ok]
    have e1:l.drop i=l[i]::l.drop (i+1):=List.drop_eq_getElem_cons (by omega)
    have e2:m.drop i=m[i]::m.drop (i+1):=List.drop_eq_getElem_cons (by omega)
    rw [e1,e2]
    have ih:=eqAr_run eqf hA hg hx hy l1 l2 hq r (i+1) (by omega) w
    by_cases he:l[i]=m[i]
    · have hb : (l[i] == m[i]) = true := by simp [he]
      simp only [hb,Bool.not_true,Bool.false_eq_true,if_false,Sem.run_pure,Result.andThen_ok,List.cons_beq_cons,Bool.true_and]
      exact ih
    · have hb : (l[i] == m[i]) = false := by simp [he]
      simp only [hb,Bool.not_false,if_true,Sem.run_pure,Result.andThen_ok,List.cons_beq_cons,Bool.false_and,Bool.false_eq_true,if_false]
theorem eqW_sound (hA : Agree P τ) : ∀ (d d' t : Nat) (x y : Value) (K : Bool → Prop), d < d' → eqW τ d t x y K → ∃ b, K b ∧ ∀ w : World, (Op.equalIn d' t x y).run P w = .ok b w
  | 0,_,_,_,_,_,_,H=>by simp only [eqW] at H
  | d+1,0,_,_,_,_,hd,_=>by omega
  | d + 1, d' + 1, t, x, y, K, hd, H => by
    simp only [eqW] at H
    split at H
    · exact H.elim
    rename_i ti ht
    obtain ⟨ds,hds,hk,he⟩:=(hA t ti ht).eqf
    have hu: ∀ w:World,(underlying t).run P w= .ok ds w:=fun w=>run_underlying hds w
    split at H
    case h_1 a b e=>rw [e] at hk; obtain rfl:=kdOf_bool hk; exact ⟨_,H,fun w=>by simp [Op.equalIn,hu]⟩
    case h_2 k0 k a k' b e=>
      rw [e] at hk; obtain rfl:=kdOf_int hk
      by_cases hkk:k=k'
      · subst hkk; simp [cnd] at H; exact ⟨_,H,fun w=>by simp [Op.equalIn,hu]⟩
      · simp [cnd,hkk] at H
    case h_3 a b e=>rw [e] at hk; obtain rfl:=kdOf_str hk; exact ⟨_,H,fun w=>by simp [Op.equalIn,hu]⟩
    case h_4 fs xs ys e=>
      rw [e] at hk; obtain ⟨f,rfl,hf⟩:=kdOf_struct hk
      cases hq:ti.eq with
      | false=>rw [hq] at H; exact H.elim
      | true =>
        rw [hq] at H he; simp only [cnd] at H
        simp only [eqOf,Bool.and_eq_true,Bool.not_eq_true'] at he
        subst hf
        obtain ⟨b,h1,h2⟩:=eqFs_run (P:=P) (Op.equalIn d') hA (fun t x y K h=>eqW_sound hA d d' t x y K (by omega) h) f.toList K he.1.1 H
        refine ⟨b,h1,fun w=> ?_⟩
        unfold Op.equalIn
        simp only [Sem.run_bind,hu,Result.andThen_ok,run_program,he.1.2,Bool.false_eq_true,if_false]
        rw [← Array.forIn_toList]
        rw [h2 w]
        cases b <;> rfl
    case h_5 n e' xs ys e=>
      rw [e] at hk; obtain rfl:=kdOf_arr hk
      split at H
      case h_2=>exact H.elim
      rename_i te hte
      split at H
      case h_2=>exact H.elim
      rename_i k ek
      cases hc:(Nat.beq te.size 1 && intsOk k n xs.toList && intsOk k n ys.toList) with
      | false=>rw [hc] at H; exact H.elim
      | true =>
        rw [hc] at H; simp only [cnd] at H
        simp only [Bool.and_eq_true,Nat.beq_eq] at hc
        obtain ⟨de,hde,hke⟩:=(hA e' te hte).und
        rw [ek] at hke; obtain rfl:=kdOf_int hke
        have hue: ∀ w:World,(underlying e').run P w= .ok (.int k) w:=fun w=>run_underlying hde w
        obtain ⟨x1,x2⟩:=intsOk_eq hc.1.2
        obtain ⟨y1,y2⟩:=intsOk_eq hc.2
        refine ⟨_,H,fun w=> ?_⟩
        cases d' with
        | zero=>omega
        | succ d'=>
        have l1:(unInts xs.toList).length=n:=by have:=congrArg List.length x1; simp at this x2; omega
        have l2:(unInts ys.toList).length=n:=by have:=congrArg List.length y1; simp at this y2; omega
        have key:=eqAr_run (P:=P) (Op.equalIn (d'+1) e') (hA e' te hte) (by rw [ek]; rfl) x1 y1 l1 l2 (fun a b w=>by simp [Op.equalIn,hue]) n 0 (by omega) w
        have hsz: ∀ w:World,(Go.sizeOf e').run P w= .ok 1 w:=fun w=>by rw [r_size (hA e' te hte),hc.1.1]
        unfold Op.equalIn
        simp only [Sem.run_bind,hu,Result.andThen_ok,hsz]
        rw [Std.Legacy.Range.forIn_eq_forIn_range']
        simp only [Std.Legacy.Range.size] at key ⊢
        simp only [Nat.sub_zero,Nat.add_sub_cancel,Nat.div_one]
        rw [key]
        simp only [List.drop_zero,Result.andThen_ok]
        cases (unInts xs.toList==unInts ys.toList) <;> rfl
    case h_6=>exact H.elim
theorem so_eqB (hT:Agree P τ) (ht:τ.get t=some ti) {x y:Value} {K:Bool→Prop} (H:eqB τ t ti x y K):
    ∃ b,K b∧ ∀ w:World,(Op.equal t x y).run P w= .ok b w:=by
  have h:=hT t ti ht
  obtain ⟨d,hd,hk⟩:=h.und
  have hu: ∀ w:World,(underlying t).run P w= .ok d w:=fun w=>run_underlying hd w
  obtain ⟨n,hn⟩: ∃ n,Op.maxDepth=n+1:=⟨9999,rfl⟩
  unfold eqB at H
  split at H
  case h_1 fs a b e=>
    cases hq:ti.eq with
    | false=>rw [hq] at H; exact H.elim
    | true=>rw [hq] at H; exact eqW_sound hT 6 Op.maxDepth t _ _ K (by decide) H
  case h_2 m fs a b e=>
    cases hq:ti.eq with
    | false=>rw [hq] at H; exact H.elim
    | true=>rw [hq] at H; exact eqW_sound hT 6 Op.maxDepth t _ _ K (by decide) H
  case h_3 a b e=>rw [e] at hk; obtain rfl:=kdOf_bool hk; exact ⟨_,H,fun w=>by simp [Op.equal,hn,Op.equalIn,hu]⟩
  case h_4 a e=>rw [e] at hk; obtain rfl:=kdOf_ptr hk; exact ⟨_,H,fun w=>by cases a <;> simp [Op.equal,hn,Op.equalIn,hu]⟩
  case h_5 a _ e=>rw [e] at hk; obtain rfl:=kdOf_ptr hk; exact ⟨_,H,fun w=>by simp [Op.equal,hn,Op.equalIn,hu]⟩
  case h_6 a _ _ _ _ e=>rw [e] at hk; obtain rfl:=kdOf_slice hk; exact ⟨_,H,fun w=>by cases a <;> simp [Op.equal,hn,Op.equalIn,hu]⟩
  case h_7 a e=>rw [e] at hk; obtain rfl:=kdOf_map hk; exact ⟨_,H,fun w=>by cases a <;> simp [Op.equal,hn,Op.equalIn,hu]⟩
  case h_8 e=>rw [e] at hk; obtain ⟨_,_,_,rfl⟩:=kdOf_func hk; exact ⟨_,H,fun w=>by simp [Op.equal,hn,Op.equalIn,hu]⟩
  case h_9 e=>rw [e] at hk; obtain ⟨_,_,_,rfl⟩:=kdOf_func hk; exact ⟨_,H,fun w=>by simp [Op.equal,hn,Op.equalIn,hu]⟩
  case h_10=>exact H.elim
theorem r_eqGuard {op:BinOp} {x y:Operand} {a b:Array Value} (h:Agrees P t ti) (hq:ti.eq=true) (hg:isAgg ti.kd=true) (w:World):(eqGuard op t x y (.agg a) (.agg b)).run P w= .ok () w:=by
  obtain ⟨d,hd,hk,he⟩:=h.eqf
  have:P.eqGuardType P.depth t=false:=by
    rw [hq] at he
    rw [← hk] at hg
    cases d <;> simp [kdOf,isAgg] at hg <;> simp only [eqOf,Bool.and_eq_true,Bool.not_eq_true'] at he
    · exact he
    · exact he.2
  unfold eqGuard
  cases op <;> simp [run_program,this]
end Go.Wc
