import Derived.Test.YtpjehkdneiclnaaCnWc4
set_option linter.unusedSimpArgs false
set_option linter.unusedVariables false
namespace Go.Wc
variable {P:Program} {τ:Tys} {t:Nat} {ti:TI} {w:World} {Γ:Env} {h:Hp}
theorem foldl_setL (off:Nat): ∀ (l:List Value) (k:Nat) (cs:Array Value),
    ((l.zipIdx k).foldl (fun cs (c,j)=>cs.setIfInBounds (off+j) c) cs).toList=setL cs.toList (off+k) l
  | [],k,cs=>by simp [setL]
  | v :: l, k, cs => by
    simp only [List.zipIdx_cons,List.foldl_cons,setL]
    rw [foldl_setL off l (k+1)]
    simp [Nat.add_assoc]
theorem setL_length: ∀ (l:List Value) (i:Nat) (cs:List Value),(setL cs i l).length=cs.length
  | [],_,_=>rfl
  | v::l,i,cs=>by simp [setL,setL_length l]
theorem r_fill (pl pl' : Nat → Option (Nat × Nat)) (hp : ∀ i x, pl i = some x → pl' i = some x) : ∀ (ps : List (Nat × Value)) (cs : Array Value) (K : List Value → Prop),
    fillL pl ps cs.toList K→ ∃ r:Array Value,K r.toList∧Instr.fill pl' cs ps=some r
  | [],cs,K,H=>⟨cs,H,rfl⟩
  | (i, v) :: ps, cs, K, H => by
    simp only [fillL] at H
    split at H
    · exact H.elim
    rename_i off size hi
    cases hc:(Nat.beq v.cells.toList.length size && Nat.ble (off+size) cs.toList.length) with
    | false=>rw [hc] at H; exact H.elim
    | true =>
      rw [hc] at H; simp only [cond_true,cnd] at H
      simp only [Bool.and_eq_true,Nat.beq_eq,Nat.ble_eq,Array.length_toList] at hc
      rw [show setL cs.toList off v.cells.toList=(v.cells.zipIdx.foldl (fun cs (c,j)=>cs.setIfInBounds (off+j) c) cs).toList from by
        rw [← Array.foldl_toList,Array.toList_zipIdx,foldl_setL]; simp] at H
      obtain ⟨r,h1,h2⟩:=r_fill pl pl' hp ps _ K H
      refine ⟨r,h1, ?_⟩
      simp only [Instr.fill,hp _ _ hi]
      rw [if_neg (by have:=hc.1; have:=hc.2; simp; omega)]
      exact h2
theorem r_places (hA:Agree P τ) (w:World): ∀ (f:List Field),(f.map (fun f=>(f.type,f.offset))).all (fun f=>(τ.get f.1).isSome)=true→
    (f.mapM fun f=>do pure (f.offset,← Go.sizeOf f.type):Sem (List (Nat × Nat))).run P w= .ok (f.map fun f=>(f.offset,((τ.get f.type).map (·.size)).getD 0)) w
  | [],_=>rfl
  | x :: f, hs => by
    simp only [List.map_cons,List.all_cons,Bool.and_eq_true] at hs
    obtain ⟨ti,hti⟩:=Option.isSome_iff_exists.1 hs.1
    simp only [List.mapM_cons,Sem.run_bind,r_size (hA _ _ hti),Result.andThen_ok,Sem.run_pure]
    rw [r_places hA w f hs.2]
    simp [hti]
theorem yl_build {o : Oper} {ps : Array (Nat × Operand)} {K : (Hp → Prop) → Value → Prop} (ho : o.op = .build t ps)
    (hA:Agree P τ) (H:opR τ (.build t ps) Γ h K):Yl P o Γ h K:=by
  simp only [opR,buildW] at H
  split at H
  case h_1=>exact H.elim
  rename_i ti ht
  have hAt:=hA t ti ht
  obtain ⟨d,hd,hk⟩:=hAt.und
  have hu: ∀ w:World,(underlying t).run P w= .ok d w:=fun w=>run_underlying hd w
  have hz: ∀ w:World,(zeroValue t).run P w= .ok ti.zero w:=r_zero hAt
  have hps:(ps.map fun (i,x)=>(i,ev Γ x)).toList=ps.toList.map fun p=>(p.1,ev Γ p.2):=by simp
  split at H
  case h_3=>exact H.elim
  case h_1 fs e1=>
    rw [e1] at hk; obtain ⟨f,rfl,hf⟩:=kdOf_struct hk
    cases hall:fs.all (fun f=>(τ.get f.1).isSome) with
    | false=>rw [hall] at H; exact H.elim
    | true =>
      rw [hall] at H; simp only [cond_true,cnd] at H
      obtain ⟨r,h1,h2⟩:=r_fill _ (fun i=>((f.toList.map fun f=>(f.offset,((τ.get f.type).map (·.size)).getD 0)).toArray)[i]?) (fun i x hx=>by
        unfold fieldPlace at hx
        split at hx
        · rename_i tt off hi
          split at hx
          · rename_i tj htj
            cases hx
            obtain ⟨y,hy,hy1,hy2⟩:=field_of hf hi
            have:f.toList[i]? =some y:=by rw [Array.getElem?_toList]; exact hy
            simp [List.getElem?_map,this,hy1,hy2,htj]
          · cases hx
        · cases hx) _ _ _ H
      refine ⟨_,_,h1,trivial,fun w _=> ?_⟩
      simp only [execOp,ho,Instr.build,Sem.run_bind,hu,hz,Result.andThen_ok,Array.mapM_eq_mapM_toList,Sem.run_map]
      rw [r_places hA w f.toList (by rw [hf]; exact hall)]
      simp only [Result.andThen_ok]
      rw [hps,h2]
      simp
  case h_2 n e e1=>
    rw [e1] at hk; obtain rfl:=kdOf_arr hk
    split at H
    case h_2=>exact H.elim
    rename_i te hte
    obtain ⟨r,h1,h2⟩:=r_fill _ _ (fun i x hx=>hx) _ _ _ H
    refine ⟨_,_,h1,trivial,fun w _=> ?_⟩
    simp only [execOp,ho,Instr.build,Sem.run_bind,hu,hz,Result.andThen_ok,r_size (hA e te hte)]
    rw [hps,h2]
    simp
theorem sameNow_eq {d:TypeDesc}: ∀ {a b:Value},sameK (kdOf d) a b=Instr.sameNow d a b:=by
  intro a b
  cases d <;> simp only [kdOf] <;> cases a <;> cases b <;> rfl
theorem findNow_eq {d:TypeDesc} {k:Value}: ∀ (l:List MapEntry) (i:Nat),mfind (kdOf d) k l i=Instr.findNow d k l i
  | [],_=>rfl
  | e :: l, i => by
    simp only [mfind,Instr.findNow,sameNow_eq]
    rw [findNow_eq l (i+1)]
    rfl
theorem r_checkKey {d:TypeDesc} {kt:Nat} {k:Value} {e:Bool} (hd:P.underlying kt=some d) (hk:isKey (kdOf d)=true) (w:World):
    (Instr.checkKey e 10000 kt k).run P w= .ok () w:=by
  show (Instr.checkKey e (9999+1) kt k).run P w=_
  unfold Instr.checkKey
  simp only [Sem.run_bind,run_underlying hd,Result.andThen_ok]
  cases d <;> simp [kdOf,isKey] at hk <;> rfl
theorem r_getMap {r:Nat} {es:Array MapEntry} {clock:Nat} (hb:w.heap[r]? =some (.map es clock)):(getObj r).run P w= .ok (.map es clock) w:=by
  simp [getObj,Sem.run,hb]
theorem r_findKey {kt:TypeId} {d:TypeDesc} {k:Value} {l:List MapEntry} {a:Option (Nat × Value)} (hd:P.underlying kt=some d) (h:Instr.findNow d k l 0=some a) (w:World):
    (Instr.findKey kt k l).run P w= .ok a w:=by
  simp [Instr.findKey,run_underlying hd,Result.andThen,h]
theorem isA_elim {v : Value} {K : Value → Prop} (H : isA ti v K) : K v := by
  unfold isA at H
  have key: ∀ (cs:List CK) (K':List Value→Prop),shapes cs K'→ ∃ vs,K' vs:=by
    intro cs
    induction cs with
    | nil=>exact fun K' H=>⟨_,H⟩
    | cons c cs ih =>
      intro K' H
      have one:(shape c fun v=>shapes cs fun vs=>K' (v::vs))→ ∃ vs,K' vs:=fun H=>by
        obtain ⟨u,hu⟩:=shape_elim H; obtain ⟨vs,hvs⟩:=ih _ hu; exact ⟨_,hvs⟩
      cases c with
      | lump k n=>obtain ⟨l,hl⟩:=H; obtain ⟨vs,hvs⟩:=ih _ hl; exact ⟨_,hvs⟩
      | int k=>exact one H
      | bool=>exact one H
      | str=>exact one H
      | ptr=>exact one H
      | sl=>exact one H
      | map=>exact one H
      | any=>exact one H
  cases hg:Go.Wc.isAgg ti.kd with
  | true =>
    rw [hg] at H
    obtain ⟨vs,h1,h2⟩:=key _ _ H
    rw [h1]; exact h2
  | false =>
    rw [hg] at H; simp only [cond_false,cnd] at H
    split at H
    · obtain ⟨u,h1,h2⟩:=shape_elim H; rw [h1]; exact h2
    · exact H.elim
theorem yl_lookup {o : Oper} {x i : Operand} {ok : Bool} {K : (Hp → Prop) → Value → Prop} (ho : o.op = .lookup t x i ok)
    (hA:Agree P τ) (H:opR τ (.lookup t x i ok) Γ h K):Yl P o Γ h K:=by
  simp only [opR] at H
  split at H
  case h_2=>exact H.elim
  rename_i ti ht
  obtain ⟨d,hd,hk⟩:=(hA t ti ht).und
  have hu: ∀ w:World,(underlying t).run P w= .ok d w:=fun w=>run_underlying hd w
  split at H
  case h_2=>exact H.elim
  case h_1 kt e m e1 e2=>
    rw [e1] at hk; obtain rfl:=kdOf_map hk
    split at H
    case h_2=>exact H.elim
    rename_i tk te htk hte
    cases hkk:isKey tk.kd with
    | false=>rw [hkk] at H; exact H.elim
    | true =>
      rw [hkk] at H; simp only [cond_true,cnd] at H
      obtain ⟨dk,hdk,hkd⟩:=(hA kt tk htk).und
      have huk: ∀ w:World,(underlying kt).run P w= .ok dk w:=fun w=>run_underlying hdk w
      have hck: ∀ (w:World) (b:Bool),(Instr.checkKey b 10000 kt (ev Γ i)).run P w= .ok () w:=fun w b=>r_checkKey hdk (by rw [hkd]; exact hkk) w
      have hz:=r_zero (hA e te hte)
      unfold lkA lkW at H
      split at H
      case h_1=>
        refine ⟨_,_,isA_elim (K:=fun v=>K (fun _=>True) (bif ok then .tuple #[v, .bool false] else v)) H,trivial,fun w _=> ?_⟩
        simp only [execOp,ho,e2,Instr.lookup,Sem.run_bind,hu,Result.andThen_ok,Sem.run_pure,hck,Instr.findKey,huk,Instr.findNow,hz,Option.getD_none]
        cases ok <;> rfl
      case h_2 r=>
        obtain ⟨es,clock,h1,oo,h2,h3⟩:=H
        have h4:=isA_elim h3
        refine ⟨_,_,h4,⟨es,clock,oo,h1,h2,rfl⟩,fun w hw=> ?_⟩
        obtain ⟨es',clock',o',g1,g2,g3⟩:=hw
        rw [← hkd,findNow_eq] at g2
        simp only [execOp,ho,e2,Instr.lookup,Sem.run_bind,hu,Result.andThen_ok,r_getMap g1,Sem.run_pure,hck,r_findKey hdk g2,← g3]
        cases o' with
        | none=>simp only [Option.map_none,Option.getD_none,Option.isSome_none,Sem.run_bind,hz,Result.andThen_ok,Sem.run_pure]; cases ok <;> rfl
        | some p=>obtain ⟨j,v⟩:=p; simp only [Option.map_some,Option.getD_some,Option.isSome_some]; cases ok <;> rfl
theorem yl_builtin {o : Oper} {b : Builtin} {args : Array Operand} {ats : Array TypeId} {K : (Hp → Prop) → Value → Prop} (ho : o.op = .call { callee := .builtin b, args := args, argTypes := ats })
    (hA:Agree P τ) (H:opR τ (.call {callee:= .builtin b,args:=args,argTypes:=ats}) Γ h K):Yl P o Γ h K:=by
  simp only [opR] at H
  obtain ⟨al,rfl⟩: ∃ l:List Operand,args=l.toArray:=⟨args.toList,by simp⟩
  obtain ⟨tl,rfl⟩: ∃ l:List TypeId,ats=l.toArray:=⟨ats.toList,by simp⟩
  split at H
  case h_1 x t e1 e2=>
    simp only at e1 e2; subst e1 e2
    split at H
    case h_2=>exact H.elim
    rename_i ti ht
    obtain ⟨d,hd,hk⟩:=(hA t ti ht).und
    have hu: ∀ w:World,(underlying t).run P w= .ok d w:=fun w=>run_underlying hd w
    split at H
    case h_5=>exact H.elim
    case h_1 s e1 e2=>
      rw [e1] at hk; obtain rfl:=kdOf_str hk
      refine ⟨_,_,H,trivial,fun w _=> ?_⟩
      simp [execOp,ho,resolve,invoke,builtin,Builtin.len_,e2,hu,goInt]
    case h_2 e a n c e1 e2=>
      rw [e1] at hk; obtain rfl:=kdOf_slice hk
      refine ⟨_,_,H,trivial,fun w _=> ?_⟩
      simp [execOp,ho,resolve,invoke,builtin,Builtin.len_,e2,hu,goInt]
    case h_3 kt e m e1 e2=>
      rw [e1] at hk; obtain rfl:=kdOf_map hk
      unfold lnM at H
      split at H
      case h_1=>
        refine ⟨_,_,H,trivial,fun w _=> ?_⟩
        simp [execOp,ho,resolve,invoke,builtin,Builtin.len_,e2,hu,goInt]
      case h_2 r=>
        obtain ⟨es,clock,h1,h2⟩:=H
        refine ⟨_,_,h2,⟨es,clock,h1,rfl⟩,fun w hw=> ?_⟩
        obtain ⟨es',clock',g1,g2⟩:=hw
        simp [execOp,ho,resolve,invoke,builtin,Builtin.len_,e2,hu,goInt,r_getMap g1,g2]
    case h_4 n e x e1=>
      rw [e1] at hk; obtain rfl:=kdOf_arr hk
      refine ⟨_,_,H,trivial,fun w _=> ?_⟩
      simp [execOp,ho,resolve,invoke,builtin,Builtin.len_,hu,goInt]
  case h_2 x t e1 e2=>
    simp only at e1 e2; subst e1 e2
    split at H
    case h_2=>exact H.elim
    rename_i ti ht
    obtain ⟨d,hd,hk⟩:=(hA t ti ht).und
    have hu: ∀ w:World,(underlying t).run P w= .ok d w:=fun w=>run_underlying hd w
    split at H
    case h_2=>exact H.elim
    case h_1 e a n c e1 e2=>
      rw [e1] at hk; obtain rfl:=kdOf_slice hk
      refine ⟨_,_,H,trivial,fun w _=> ?_⟩
      simp [execOp,ho,resolve,invoke,builtin,Builtin.cap_,e2,hu,goInt]
  case h_3 x y l e1=>
    simp only at e1; subst e1
    split at H
    case h_2=>exact H.elim
    rename_i k a k2 b e1 e2
    refine ⟨_,_,H,trivial,fun w _=> ?_⟩
    simp [execOp,ho,resolve,invoke,builtin,Builtin.min_,Builtin.min2,e1,e2]
  case h_4 x y l e1=>
    simp only at e1; subst e1
    split at H
    case h_2=>exact H.elim
    rename_i k a k2 b e1 e2
    refine ⟨_,_,H,trivial,fun w _=> ?_⟩
    simp [execOp,ho,resolve,invoke,builtin,Builtin.max_,Builtin.max2,e1,e2]
  case h_5=>exact H.elim
theorem opR_sound {o:Oper} {K:(Hp→Prop)→Value→Prop} (hA:Agree P τ) (H:opR τ o.op Γ h K):Yl P o Γ h K:=by
  cases ho:o.op with
  | move x=>rw [ho] at H; exact ⟨_,_,H,trivial,fun w _=>by simp [execOp,ho]⟩
  | assign x=>rw [ho] at H; exact ⟨_,_,H,trivial,fun w _=>by simp [execOp,ho]⟩
  | pick c a b =>
    rw [ho] at H; simp only [opR] at H
    split at H
    case h_2=>exact H.elim
    rename_i t e
    cases t with
    | true=>exact ⟨_,_,H,trivial,fun w _=>by simp [execOp,ho,e,asBool]⟩
    | false=>exact ⟨_,_,H,trivial,fun w _=>by simp [execOp,ho,e,asBool]⟩
  | build t ps=>rw [ho] at H; exact yl_build ho hA H
  | load t a=>rw [ho] at H; exact yl_load ho hA H
  | nilCheck x=>rw [ho] at H; exact yl_nilCheck ho H
  | binOp op t x y u=>rw [ho] at H; exact yl_binOp ho hA H
  | unOp op u x=>rw [ho] at H; exact yl_unOp ho H
  | convert s d x=>rw [ho] at H; exact yl_convert ho hA H
  | makeFunc f x y=>rw [ho] at H; exact yl_makeFunc ho H
  | makeInterface t x=>rw [ho] at H; exact yl_makeInterface ho hA H
  | slice t x lo hi mx =>
    rw [ho] at H
    cases mx with
    | none=>exact yl_slice ho hA H
    | some m => cases hi with
      | none=>simp only [opR] at H
      | some y=>exact yl_slice3 ho hA H
  | fieldAddr t x i=>rw [ho] at H; exact yl_fieldAddr ho hA H
  | field t x i=>rw [ho] at H; exact yl_field ho hA H
  | indexAddr t x i=>rw [ho] at H; exact yl_indexAddr ho hA H
  | index t x i=>rw [ho] at H; exact yl_index ho hA H
  | lookup t x i ok=>rw [ho] at H; exact yl_lookup ho hA H
  | extract x i=>rw [ho] at H; exact yl_extract ho H
  | call c =>
    rw [ho] at H
    obtain ⟨callee,args,ats⟩:=c
    cases callee with
    | builtin b=>exact yl_builtin ho hA H
    | _=>simp only [opR] at H
  | _=>rw [ho] at H; simp only [opR] at H
end Go.Wc
