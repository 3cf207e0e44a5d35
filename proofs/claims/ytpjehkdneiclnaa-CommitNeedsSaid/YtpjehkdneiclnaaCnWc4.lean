import Derived.Test.YtpjehkdneiclnaaCnWc3
set_option linter.unusedSimpArgs false
set_option linter.unusedVariables false
namespace Go.Wc
variable {P:Program} {τ:Tys} {t:Nat} {ti:TI} {w:World} {Γ:Env} {h:Hp}
theorem yl_slice3 {o:Oper} {t:Nat} {x y z:Operand} {lo:Option Operand} {K:(Hp→Prop)→Value→Prop} (ho:o.op= .slice t x lo (some y) (some z))
    (hA:Agree P τ) (H:opR τ (.slice t x lo (some y) (some z)) Γ h K):Yl P o Γ h K:=by
  simp only [opR] at H
  split at H
  case h_2=>exact H.elim
  rename_i ti ht
  have hAt:=hA t ti ht
  obtain ⟨d,hd,hk⟩:=hAt.und
  have hu: ∀ w:World,(underlying t).run P w= .ok d w:=fun w=>run_underlying hd w
  split at H
  case h_2=>exact H.elim
  case h_1 e a n c k1 i k2 j k3 m e1 e2 e3 e4 e5=>
    rw [e1] at hk; obtain rfl:=kdOf_slice hk
    split at H
    case h_2=>exact H.elim
    rename_i te hte
    have hs:=r_size (hA e te hte)
    obtain ⟨⟨h1,h2⟩,⟨h3,h4⟩,⟨h5,h6⟩,h7⟩:=H
    refine ⟨_,_,h7,trivial,fun w _=> ?_⟩
    have b1:=r_bound (P:=P) (w:=w) (k:=k3) (c:= .slice3Acap) h1 h2
    have b2:=r_bound (P:=P) (w:=w) (k:=k2) (c:= .slice3B) (y:=m.toNat) h3 (by omega)
    have b3:=r_bound (P:=P) (w:=w) (k:=k1) (c:= .slice3C) (y:=j.toNat) h5 (by omega)
    cases lo with
    | none =>
      simp only at e3; cases e3
      simp [execOp,ho,e2,e4,e5,Instr.sliceAt,hu,Instr.slice,Instr.sliceBounds,hs,b1,b2]
    | some l =>
      simp only at e3
      simp [execOp,ho,e2,e3,e4,e5,Instr.sliceAt,hu,Instr.slice,Instr.sliceBounds,hs,b1,b2,b3]
theorem field_of {f:Array Field} {fs:List (Nat × Nat)} {i ft off:Nat} (hf:f.toList.map (fun f=>(f.type,f.offset))=fs) (hi:fs[i]? =some (ft,off)):
    ∃ x,f[i]? =some x∧x.type=ft∧x.offset=off:=by
  subst hf
  rw [List.getElem?_map] at hi
  simp only [Array.getElem?_toList] at hi
  cases hx:f[i]? with
  | none=>rw [hx] at hi; simp at hi
  | some x=>rw [hx] at hi; simp at hi; exact ⟨x,rfl,hi.1,hi.2⟩
theorem yl_fieldAddr {o:Oper} {t:Nat} {x:Operand} {i:Nat} {K:(Hp→Prop)→Value→Prop} (ho:o.op= .fieldAddr t x i)
    (hA:Agree P τ) (H:opR τ (.fieldAddr t x i) Γ h K):Yl P o Γ h K:=by
  simp only [opR] at H
  split at H
  case h_2=>exact H.elim
  rename_i ti ht
  have hAt:=hA t ti ht
  obtain ⟨d,hd,hk⟩:=hAt.und
  have hu: ∀ w:World,(underlying t).run P w= .ok d w:=fun w=>run_underlying hd w
  split at H
  case h_2=>exact H.elim
  case h_1 fs a e1 e2=>
    rw [e1] at hk; obtain ⟨f,rfl,hf⟩:=kdOf_struct hk
    split at H
    case h_2=>exact H.elim
    rename_i ft off hi
    obtain ⟨y,hy,hy1,hy2⟩:=field_of hf hi
    split at H
    case h_2=>exact H.elim
    rename_i tf htf
    have hs:=r_size (hA ft tf htf)
    cases hz:Nat.beq tf.size 0 with
    | true=>rw [hz] at H; exact H.elim
    | false =>
      rw [hz] at H
      have hz':tf.size ≠ 0:=by intro e; rw [e] at hz; cases hz
      refine ⟨_,_,H,trivial,fun w _=> ?_⟩
      simp [execOp,ho,e2,Instr.fieldAt,Instr.sureAddr,hu,hy,hy1,hy2,Go.fieldPlace,hs,hz']
theorem yl_field {o:Oper} {t:Nat} {x:Operand} {i:Nat} {K:(Hp→Prop)→Value→Prop} (ho:o.op= .field t x i)
    (hA:Agree P τ) (H:opR τ (.field t x i) Γ h K):Yl P o Γ h K:=by
  simp only [opR] at H
  split at H
  case h_2=>exact H.elim
  rename_i ti ht
  have hAt:=hA t ti ht
  obtain ⟨d,hd,hk⟩:=hAt.und
  have hu: ∀ w:World,(underlying t).run P w= .ok d w:=fun w=>run_underlying hd w
  split at H
  case h_2=>exact H.elim
  case h_1 fs a e1 e2=>
    rw [e1] at hk; obtain ⟨f,rfl,hf⟩:=kdOf_struct hk
    split at H
    case h_2=>exact H.elim
    rename_i ft off hi
    obtain ⟨y,hy,hy1,hy2⟩:=field_of hf hi
    split at H
    case h_2=>exact H.elim
    rename_i tf htf
    obtain ⟨v,h1,h2⟩:=r_part (hA ft tf htf) H
    refine ⟨_,_,h1,trivial,fun w _=> ?_⟩
    simp [execOp,ho,e2,Instr.field,hu,hy,hy1,hy2,asAgg,h2]
theorem yl_indexAddr {o:Oper} {t:Nat} {x i:Operand} {K:(Hp→Prop)→Value→Prop} (ho:o.op= .indexAddr t x i)
    (hA:Agree P τ) (H:opR τ (.indexAddr t x i) Γ h K):Yl P o Γ h K:=by
  simp only [opR] at H
  split at H
  case h_2=>exact H.elim
  rename_i ti ht
  have hAt:=hA t ti ht
  obtain ⟨d,hd,hk⟩:=hAt.und
  have hu: ∀ w:World,(underlying t).run P w= .ok d w:=fun w=>run_underlying hd w
  split at H
  case h_3=>exact H.elim
  case h_1 e a n c k j e1 e2 e3=>
    rw [e1] at hk; obtain rfl:=kdOf_slice hk
    split at H
    case h_2=>exact H.elim
    rename_i te hte
    obtain ⟨b,rfl,h1,h2,h3⟩:=r_ixW H
    refine ⟨_,_,h3,trivial,fun w _=> ?_⟩
    simp [execOp,ho,e2,e3,Instr.indexAt,asIntOf,hu,r_size (hA e te hte),h1,h2]
  case h_2 n e a k j e1 e2 e3=>
    rw [e1] at hk; obtain rfl:=kdOf_arr hk
    split at H
    case h_2=>exact H.elim
    rename_i te hte
    obtain ⟨b,hb,h1,h2,h3⟩:=r_ixW H
    cases hb
    refine ⟨_,_,h3,trivial,fun w _=> ?_⟩
    simp [execOp,ho,e2,e3,Instr.indexAt,asIntOf,hu,r_size (hA e te hte),h1,h2,Instr.sureAddr]
theorem yl_index {o : Oper} {t : Nat} {x i : Operand} {K : (Hp → Prop) → Value → Prop} (ho : o.op = .index t x i)
    (hA:Agree P τ) (H:opR τ (.index t x i) Γ h K):Yl P o Γ h K:=by
  simp only [opR] at H
  split at H
  case h_2=>exact H.elim
  rename_i ti ht
  have hAt:=hA t ti ht
  obtain ⟨d,hd,hk⟩:=hAt.und
  have hu: ∀ w:World,(underlying t).run P w= .ok d w:=fun w=>run_underlying hd w
  split at H
  case h_3=>exact H.elim
  case h_2 n e cs k j e1 e2 e3=>
    rw [e1] at hk; obtain rfl:=kdOf_arr hk
    split at H
    case h_2=>exact H.elim
    rename_i te hte
    split at H
    case h_2=>exact H.elim
    rename_i ik ek
    cases hc:(Nat.beq te.size 1 && intsOk ik n cs.toList) with
    | false=>rw [hc] at H; exact H.elim
    | true =>
      rw [hc] at H; simp only [cnd] at H
      simp only [Bool.and_eq_true,Nat.beq_eq] at hc
      obtain ⟨⟨h0,h1⟩,h2⟩:=H
      refine ⟨_,_,h2,trivial,fun w _=> ?_⟩
      obtain ⟨x1,x2⟩:=intsOk_eq hc.2
      have hlt:j.toNat<(unInts cs.toList).length:=by have:=congrArg List.length x1; simp at this x2; omega
      have hce:cs[j.toNat]? =some (.int ik ((unInts cs.toList).getD j.toNat 0)):=by
        have e4:cs.toList[j.toNat]? =((unInts cs.toList).map (Value.int ik))[j.toNat]? :=by rw [← x1]
        rw [← Array.getElem?_toList,e4,List.getElem?_map,List.getElem?_eq_getElem hlt]
        simp [List.getD_eq_getElem?_getD,List.getElem?_eq_getElem hlt]
      have hsz: ∀ w:World,(Go.sizeOf e).run P w= .ok 1 w:=fun w=>by rw [r_size (hA e te hte),hc.1]
      simp [execOp,ho,e2,e3,Instr.index,asIntOf,hu,h0,h1,hsz,part,r_agg (hA e te hte),ek,isAgg,hce]
  case h_1 s k j e1 e2 e3=>
    rw [e1] at hk; obtain rfl:=kdOf_str hk
    obtain ⟨⟨h0,h1⟩,h2⟩:=H
    refine ⟨_,_,h2,trivial,fun w _=> ?_⟩
    have hlt:j.toNat<s.size:=by omega
    have e:s[j.toNat]? =some (s.data.toList.getD j.toNat 0):=by
      have hlt2:j.toNat<s.data.toList.length:=hlt
      rw [getElem?_pos s j.toNat hlt]
      simp only [List.getD_eq_getElem?_getD,List.getElem?_eq_getElem hlt2,Option.getD_some]
      rfl
    simp [execOp,ho,e2,e3,Instr.index,asIntOf,hu,h0,e]
theorem yl_extract {o:Oper} {x:Operand} {i:Nat} {K:(Hp→Prop)→Value→Prop} (ho:o.op= .extract x i)
    (H:opR τ (.extract x i) Γ h K):Yl P o Γ h K:=by
  simp only [opR] at H
  split at H
  case h_2=>exact H.elim
  rename_i vs e
  split at H
  case h_2=>exact H.elim
  rename_i v l e'
  refine ⟨_,_,H,trivial,fun w _=> ?_⟩
  have:vs[i]? =some v:=by
    rw [← Array.getElem?_toList]
    have:=congrArg List.head? e'
    rwa [List.head?_drop] at this
  simp [execOp,ho,e,Instr.extract,this]
theorem yl_makeFunc {o:Oper} {f:Fn} {x y:Array Operand} {K:(Hp→Prop)→Value→Prop} (ho:o.op= .makeFunc f x y)
    (H:opR τ (.makeFunc f x y) Γ h K):Yl P o Γ h K:=by
  refine ⟨_,_,H,trivial,fun w _=> ?_⟩
  simp only [execOp,ho,Instr.makeFunc,Sem.run_bind,Sem.run_pure,Result.andThen_ok]
  rw [show Array.map (ev Γ) x=(List.map (ev Γ) x.toList).toArray from by apply Array.ext'; simp,show Array.map (ev Γ) y=(List.map (ev Γ) y.toList).toArray from by apply Array.ext'; simp]
theorem yl_makeInterface {o:Oper} {x:Operand} {K:(Hp→Prop)→Value→Prop} (ho:o.op= .makeInterface t x)
    (hA:Agree P τ) (H:opR τ (.makeInterface t x) Γ h K):Yl P o Γ h K:=by
  simp only [opR] at H
  split at H
  case h_2=>exact H.elim
  rename_i ti ht
  obtain ⟨d,hd,hk⟩:=(hA t ti ht).und
  have hu: ∀ w:World,(underlying t).run P w= .ok d w:=fun w=>run_underlying hd w
  split at H
  case h_1=>exact H.elim
  rename_i hne
  refine ⟨_,_,H,trivial,fun w _=> ?_⟩
  simp only [execOp,ho,Instr.makeInterface,Sem.run_bind,hu,Result.andThen_ok]
  cases d <;> first | rfl | (exfalso; exact hne (by rw [← hk]; rfl))
theorem r_b2s {s : Sl} {K : (Hp → Prop) → ByteArray → Prop} (H : b2s h s K) : ∃ f b, K f b ∧ f h ∧ ∀ w : World, f w.heap → (Conv.bytesToString (.slice s.a s.len s.cap)).run P w = .ok (.string b) w := by
  unfold b2s at H
  split at H
  case h_1 e=>exact ⟨_,_,H,trivial,fun w _=>by rw [e]; simp [Conv.bytesToString]⟩
  case h_2 a e=>
    obtain ⟨bs,h1,h2⟩:=H
    refine ⟨_,_,h2,h1,fun w hw=> ?_⟩
    rw [e]
    obtain ⟨hl,hc⟩:=hw
    simp only [Conv.bytesToString,Sem.run_bind,r_loadCells hl hc,Result.andThen_ok]
    have key: ∀ (g:Value→ByteArray→Sem (ForInStep ByteArray)),(∀ n r,g (.int .u8 n) r=pure (.yield (r.push (UInt8.ofNat n.toNat))))→
        ∀ (l:List UInt8) (acc:ByteArray),(forIn (m:=Sem) (l.map fun b=>Value.int .u8 b.toNat) acc g).run P w= .ok ⟨acc.data++l.toArray⟩ w:=by
      intro g hg l
      induction l with
      | nil=>intro acc; simp
      | cons b l ih =>
        intro acc
        simp only [List.map_cons,List.forIn_cons,hg,Sem.run_bind,Sem.run_pure,Result.andThen_ok]
        rw [ih]
        congr 2
        simp [ByteArray.push]
    simp only [byteVals]
    rw [List.forIn_toArray,key _ (fun n r=>rfl)]
    simp
theorem yl_convert {o:Oper} {s d:Nat} {x:Operand} {K:(Hp→Prop)→Value→Prop} (ho:o.op= .convert s d x)
    (hA:Agree P τ) (H:opR τ (.convert s d x) Γ h K):Yl P o Γ h K:=by
  simp only [opR] at H
  split at H
  case h_2=>exact H.elim
  rename_i ts td hts htd
  obtain ⟨ds,hds,hks⟩:=(hA s ts hts).und
  obtain ⟨dd,hdd,hkd⟩:=(hA d td htd).und
  have hus: ∀ w:World,(underlying s).run P w= .ok ds w:=fun w=>run_underlying hds w
  have hud: ∀ w:World,(underlying d).run P w= .ok dd w:=fun w=>run_underlying hdd w
  split at H
  case h_4=>exact H.elim
  case h_1 k1 k k2 n e1 e2 e3=>
    rw [e1] at hks; rw [e2] at hkd; obtain rfl:=kdOf_int hks; obtain rfl:=kdOf_int hkd
    refine ⟨_,_,H,trivial,fun w _=> ?_⟩
    simp [execOp,ho,convert,hus,hud,e3,Conv.intToInt]
  case h_2 b e1 e2 e3=>
    rw [e1] at hks; rw [e2] at hkd; obtain rfl:=kdOf_str hks; obtain rfl:=kdOf_str hkd
    refine ⟨_,_,H,trivial,fun w _=> ?_⟩
    simp [execOp,ho,convert,hus,hud,e3]
  case h_3 e a l c e1 e2 e3=>
    rw [e1] at hks; rw [e2] at hkd; obtain rfl:=kdOf_slice hks; obtain rfl:=kdOf_str hkd
    split at H
    case h_2=>exact H.elim
    rename_i te hte
    split at H
    case h_2=>exact H.elim
    rename_i ek
    obtain ⟨de,hde,hke⟩:=(hA e te hte).und
    rw [ek] at hke; obtain rfl:=kdOf_int hke
    obtain ⟨f,b,h1,h2,h3⟩:=r_b2s (P:=P) H
    refine ⟨_,_,h1,h2,fun w hw=> ?_⟩
    have hue:(underlying e).run P w= .ok (.int .u8) w:=run_underlying hde w
    simp [execOp,ho,convert,hus,hud,e3,hue,h3 w hw]
end Go.Wc
