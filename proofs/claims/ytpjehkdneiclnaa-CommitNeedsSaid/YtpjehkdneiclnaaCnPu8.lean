import Derived.Test.YtpjehkdneiclnaaCnPu7
set_option linter.unusedSimpArgs false
set_option linter.unusedVariables false
namespace Go.Pu
open Go Go.Wc
variable {X:Type} {E:Rp X} {h:Hp} {A:List At} {a a2:Option Addr} {c c2:Nat} {l m:List X} {a':At}
def cpP (l:List X) (i n:Nat) (m:List X):List X:=l.take i++m.take (min m.length n)++l.drop (i+min m.length n)
theorem cpP_length {i n:Nat} (h:i+n≤l.length):(cpP l i n m).length=l.length:=by
  simp only [cpP,List.length_append,List.length_take,List.length_drop]; omega
theorem cpp_r {nl nm n2 i : Nat} {K : Int → Hp → Prop} (hX : Rd E a' a2 nm c2 m) (I : Inv h (ownS E a nl c l :: a' :: A)) (hi : i + n2 ≤ l.length) (k : ∀ h', Inv h' (ownS E a nl c (cpP l i n2 m) :: a' :: A) → K (min nm n2 : Nat) h') :
    cpW E.n h ⟨resl a c E.n (i:Int),n2,c - i⟩ ⟨a2,nm,c2⟩ K:=by
  obtain rfl:=rd_len hX I.swap
  obtain rfl:=own_len I
  have I0:=I
  obtain ⟨F,M,⟨F1,F2,eF,⟨_,T',vs,h1,h2⟩,h3⟩,hFM,hnd,hlt,H⟩:=I.sepI.turn
  subst eF
  obtain ⟨_,ws,g1,g2,g3⟩:=hX h3
  have hwl:=g3.len
  have hvl:=h2.len
  generalize hq:min m.length n2=q at*
  have hqm:q≤m.length:=by omega
  have hmin:q*E.n≤ws.length:=by rw [hwl]; exact Nat.mul_le_mul_right _ hqm
  have hqn:i+q≤l.length:=by omega
  have hc:l.length≤c:=h1.2.1
  have e1: ∀ h':Hp,Keep F1 h h'→Own h' ⟨a,l.length,c⟩ T' E.n (vs.take (i*E.n)++ws.take (q*E.n)++vs.drop ((i+q)*E.n)) F1→K (q:Nat) h':=fun h' hk hO=>by
    obtain ⟨d1,d2,d3⟩:=List.nodup_append.1 hnd
    have hF2:=a'.lt h3
    have el:(cpP l i n2 m).length=l.length:=cpP_length hi
    refine k h' (H h' [_,a'] [F1,F2] (hk.mono fun b hb=> .inl (by simp [hb])) (fun b hb=> .inl (by rw [flat2] at hb; exact hb)) (by rw [flat2]; exact hnd) fun M' hL _ _=>⟨⟨el.symm,T',_,by rw [el]; exact hO, ?_⟩,a'.mono (fun b hb=>hk.2 b (hF2 b hb) fun e=>d3 b e b hb rfl) hL h3,trivial⟩)
    unfold cpP
    rw [hq]
    exact ((((h2.mono hL).take_drop i (by omega)).1).append ((g3.mono hL).take_drop q hqm).1).append ((h2.mono hL).take_drop (i+q) hqn).2
  unfold cpW
  dsimp only
  rw [hq]
  refine ⟨ws.take (q*E.n), ?_, ?_⟩
  · have := (g1.take (i := q) hqm c2).cellsAt
    exact this
  · have hwq : (ws.take (q * E.n)).length = q * E.n := by rw [List.length_take]; omega
    cases a with
    | none =>
      have e:=own_none I0
      subst e
      have q0:q=0:=by simp at hqn; omega
      have i0:i=0:=by simp at hqn; omega
      have hv0:vs=[]:=List.length_eq_zero_iff.1 (by simpa using hvl)
      have hK:K (q:Nat) h:=e1 h (Keep.refl _ _) (by subst q0 i0 hv0; simpa using h1)
      have:resl none c E.n (i:Int)=none:=by unfold resl; split <;> rfl
      rw [this]
      exact hK
    | some x =>
      obtain ⟨o1,o2',o3⟩:=h1
      obtain ⟨b,o,sp⟩:=x
      obtain ⟨hf,hs,pre,post,fz,hbk,hp,hl2,hz2⟩:=o3
      simp only at hs hbk hp hf hz2 o1 o2' hl2; subst hs
      have hcn:l.length*E.n≤c*E.n:=Nat.mul_le_mul_right _ hc
      have hin:(i+q)*E.n≤l.length*E.n:=Nat.mul_le_mul_right _ hqn
      have him:(i+q)*E.n=i*E.n+q*E.n:=Nat.add_mul _ _ _
      by_cases hci:c=i
      · have q0 : q = 0 := by omega
        have e2:ws.take (q*E.n)=[]:=by rw [q0]; simp
        have hK:K (q:Nat) h:=e1 h (Keep.refl _ _) ⟨by simp only [List.length_append,List.length_take,List.length_drop]; omega,o2',hf,rfl,pre,post,fz,by
          rw [hbk,e2,q0]; congr 2; simp,hp,by simp only [List.length_append,List.length_take,List.length_drop]; omega,hz2⟩
        have:resl (some ⟨b,o,none⟩) c E.n (i:Int)=some ⟨b,o,none⟩:=by unfold resl; rw [if_pos (by simpa using hci)]
        rw [this,e2]
        exact hK
      · have : resl (some ⟨b, o, none⟩) c E.n (i : Int) = some ⟨b, o + i * E.n, none⟩ := by unfold resl; rw [if_neg (by simpa using hci)]; simp
        rw [this]
        refine stAll_mid (T:=T') (z:=fz) (ws.take (q*E.n)) ((vs.drop (i*E.n)).take (q*E.n)) h (pre++vs.take (i*E.n)) (vs.drop ((i+q)*E.n)++post) 0 ?_ (by simp only [List.length_take,List.length_drop]; omega) (by simp only [List.length_append,List.length_take]; omega) (by rw [hwq]; omega) (fun v hv=>g3.one v (List.mem_of_mem_take hv)) fun h' hb' k' hs'=> ?_
        · rw [hbk]
          congr 2
          simp only [List.append_assoc]
          rw [him,← List.drop_drop]
          conv=>lhs; rw [← List.take_append_drop (i*E.n) vs,← List.take_append_drop (q*E.n) (vs.drop (i*E.n))]
          simp only [List.append_assoc]
        · refine e1 h' (by rw [hf]; exact k') ⟨by simp only [List.length_append,List.length_take,List.length_drop]; omega,o2',hf,rfl,pre,post,fz,by rw [hb']; simp only [List.append_assoc],hp,by simp only [List.length_append,List.length_take,List.length_drop]; omega,hz2⟩
theorem sl_part {nl n:Nat} {lo hi:Int} {K:Sl→Prop} (I:Inv h (ownS E a nl c l::A)) (H:SlOk l lo hi) (k:K ⟨resl a c n (lo.toNat:Int),(sub l lo hi).length,c - lo.toNat⟩):slW ⟨a,nl,c⟩ lo hi n K:=
  slw_own I H (by
    have e:((lo.toNat:Nat):Int)=lo:=by obtain ⟨h0,h1,h2⟩:=H; omega
    rw [e] at k; exact k)
theorem part_ok {lo hi:Int} (H:SlOk l lo hi):lo.toNat+(sub l lo hi).length≤l.length:=by
  have:=sub_length H
  obtain ⟨h0,h1,h2⟩:=H
  omega
theorem rd_part {lo hi:Int} {nl:Nat} (hX:Rd E a' a nl c l) (H:SlOk l lo hi):Rd E a' (resl a c E.n (lo.toNat:Int)) (sub l lo hi).length (c - lo.toNat) (sub l lo hi):=by
  have e:((lo.toNat:Nat):Int)=lo:=by obtain ⟨h0,h1,h2⟩:=H; omega
  rw [e]
  intro h F M
  exact rd_sub hX H rfl
theorem Inv.relenO {nl:Nat} (I:Inv h (ownS E a nl c l::A)):Inv h (ownS E a l.length c l::A):=by
  obtain rfl:=own_len I
  exact I
theorem Inv.relenR {nl:Nat} (I:Inv h (roS E a nl c l::A)):Inv h (roS E a l.length c l::A):=by
  obtain rfl:=ro_len I
  exact I
theorem all_app {u w:List Value} (h1: ∀ v ∈ u,v.oneCell'=true) (h2: ∀ v ∈ w,v.oneCell'=true): ∀ v ∈ u++w,v.oneCell'=true:=by
  intro v hv
  rcases List.mem_append.1 hv with hv | hv
  · exact h1 v hv
  · exact h2 v hv
end Go.Pu
