import Derived.Test.YtpjehkdneiclnaaCnWc12
import Derived.KernelRfl
set_option linter.unusedSimpArgs false
set_option linter.unusedVariables false
namespace Go.Wc
structure Ids where
  T:Nat→Nat
  G:Nat→Nat
def ids (t g:List (Nat × Nat)):Ids where
  T n:=((t.find? fun p=>Nat.beq p.1 n).map (·.2)).getD 0
  G n:=((g.find? fun p=>Nat.beq p.1 n).map (·.2)).getD 0
def sameKind:IntKind→IntKind→Bool
  | .i8, .i8 | .i16, .i16 | .i32, .i32 | .i64, .i64 | .u8, .u8 | .u16, .u16 | .u32, .u32 | .u64, .u64=>true
  | _,_=>false
theorem sameKind_eq {a b:IntKind} (h:sameKind a b=true):a=b:=by cases a <;> cases b <;> first | rfl | cases h
abbrev LP:=List Value→Prop
abbrev tI (k:IntKind) (f:Int→LP):LP
  | .int k' n::r=>cnd (sameKind k' k) (f n r) (False)
  | _=>False
abbrev tB (f:Bool→LP):LP
  | .bool b::r=>f b r
  | _=>False
abbrev tT (f:ByteArray→LP):LP
  | .string b::r=>f b r
  | _=>False
abbrev tP (f:Option Addr→LP):LP
  | .pointer p::r=>f p r
  | _=>False
abbrev tA (f:Addr→LP):LP
  | .pointer (some p)::r=>f p r
  | _=>False
abbrev tS (f:Sl→LP):LP
  | .slice a n c::r=>f ⟨a,n,c⟩ r
  | _=>False
abbrev tM (f:Option Nat→LP):LP
  | .map m::r=>f m r
  | _=>False
abbrev tV (f:Value→LP):LP
  | v::r=>f v r
  | _=>False
abbrev tG (f:List Value→LP):LP
  | .agg cs::r=>f cs.toList r
  | _=>False
abbrev tN (X:Prop):LP
  | []=>X
  | _=>False
abbrev takeI (k:IntKind):Nat→List Value→(List Int→LP)→Prop
  | 0,r,f=>f [] r
  | n + 1, vs, f => match vs with
    | .int k' x::r=>cnd (sameKind k' k) (takeI k n r fun l=>f (x::l)) (False)
    | _=>False
abbrev tL (k:IntKind) (n:Nat) (f:List Int→LP):LP:=fun vs=>takeI k n vs f
theorem takeI_elim {k : IntKind} : ∀ {n : Nat} {vs : List Value} {f : List Int → LP}, takeI k n vs f → ∃ (l : List Int) (rest : List Value), l.length = n ∧ vs = l.map (Value.int k) ++ rest ∧ f l rest
  | 0,vs,f,h=>⟨[],vs,rfl,rfl,h⟩
  | n + 1, vs, f, h => by
    simp only [takeI] at h
    split at h
    · rename_i k' x r
      cases hk:sameKind k' k with
      | false=>rw [hk] at h; exact h.elim
      | true =>
        rw [hk] at h
        obtain ⟨l,rest,h1,h2,h3⟩:=takeI_elim h
        exact ⟨x::l,rest,by simp [h1],by rw [h2,sameKind_eq hk]; rfl,h3⟩
    · exact h.elim
theorem tL_elim {k:IntKind} {n:Nat} {f:List Int→LP} {vs:List Value} (h:tL k n f vs): ∃ (l:List Int) (rest:List Value),vs=lumpV k n l++rest∧f (nrm n l) rest:=by
  obtain ⟨l,rest,h1,h2,h3⟩:=takeI_elim h
  exact ⟨l,rest,by rw [h2,lumpV,nrm_eq h1],by rw [nrm_eq h1]; exact h3⟩
theorem tI_elim {k:IntKind} {f:Int→LP} {l:List Value} (h:tI k f l): ∃ n r,l= .int k n::r∧f n r:=by
  unfold tI at h
  split at h
  · rename_i k' n r
    cases hk:sameKind k' k with
    | false=>rw [hk] at h; exact h.elim
    | true=>rw [hk] at h; exact ⟨n,r,by rw [sameKind_eq hk],h⟩
  · exact h.elim
theorem tB_elim {f:Bool→LP} {l:List Value} (h:tB f l): ∃ b r,l= .bool b::r∧f b r:=by
  unfold tB at h; split at h
  · exact ⟨_,_,rfl,h⟩
  · exact h.elim
theorem tT_elim {f:ByteArray→LP} {l:List Value} (h:tT f l): ∃ b r,l= .string b::r∧f b r:=by
  unfold tT at h; split at h
  · exact ⟨_,_,rfl,h⟩
  · exact h.elim
theorem tP_elim {f:Option Addr→LP} {l:List Value} (h:tP f l): ∃ p r,l= .pointer p::r∧f p r:=by
  unfold tP at h; split at h
  · exact ⟨_,_,rfl,h⟩
  · exact h.elim
theorem tA_elim {f:Addr→LP} {l:List Value} (h:tA f l): ∃ p r,l= .pointer (some p)::r∧f p r:=by
  unfold tA at h; split at h
  · exact ⟨_,_,rfl,h⟩
  · exact h.elim
theorem tS_elim {f:Sl→LP} {l:List Value} (h:tS f l): ∃ (s:Sl) (r:List Value),l= .slice s.a s.len s.cap::r∧f s r:=by
  unfold tS at h; split at h
  · exact ⟨⟨_,_,_⟩,_,rfl,h⟩
  · exact h.elim
theorem tM_elim {f:Option Nat→LP} {l:List Value} (h:tM f l): ∃ p r,l= .map p::r∧f p r:=by
  unfold tM at h; split at h
  · exact ⟨_,_,rfl,h⟩
  · exact h.elim
theorem tV_elim {f:Value→LP} {l:List Value} (h:tV f l): ∃ v r,l=v::r∧f v r:=by
  unfold tV at h; split at h
  · exact ⟨_,_,rfl,h⟩
  · exact h.elim
theorem tG_elim {f:List Value→LP} {l:List Value} (h:tG f l): ∃ (cs r:List Value),l= .agg cs.toArray::r∧f cs r:=by
  unfold tG at h; split at h
  · rename_i cs r; exact ⟨cs.toList,r,by simp,h⟩
  · exact h.elim
theorem tN_elim {X:Prop} {l:List Value} (h:tN X l):l=[]∧X:=by
  unfold tN at h; split at h
  · exact ⟨rfl,h⟩
  · exact h.elim
abbrev alW (h:Hp) (t:Nat) (vs:List Value) (K:Addr→Hp→Prop):Prop:=K ⟨h.size,0,none⟩ (h.push (.cells vs.toArray t (0,0)))
abbrev amW (h:Hp) (K:Nat→Hp→Prop):Prop:=K h.size (h.push (.map #[] 0))
abbrev letB (b:Bool) (K:Bool→Prop):Prop:=K b
abbrev isI (k:IntKind) (v:Value) (K:Int→Prop):Prop:= ∃ n:Int,v= .int k n∧K n
abbrev isB (v:Value) (K:Bool→Prop):Prop:= ∃ b:Bool,v= .bool b∧K b
abbrev isT (v:Value) (K:ByteArray→Prop):Prop:= ∃ b:ByteArray,v= .string b∧K b
abbrev isP (v:Value) (K:Option Addr→Prop):Prop:= ∃ p:Option Addr,v= .pointer p∧K p
abbrev isS (v:Value) (K:Sl→Prop):Prop:= ∃ s:Sl,v= .slice s.a s.len s.cap∧K s
abbrev isM (v:Value) (K:Option Nat→Prop):Prop:= ∃ m:Option Nat,v= .map m∧K m
abbrev isV (v:Value) (K:Value→Prop):Prop:= ∃ u:Value,v=u∧K u
def tF (id:Nat) (f:List Value→LP):LP
  | .func (.func i) ⟨[]⟩ cs::r=>cnd (Nat.beq i id) (f cs.toList r) (False)
  | _=>False
theorem tF_elim {id:Nat} {f:List Value→LP} {l:List Value} (h:tF id f l): ∃ (cs r:List Value),l= .func (.func id) #[] cs.toArray::r∧f cs r:=by
  unfold tF at h; split at h
  · rename_i i cs r
    cases hb:Nat.beq i id with
    | false=>rw [hb] at h; exact h.elim
    | true =>
      rw [hb] at h
      have:i=id:=by simpa using hb
      subst this; exact ⟨cs.toList,r,by simp,h⟩
  · exact h.elim
theorem tF_self (id:Nat) (f:List Value→LP) (cs:Array Value) (r:List Value):tF id f (.func (.func id) #[] cs::r)=f cs.toList r:=by
  show (bif Nat.beq id id then f cs.toList r else False)=_
  simp
theorem len0 {α:Type} {l:List α} (h:l.length=0):l=[]:=List.length_eq_zero_iff.1 h
theorem len1 {α:Type} {l:List α} (h:l.length=1): ∃ a,l=[a]:=List.length_eq_one_iff.1 h
theorem len2 {α:Type} {l:List α} (h:l.length=2): ∃ a b,l=[a,b]:=by
  match l,h with
  | [a,b],_=>exact ⟨a,b,rfl⟩
theorem len3 {α:Type} {l:List α} (h:l.length=3): ∃ a b c,l=[a,b,c]:=by
  match l,h with
  | [a,b,c],_=>exact ⟨a,b,c,rfl⟩
theorem len4 {α:Type} {l:List α} (h:l.length=4): ∃ a b c d,l=[a,b,c,d]:=by
  match l,h with
  | [a,b,c,d],_=>exact ⟨a,b,c,d,rfl⟩
theorem lfp_in {Φ:LoopS→LoopS} {v:List Value} {h:Hp} (H:Φ (Lfp Φ) v h):Lfp Φ v h:=fun R hR=>hR v h ⟨_,fun v' h' H'=>H' R hR,H⟩
theorem ble_le {a b:Nat} (h:Nat.ble a b=true):a≤b:=by simpa using h
end Go.Wc
