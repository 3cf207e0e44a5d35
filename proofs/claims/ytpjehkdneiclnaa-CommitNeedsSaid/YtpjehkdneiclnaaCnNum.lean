import Derived.Test.YtpjehkdneiclnaaCnPu8
set_option linter.unusedSimpArgs false
set_option linter.unusedVariables false
namespace Go.Pu
open Go Go.Wc
def bytesL (l:List Int):Prop:= ∀ x ∈ l,0≤x∧x<256
def leB:Nat→Int→List Int
  | 0,_=>[]
  | k+1,n=>(n % 256)::leB k (n / 256)
def valB:List Int→Int
  | []=>0
  | x::l=>x+256*valB l
theorem wrap_u8 (n:Int):IntKind.wrap .u8 n=n % 256:=by
  simp [IntKind.wrap,IntKind.signed,IntKind.bits]
theorem wrap_u64 {n:Int} (h0:0≤n) (h1:n<18446744073709551616):IntKind.wrap .u64 n=n:=by
  simp only [IntKind.wrap,IntKind.signed,IntKind.bits,Bool.false_and,Bool.false_eq_true,if_false]
  exact Int.emod_eq_of_lt h0 (by simpa using h1)
theorem leB_length (k:Nat) (n:Int):(leB k n).length=k:=by
  induction k generalizing n with
  | zero=>rfl
  | succ k ih=>simp [leB,ih]
theorem leB_bytes (k:Nat) (n:Int):bytesL (leB k n):=by
  induction k generalizing n with
  | zero=>intro x hx; cases hx
  | succ k ih =>
    intro x hx
    rcases List.mem_cons.1 hx with rfl | hx
    · omega
    · exact ih _ x hx
theorem leB_snoc (k:Nat) (n:Int):leB (k+1) n=leB k n++[n / 256 ^ k % 256]:=by
  induction k generalizing n with
  | zero=>simp [leB]
  | succ k ih =>
    rw [leB,ih]
    simp only [leB,List.cons_append]
    congr 3
    rw [Int.ediv_ediv_of_nonneg (by omega),Int.pow_succ,Int.mul_comm]
theorem valB_range {l:List Int} (h:bytesL l):0≤valB l∧valB l<256 ^ l.length:=by
  induction l with
  | nil=>simp [valB]
  | cons x l ih =>
    have hx:=h x (by simp)
    have:=ih fun y hy=>h y (by simp [hy])
    simp only [valB,List.length_cons]
    rw [Int.pow_succ]
    omega
theorem leB_val {l:List Int} (h:bytesL l):leB l.length (valB l)=l:=by
  induction l with
  | nil=>rfl
  | cons x l ih =>
    have hx:=h x (by simp)
    have:=ih fun y hy=>h y (by simp [hy])
    simp only [valB,List.length_cons,leB]
    have e1:(x+256*valB l) % 256=x:=by omega
    have e2:(x+256*valB l) / 256=valB l:=by omega
    rw [e1,e2,this]
theorem valB_le {k:Nat} {n:Int} (h0:0≤n) (h1:n<256 ^ k):valB (leB k n)=n:=by
  induction k generalizing n with
  | zero=>simp at h1; simp [leB,valB]; omega
  | succ k ih =>
    simp only [leB,valB]
    rw [Int.pow_succ] at h1
    rw [ih (by omega) (by omega)]
    omega
theorem valB_append (l m:List Int):valB (l++m)=valB l+256 ^ l.length*valB m:=by
  induction l with
  | nil=>simp [valB]
  | cons x l ih =>
    simp only [List.cons_append,valB,ih,List.length_cons]
    rw [Int.pow_succ,Int.mul_add,Int.mul_comm (256 ^ l.length) 256,Int.mul_assoc]
    omega
theorem or_shift {n x:Int} {i:Nat} (hn:0≤n∧n<256 ^ i) (hx:0≤x∧x<256) (hi:i<8):
    ((BitVec.ofInt 64 n ||| BitVec.ofInt 64 (x*256 ^ i)).toNat:Int)=n+x*256 ^ i:=by
  obtain ⟨a,rfl⟩: ∃ a:Nat,n=a:=⟨n.toNat,by omega⟩
  obtain ⟨b,rfl⟩: ∃ b:Nat,x=b:=⟨x.toNat,by omega⟩
  have c:((256 ^ i:Nat):Int)=(256:Int) ^ i:=by rw [Int.natCast_pow]; rfl
  have ha:a<256 ^ i:=by have:=hn.2; rw [← c] at this; omega
  have hb:b<256:=by omega
  have hp:(256:Nat) ^ i*256≤2 ^ 64:=by
    have:(256:Nat) ^ i≤256 ^ 7:=Nat.pow_le_pow_right (by omega) (by omega)
    have:(256:Nat) ^ 7*256=2 ^ 64:=by decide
    omega
  have hpos:0<(256:Nat) ^ i:=Nat.pow_pos (by omega)
  have hbi:b*256 ^ i<2 ^ 64:=by
    have:b*256 ^ i<256*256 ^ i:=Nat.mul_lt_mul_of_pos_right hb hpos
    rw [Nat.mul_comm] at hp
    omega
  have ha2:a<2 ^ 64:=by omega
  have e1:BitVec.ofInt 64 (a:Int)=BitVec.ofNat 64 a:=by simp
  have e2:BitVec.ofInt 64 ((b:Int)*256 ^ i)=BitVec.ofNat 64 (b*256 ^ i):=by
    rw [← BitVec.ofInt_natCast,← c,Int.natCast_mul]
  rw [e1,e2,BitVec.toNat_or,BitVec.toNat_ofNat,BitVec.toNat_ofNat,Nat.mod_eq_of_lt ha2,Nat.mod_eq_of_lt hbi]
  have e3:(256:Nat) ^ i=2 ^ (8*i):=by rw [Nat.pow_mul]
  have e4:a ||| b*256 ^ i=a+b*256 ^ i:=by
    rw [Nat.or_comm,e3,Nat.mul_comm,← Nat.two_pow_add_eq_or_of_lt (by rw [← e3]; exact ha)]
    omega
  rw [e4,Int.natCast_add,Int.natCast_mul,c]
theorem pow256_le {k m:Nat} (h:k≤m):(256:Int) ^ k≤256 ^ m:=by
  have h1:(256:Nat) ^ k≤256 ^ m:=Nat.pow_le_pow_right (by omega) h
  have c: ∀ i:Nat,((256 ^ i:Nat):Int)=(256:Int) ^ i:=fun i=>by rw [Int.natCast_pow]; rfl
  rw [← c,← c]; omega
end Go.Pu
