/- Lemmas and contracts under the claims of this seat. No condition. -/
import Derived.Test.YtchinbgemenenaaGreatDoorZs1
namespace Go.Proofs.YtchinbgemenenaaGreatDoor
open Go.Proofs.Tryz
set_option linter.unusedVariables false
set_option linter.unusedSimpArgs false
set_option maxRecDepth 100000
set_option maxHeartbeats 12800000
section
open Go.RowKit
theorem az5(a b:Nat):(a^^^b)/2=a/2^^^b/2:=by
 have :=Nat.shiftRight_xor_distrib (a:=a) (b:=b) (i:=1);simpa[Nat.shiftRight_eq_div_pow]using this
theorem aI4(a b:Nat):(a^^^b)%2=(a%2+b%2)%2:=by
 have :=Nat.xor_mod_two_pow (a:=a) (b:=b) (n:=1);rw[show (2:Nat)^1=2 from rfl]at this;rw[this];rcases Nat.mod_two_eq_zero_or_one a with c | c<;>rcases Nat.mod_two_eq_zero_or_one b with d | d<;>rw[c,d]<;>rfl
theorem xor_pp(x y p:Nat):(x^^^p)^^^(y^^^p)=x^^^y:=by
 rw[Nat.xor_assoc,Nat.xor_comm y p,<-Nat.xor_assoc p p,Nat.xor_self,Nat.zero_xor]
theorem xor_px(x y p:Nat):(x^^^p)^^^y=(x^^^y)^^^p:=by
 rw[Nat.xor_assoc,Nat.xor_comm p y,<-Nat.xor_assoc]
theorem ak8(a b:Nat):dV (a^^^b)=dV a^^^dV b:=by
 unfold dV;rw[aI4,az5];rcases Nat.mod_two_eq_zero_or_one a with c | c<;>rcases Nat.mod_two_eq_zero_or_one b with d | d<;>rw[c,d]
 ·rw[bc9 Ed,bc9 Ed,bc9 Ed]
 ·rw[bd0 Ed,bc9 Ed,bd0 rfl,Nat.xor_assoc]
 ·rw[bd0 Ed,bd0 rfl,bc9 Ed,xor_px]
 ·rw[bc9 Ed,bd0 rfl,bd0 rfl,xor_pp]
theorem Km(k a b:Nat):dW k (a^^^b)=dW k a^^^dW k b:=by
 induction k with
 | zero=>rfl
 | succ k c=>rw[kN,c,ak8,<-kN,<-kN]
theorem Cm(k a:Nat):dW k (a*2^k)=a:=by
 induction k generalizing a with
 | zero=>simp[dW]
 | succ k b=>
  have e:dV (a*2^(k+1))=a*2^k:=by
   unfold dV;rw[aW8,<-Nat.mul_assoc];have :a*2^k*2%2=0:=E;rw[bc9 E];omega
  show dW k (dV (a*2^(k+1)))=a;rw[e,b]
theorem If(a:Nat)(k:Nat):a=(a%2^k)^^^(a/2^k*2^k):=by
 apply Nat.eq_of_testBit_eq;intro i;rw[Nat.testBit_xor,aX5,Nat.testBit_mul_two_pow,aX3];by_cases h:i<k
 ·simp[h,Nat.not_le.2 h]
 ·have b:k<=i:=E;simp[h,b,Nat.sub_add_cancel b]
def lY(c:Nat):Nat->Nat->Nat
 | 0,s=>s
 | k+1,s=>dV (lY c k s^^^(c/2^k%2))
theorem Rs(c:Nat):∀k s,lY c k s=dW k (s^^^(c%2^k))
 | 0,s=>by simp[lY,dW,Nat.mod_one]
 | k+1,s=>by
  have e:c%2^(k+1)=(c%2^k)^^^((c/2^k%2)*2^k):=by
   have a:=If (c%2^(k+1)) k;have b:c%2^(k+1)%2^k=c%2^k:=Nat.mod_mod_of_dvd _ (Nat.pow_dvd_pow 2 E);have d:c%2^(k+1)/2^k=c/2^k%2:=by
    rw[aW8];exact Nat.mod_mul_right_div_self _ _ _
   rw[b,d]at a;exact a
  rw[e,<-Nat.xor_assoc,kN,Km,Cm];show dV (lY c k s^^^(c/2^k%2))=_;rw[Rs c k s]
theorem aA7{s c:Nat}(a:c<256):lY c 8 s=Fg s c:=by
 rw[Rs,aW1 (show c<2^8 from a)];have e:=If s 8;unfold Fg;conv=>lhs;rw[e]
 rw[Nat.xor_assoc,Nat.xor_comm (s/2^8*2^8),<-Nat.xor_assoc,Km,Cm]
end
end Go.Proofs.YtchinbgemenenaaGreatDoor
