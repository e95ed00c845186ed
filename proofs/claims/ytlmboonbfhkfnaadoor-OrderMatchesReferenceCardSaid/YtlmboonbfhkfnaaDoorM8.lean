import Derived.Test.YtlmboonbfhkfnaaDoorM7
import Derived.Test.YtlmboonbfhkfnaaDoorM4
import Derived.Test.YtlmboonbfhkfnaaDoorM3
import Derived.Test.YtlmboonbfhkfnaaDoorM5
import Derived.KernelRfl
set_option linter.unusedVariables false
set_option linter.unusedSimpArgs false
set_option linter.unusedSectionVars false
namespace Go.Proofs.YtlmboonbfhkfnaaDoor
open Go Go.Eng
set_option maxRecDepth 100000
set_option maxHeartbeats 0
set_option maxRecDepth 100000
theorem aI6:∀ (k:Nat) {a b:Nat},a<2 ^ k→b<2 ^ k→a&&&b=0→a|||b=a+b
 | 0,a,b,ha,hb,_=>by
  obtain rfl:a=0:=by simpa using ha
  obtain rfl:b=0:=by simpa using hb
  rfl
 | k+1,a,b,ha,hb,h=>by
  rw [Nat.pow_succ] at ha hb
  have h2:a / 2&&&b / 2=0:=by rw [← Nat.and_div_two,h]
  have ih:=aI6 k (a:=a / 2) (b:=b / 2) (by omega) (by omega) h2
  have e1:(a|||b) / 2=a / 2+b / 2:=by rw [Nat.or_div_two,ih]
  have e2:¬(a % 2=1∧b % 2=1):=fun q=>by
   have:=Nat.and_mod_two_eq_one.2 q
   rw [h] at this;cases this
  have e3:(a|||b) % 2=1↔a % 2=1∨b % 2=1:=Nat.or_mod_two_eq_one
  omega
theorem aA7 {p x:Nat} (h:p.testBit x=true):vL p (2 ^ x)+2 ^ x=p:=by
 have hx:2 ^ x≤p:=Nat.ge_two_pow_of_testBit h
 obtain ⟨k,hk⟩:∃ k,p<2 ^ k:=⟨p,Nat.lt_two_pow_self⟩
 rw [← aI6 k (aDk hk) (by omega)]
 ·refine xQ fun i=>?_
  rw [Nat.testBit_or,sJ,wH]
  by_cases e:i=x
  ·subst e;rw [h,decide_eq_true rfl];rfl
  ·rw [decide_eq_false e];cases p.testBit i<;>rfl
 ·refine xQ fun i=>?_
  rw [Nat.testBit_and,sJ,wH,Nat.zero_testBit]
  cases p.testBit i<;>cases decide (i=x)<;>rfl
theorem aAz {p x:Nat} (h:p.testBit x=true) (i:Nat):(p-2 ^ x).testBit i=(p.testBit i && !decide (i=x)):=by
 have:=aA7 h
 rw [show p-2 ^ x=vL p (2 ^ x) by omega,sJ,wH]
theorem aK5 {p x:Nat} (h:p.testBit x=true):p-2 ^ x<p:=by
 have:=aA7 h
 have:=Nat.two_pow_pos x
 omega
theorem aCV {p x:Nat} (h:p.testBit x=false):p|||2 ^ x=p+2 ^ x:=by
 obtain ⟨k,hk⟩:∃ k,p+2 ^ x<2 ^ k:=⟨p+2 ^ x,Nat.lt_two_pow_self⟩
 have:=Nat.two_pow_pos x
 refine aI6 k (by omega) (by omega) (xQ fun i=>?_)
 rw [Nat.testBit_and,wH,Nat.zero_testBit]
 by_cases e:i=x
 ·subst e;rw [h];rfl
 ·rw [decide_eq_false e,Bool.and_false]
theorem aF9 {p x:Nat} (h:p.testBit x=false) (i:Nat):(p+2 ^ x).testBit i=(p.testBit i||decide (i=x)):=by
 rw [← aCV h,Nat.testBit_or,wH]
theorem aMl {P:Nat→Prop} (f:Nat→Nat):∀ (n:Nat),(∃ x,x<n∧P x)→∃ x,x<n∧P x∧∀ y,y<n→P y→f y≤f x
 | 0,⟨x,h,_⟩=>absurd h (Nat.not_lt_zero _)
 | n+1,⟨x,h,hP⟩=>by
  by_cases c:∃ x,x<n∧P x
  ·obtain ⟨z,h1,h2,h3⟩:=aMl f n c
   by_cases d:P n∧f z≤f n
   ·exact ⟨n,by omega,d.1,fun y hy hp=>by
     by_cases e:y=n
     ·rw [e];exact Nat.le_refl _
     ·exact Nat.le_trans (h3 y (by omega) hp) d.2⟩
   ·exact ⟨z,by omega,h2,fun y hy hp=>by
     by_cases e:y=n
     ·subst e
      have:¬f z≤f y:=fun q=>d ⟨hp,q⟩
      omega
     ·exact h3 y (by omega) hp⟩
  ·have:x=n:=by
    refine Classical.byContradiction fun q=>c ⟨x,by omega,hP⟩
   subst this
   exact ⟨x,by omega,hP,fun y hy hp=>by
    by_cases e:y=x
    ·rw [e];exact Nat.le_refl _
    ·exact absurd ⟨y,by omega,hp⟩ c⟩
def suc (n:Nat) (r:Nat→Nat→Bool) (x:Nat):Nat:=sm n fun k=>(r x k).toNat
section
variable {o:aE} {n:Nat} {t:Ar 8} {r:Nat→Nat→Bool}
theorem OV.suc_lt (h:OV o n t r) {a b:Nat} (hr:r a b=true):suc n r b<suc n r a:=by
 refine aLo (fun i _=>?_) (h.lt _ _ hr).2 (by rw [h.ir,hr];simp)
 cases c:r b i
 ·simp
 ·rw [h.tr a b i hr c];exact Nat.le_refl _
end
def Lf (n:Nat) (r:Nat→Nat→Bool):Nat→Nat→Nat
 | 0,_=>0
 | k+1,p=>if dnB n r p=true then (if p=0 then 1 else sm n fun x=>if p.testBit x=true then Lf n r k (p-2 ^ x) else 0) else 0
def Lc (n:Nat) (r:Nat→Nat→Bool) (p:Nat):Nat:=Lf n r (p+1) p
theorem aI5 (n:Nat) (r:Nat→Nat→Bool):∀ (k m p:Nat),p<k→p<m→Lf n r k p=Lf n r m p
 | 0,_,_,h,_=>absurd h (Nat.not_lt_zero _)
 | k+1,0,_,_,h=>absurd h (Nat.not_lt_zero _)
 | k+1,m+1,p,h1,h2=>by
  unfold Lf
  have e:(sm n fun x=>if p.testBit x=true then Lf n r k (p-2 ^ x) else 0)=sm n fun x=>if p.testBit x=true then Lf n r m (p-2 ^ x) else 0:=eF fun x _=>by
   by_cases c:p.testBit x=true
   ·rw [if_pos c,if_pos c]
    have:=aK5 c
    exact aI5 n r k m _ (by omega) (by omega)
   ·rw [if_neg c,if_neg c]
  rw [e]
theorem aJX (n:Nat) (r:Nat→Nat→Bool) (p:Nat):Lc n r p=if dnB n r p=true then (if p=0 then 1 else sm n fun x=>if p.testBit x=true then Lc n r (p-2 ^ x) else 0) else 0:=by
 show Lf n r (p+1) p=_
 unfold Lf
 have e:(sm n fun x=>if p.testBit x=true then Lf n r p (p-2 ^ x) else 0)=sm n fun x=>if p.testBit x=true then Lc n r (p-2 ^ x) else 0:=eF fun x _=>by
  by_cases c:p.testBit x=true
  ·rw [if_pos c,if_pos c]
   have:=aK5 c
   exact aI5 n r _ _ _ (by omega) (by omega)
  ·rw [if_neg c,if_neg c]
 rw [e]
theorem aQ7 {n:Nat} {r:Nat→Nat→Bool} {p:Nat} (h:dnB n r p=false):Lc n r p=0:=by
 rw [aJX,h,if_neg (by decide)]
def pc (n p:Nat):Nat:=sm n fun x=>(p.testBit x).toNat
theorem aNN (n p:Nat):pc n p≤n:=oJ
theorem aRj {n p x:Nat} (hx:x<n) (h:p.testBit x=true):pc n (p-2 ^ x)<pc n p:=by
 refine aLo (fun i _=>?_) hx (by rw [aAz h,h,decide_eq_true rfl];simp)
 rw [aAz h]
 cases p.testBit i<;>cases decide (i=x)<;>simp
theorem uU {n m:Nat} {f:Nat→Nat} (h:∀ i,i<n→f i≤m):sm n f≤n * m:=by
 have e:∀ n:Nat,sm n (fun _=>m)=n * m:=fun n=>by
  induction n with
  | zero=>rw [Nat.zero_mul];rfl
  | succ n ih=>show sm n (fun _=>m)+m=_;rw [ih,Nat.succ_mul]
 have:=aDD (g:=fun _=>m) h
 rwa [e] at this
theorem aRd {n:Nat} (n8:n≤8) (r:Nat→Nat→Bool):∀ (k p:Nat),p<k→Lc n r p≤8 ^ pc n p
 | 0,_,h=>absurd h (Nat.not_lt_zero _)
 | k+1,p,h=>by
  rw [aJX]
  have hp:1≤8 ^ pc n p:=Nat.one_le_pow _ _ (by omega)
  by_cases c:dnB n r p=true
  ·rw [if_pos c]
   by_cases d:p=0
   ·rw [if_pos d];exact hp
   ·rw [if_neg d]
    by_cases z:pc n p=0
    ·rw [z]
     refine Nat.le_trans (uU (m:=0) fun i hi=>?_) (by omega)
     by_cases q:p.testBit i=true
     ·have:=aRj hi q;omega
     ·rw [if_neg q];exact Nat.le_refl _
    ·refine Nat.le_trans (uU (m:=8 ^ (pc n p-1)) fun i hi=>?_) ?_
     ·by_cases q:p.testBit i=true
      ·rw [if_pos q]
       have:=aK5 q
       have:=aRj hi q
       exact Nat.le_trans (aRd n8 r k _ (by omega)) (Nat.pow_le_pow_right (by omega) (by omega))
      ·rw [if_neg q];exact Nat.zero_le _
     ·refine Nat.le_trans (Nat.mul_le_mul_right _ n8) ?_
      rw [Nat.mul_comm,← Nat.pow_succ]
      exact Nat.pow_le_pow_right (by omega) (by omega)
  ·rw [if_neg c];omega
theorem aLV {n:Nat} (n8:n≤8) (r:Nat→Nat→Bool) (p:Nat):Lc n r p≤16777216:=
 Nat.le_trans (aRd n8 r _ p (Nat.lt_succ_self _)) (Nat.le_trans (Nat.pow_le_pow_right (by omega) (Nat.le_trans (aNN n p) n8)) (by decide))
theorem aGT {f:Nat→Nat}:∀ {n m:Nat},n≤m→sm n f≤sm m f
 | n, 0, h => by obtain rfl : n = 0 := by omega
                 exact Nat.le_refl _
 | n,m+1,h=>by
  by_cases e:n=m+1
  ·rw [e];exact Nat.le_refl _
  ·show sm n f≤sm m f+f m
   have:=aGT (f:=f) (n:=n) (m:=m) (by omega)
   omega
section
variable {o:aE} {n:Nat} {t:Ar 8} {r:Nat→Nat→Bool}
theorem aLL (h:OV o n t r):fL o=some (((Lc n r (2 ^ n-1):Nat):Int),0):=by
 have hN:=h.N;have n8:=h.n8
 have p8:=fO n8
 have pp:=Nat.two_pow_pos n
 have z0:dnB n r 0=true:=(aA2 h.lt).2 fun a b _ hb=>by rw [Nat.zero_testBit] at hb;cases hb
 obtain ⟨s,e,hs⟩:=aKO n8 h.tb h.lt (f:=qL o) (fun p m=>∀ q:Nat,m.get (q:Int) 0=if q<p then ((Lc n r q:Nat):Int) else if q=0 then 1 else 0) ((GM.mt Int).put 0 1)
  (fun q=>by
   rw [if_neg (Nat.not_lt_zero _)]
   by_cases c:q=0
   ·subst c;rw [if_pos rfl];exact GM.get_put
   ·rw [if_neg c,GM.get_put_ne (by omega)];exact GM.get_mt) (fun p m hp hm=>by
   constructor
   ·intro c
    have small:=aLV n8 r p
    have hsum:p≠0→Lc n r p=sm n fun x=>if p.testBit x=true then Lc n r (p-2 ^ x) else 0:=fun d=>by rw [aJX,if_pos c,if_neg d]
    obtain ⟨s,e,h1,h2⟩:=cJ (body:=lY o (p:Int)) (fun j s=>s.1=(j:Int)∧∀ q:Nat,s.2.get (q:Int) 0=if q=p then (((if p=0 then 1 else 0)+sm j fun x=>if p.testBit x=true then Lc n r (p-2 ^ x) else 0:Nat):Int) else m.get (q:Int) 0) n (by omega)
     (fun j s hj ⟨hs,hq⟩=>by
      obtain ⟨i,u⟩:=s
      simp only at hs hq
      subst hs
      unfold lY
      simp only [aZ,rC]
      rw [if_pos (by omega),dC _ (by omega),aI8 (by omega) (by omega),iL,cE (x:=(j:Int)+1) (by omega) (by omega)]
      by_cases g:p.testBit j=true
      ·have hs:=aA7 g
       have hd:p≠0:=fun q=>by subst q;rw [Nat.zero_testBit] at g;cases g
       have hlt:=aK5 g
       have hle:(sm j fun x=>if p.testBit x=true then Lc n r (p-2 ^ x) else 0)+Lc n r (p-2 ^ j)≤Lc n r p:=by
        have:=aGT (f:=fun x=>if p.testBit x=true then Lc n r (p-2 ^ x) else 0) (n:=j+1) (m:=n) (by omega)
        rw [← hsum hd] at this
        have e:(sm (j+1) fun x=>if p.testBit x=true then Lc n r (p-2 ^ x) else 0)=(sm j fun x=>if p.testBit x=true then Lc n r (p-2 ^ x) else 0)+if p.testBit j=true then Lc n r (p-2 ^ j) else 0:=rfl
        rw [e,if_pos g] at this
        exact this
       have hpj:2 ^ j≤256:=by have:=fO (k:=j) (by omega);exact this
       have hget:u.get ((vL p (2 ^ j):Nat):Int) 0=((Lc n r (p-2 ^ j):Nat):Int):=by
        rw [hq,if_neg (by have:=Nat.two_pow_pos j;omega),hm,if_pos (by have:=Nat.two_pow_pos j;omega),show vL p (2 ^ j)=p-2 ^ j by omega]
       rw [if_pos g,dC _ (by omega),aEo (by omega),aAL (by omega) (by omega),hget,hq p,if_pos rfl,if_neg hd,cE (by omega) (by omega)]
       refine ⟨_,rfl,by simp only;omega,fun q=>?_⟩
       simp only
       by_cases eq:q=p
       ·subst eq
        rw [GM.get_put,if_pos rfl]
        show _=((0+((sm j fun x=>if q.testBit x=true then Lc n r (q-2 ^ x) else 0)+if q.testBit j=true then Lc n r (q-2 ^ j) else 0):Nat):Int)
        rw [if_pos g];omega
       ·rw [GM.get_put_ne (by omega),hq,if_neg eq,if_neg eq]
      ·rw [if_neg g]
       refine ⟨_,rfl,by simp only;omega,fun q=>?_⟩
       simp only
       rw [hq]
       have e:(sm (j+1) fun x=>if p.testBit x=true then Lc n r (p-2 ^ x) else 0)=(sm j fun x=>if p.testBit x=true then Lc n r (p-2 ^ x) else 0)+if p.testBit j=true then Lc n r (p-2 ^ j) else 0:=rfl
       rw [e,if_neg g,Nat.add_zero]) (fun s ⟨hs,_⟩=>by
      unfold lY
      simp only [aZ]
      rw [if_neg (by omega)]) (0,m) ⟨rfl,fun q=>by
       by_cases eq:q=p
       ·subst eq
        simp only
        rw [hm,if_neg (Nat.lt_irrefl _),if_pos trivial]
        show _=(((if q=0 then 1 else 0)+0:Nat):Int)
        split<;>rfl
       ·rw [if_neg eq]⟩
    unfold qL
    rw [e,bU,dK]
    refine ⟨_,rfl,fun q=>?_⟩
    rw [h2]
    by_cases eq:q=p
    ·subst eq
     rw [if_pos rfl,if_pos (Nat.lt_succ_self _)]
     by_cases d:q=0
     ·subst d
      rw [aJX,if_pos c,if_pos rfl,if_pos rfl]
      have:(sm n fun x=>if Nat.testBit 0 x=true then Lc n r (0-2 ^ x) else 0)=0:=by
       rw [eF (g:=fun _=>0) fun i _=>by rw [Nat.zero_testBit,if_neg (by decide)]]
       exact rI n
      rw [this]
     ·rw [if_neg d,hsum d,Nat.zero_add]
    ·rw [if_neg eq,hm]
     by_cases l:q<p
     ·rw [if_pos l,if_pos (by omega)]
     ·rw [if_neg l,if_neg (show ¬q<p+1 by omega)]
   ·intro c q
    rw [hm]
    by_cases l:q<p
    ·rw [if_pos l,if_pos (by omega)]
    ·rw [if_neg l]
     by_cases eq:q=p
     ·subst eq
      rw [if_pos (Nat.lt_succ_self _),aQ7 c]
      by_cases d:q=0
      ·subst d;rw [z0] at c;cases c
      ·rw [if_neg d];rfl
     ·rw [if_neg (show ¬q<p+1 by omega)])
 unfold fL
 rw [h.rd,bU,cT,mH,hN]
 simp only
 rw [e,bU,dC _ (by omega),aEo (by omega),cE (by omega) (by omega),show ((2 ^ n:Nat):Int)-1=((2 ^ n-1:Nat):Int) by omega,hs,if_pos (by omega)]
theorem aMc (h:bS o=some (t,false)):fL o=some (0,70):=by
 unfold fL
 rw [h,bU,cT,mK]
end
def fr (r:Nat→Nat→Bool) (S x:Nat):Prop:=S.testBit x=false∧∀ a,r a x=true→S.testBit a=true
def LnF (n:Nat) (r:Nat→Nat→Bool):Nat→List Nat→Prop
 | _,[]=>True
 | S,x::l=>x<n∧fr r S x∧LnF n r (S+2 ^ x) l
def msk:List Nat→Nat
 | []=>0
 | x::l=>2 ^ x+msk l
def Ln (n:Nat) (r:Nat→Nat→Bool) (l:List Nat):Prop:=LnF n r 0 l
section
variable {n:Nat} {r:Nat→Nat→Bool}
theorem aIS:∀ (l m:List Nat),msk (l++m)=msk l+msk m
 | [],m=>by show msk m=0+msk m;omega
 | x::l,m=>by show 2 ^ x+msk (l++m)=2 ^ x+msk l+msk m;rw [aIS l m];omega
theorem aHl (l:List Nat) (x:Nat):msk (l++[x])=msk l+2 ^ x:=by rw [aIS];rfl
theorem aGW:∀ (l m:List Nat) (S:Nat),LnF n r S (l++m)↔LnF n r S l∧LnF n r (S+msk l) m
 | [],m,S=>by show LnF n r S m↔True∧LnF n r (S+0) m;rw [Nat.add_zero,true_and]
 | x::l,m,S=>by
  show (x<n∧fr r S x∧LnF n r (S+2 ^ x) (l++m))↔(x<n∧fr r S x∧LnF n r (S+2 ^ x) l)∧LnF n r (S+(2 ^ x+msk l)) m
  rw [aGW l m,Nat.add_assoc,and_assoc,and_assoc]
theorem aAn {l:List Nat} {x:Nat}:Ln n r (l++[x])↔Ln n r l∧x<n∧fr r (msk l) x:=by
 unfold Ln
 rw [aGW,Nat.zero_add]
 exact and_congr_right fun _=>⟨fun h=>⟨h.1,h.2.1⟩,fun h=>⟨h.1,h.2,trivial⟩⟩
theorem aHC:∀ {l:List Nat} {S:Nat},LnF n r S l→∀ i,(S+msk l).testBit i=(S.testBit i||decide (i∈l))
 | [],S,_,i=>by show (S+0).testBit i=_;simp
 | x::l,S,h,i=>by
  show (S+(2 ^ x+msk l)).testBit i=_
  rw [← Nat.add_assoc,aHC h.2.2 i,aF9 h.2.1.1,Bool.or_assoc]
  congr 1
  rw [Bool.eq_iff_iff];simp
theorem nP {l:List Nat} (h:Ln n r l) (i:Nat):(msk l).testBit i=decide (i∈l):=by
 have:=aHC h i
 rwa [Nat.zero_add,Nat.zero_testBit,Bool.false_or] at this
theorem aMT:∀ {l:List Nat} {S:Nat},LnF n r S l→∀ x∈l,x<n
 | [],_,_,x,hx=>by cases hx
 | y::l,_,h,x,hx=>by
  rcases List.mem_cons.1 hx with rfl | hx
  ·exact h.1
  ·exact aMT h.2.2 x hx
theorem aGI {l:List Nat} (h:Ln n r l):∀ x∈l,x<n:=aMT h
theorem aFg {l:List Nat} (h:Ln n r l):msk l<2 ^ n:=Nat.lt_pow_two_of_testBit _ fun i hi=>by
 rw [nP h,decide_eq_false_iff_not]
 intro q
 have:=aGI h i q
 omega
theorem aMo:∀ {n x:Nat},x<n→sm n (fun i=>if i=x then 1 else 0)=1
 | n+1,x,h=>by
  show sm n (fun i=>if i=x then 1 else 0)+(if n=x then 1 else 0)=1
  by_cases e:n=x
  ·subst e
   rw [if_pos rfl,eF (g:=fun _=>0) fun i hi=>if_neg (by omega),rI]
  ·rw [if_neg e,aMo (by omega)]
theorem aHb {S x:Nat} (hx:x<n) (h:S.testBit x=false):pc n (S+2 ^ x)=pc n S+1:=by
 unfold pc
 rw [← aMo hx,← aE6]
 refine eF fun i _=>?_
 rw [aF9 h]
 by_cases e:i=x
 ·subst e;rw [h,decide_eq_true rfl,if_pos rfl];rfl
 ·rw [decide_eq_false e,if_neg e,Bool.or_false,Nat.add_zero]
theorem aMt:∀ {l:List Nat} {S:Nat},LnF n r S l→pc n (S+msk l)=pc n S+l.length
 | [],S,_=>rfl
 | x::l,S,h=>by
  show pc n (S+(2 ^ x+msk l))=_
  rw [← Nat.add_assoc,aMt h.2.2,aHb h.1 h.2.1.1,List.length_cons];omega
theorem aGm (n:Nat):pc n 0=0:=by
 unfold pc
 rw [eF (g:=fun _=>0) fun i _=>by rw [Nat.zero_testBit];rfl]
 exact rI n
theorem aNb {l:List Nat} (h:Ln n r l):pc n (msk l)=l.length:=by
 have:=aMt h
 rwa [Nat.zero_add,aGm,Nat.zero_add] at this
theorem aHv (n:Nat):sm n (fun _=>1)=n:=by
 induction n with
 | zero=>rfl
 | succ n ih=>show sm n (fun _=>1)+1=n+1;rw [ih]
theorem zG {S:Nat}:pc n S=n↔∀ x,x<n→S.testBit x=true:=by
 constructor
 ·intro h x hx
  refine Classical.byContradiction fun q=>?_
  have:=aLo (n:=n) (f:=fun x=>(S.testBit x).toNat) (g:=fun _=>1) (fun i _=>by cases S.testBit i<;>simp) hx (by rw [Bool.eq_false_iff.2 q];simp)
  rw [aHv] at this
  unfold pc at h;omega
 ·intro h
  unfold pc
  rw [eF (g:=fun _=>1) fun i hi=>by rw [h i hi];rfl]
  exact aHv n
theorem aPM {l:List Nat} (h:Ln n r l):l.length≤n:=by rw [← aNb h];exact aNN _ _
theorem aBj {l:List Nat} (h:Ln n r l) (hl:l.length=n) {x:Nat} (hx:x<n):x∈l:=by
 have:=zG.1 ((aNb h).trans hl) x hx
 rw [nP h,decide_eq_true_eq] at this;exact this
theorem aGM {l:List Nat} (h:Ln n r l) (hl:l.length<n):∃ x,x<n∧(msk l).testBit x=false:=by
 refine Classical.byContradiction fun q=>?_
 have:pc n (msk l)=n:=zG.2 fun x hx=>by
  cases c:(msk l).testBit x
  ·exact absurd ⟨x,hx,c⟩ q
  ·rfl
 rw [aNb h] at this;omega
theorem aGs {l:List Nat} (h:Ln n r l) {k:Nat} (hk:k<l.length):Ln n r (l.take k)∧l.getD k default<n∧fr r (msk (l.take k)) (l.getD k default):=by
 have e:l=l.take k++l.getD k default::l.drop (k+1):=by
  rw [dN hk,← List.drop_eq_getElem_cons hk,List.take_append_drop]
 unfold Ln at h
 rw [e,aGW,Nat.zero_add] at h
 exact ⟨h.1,h.2.1,h.2.2.1⟩
theorem aED:∀ (k:Nat) {l:List Nat},l.length=k→Ln n r l→l.Pairwise fun x y=>x≠y∧r y x=false
 | 0,l,hk,_=>by
  rw [List.length_eq_zero_iff.1 hk];exact .nil
 | k+1,l,hk,h=>by
  have hne:l≠[]:=fun q=>by rw [q] at hk;cases hk
  obtain ⟨m,x,rfl⟩:∃ m x,l=m++[x]:=⟨l.dropLast,l.getLast hne,(List.dropLast_concat_getLast hne).symm⟩
  obtain ⟨h1,h2,h3⟩:=aAn.1 h
  have hm:m.length=k:=by simpa using hk
  refine List.pairwise_append.2 ⟨aED k hm h1,List.pairwise_singleton _ _,fun y hy z hz=>?_⟩
  rw [List.mem_singleton.1 hz]
  have hb:=h3.1
  rw [nP h1,decide_eq_false_iff_not] at hb
  refine ⟨fun q=>hb (q ▸ hy),Bool.eq_false_iff.2 fun q=>?_⟩
  obtain ⟨j,hj,rfl⟩:=lA hy
  obtain ⟨g1,_,g3⟩:=aGs h1 hj
  have:=g3.2 x q
  rw [nP g1,decide_eq_true_eq] at this
  exact hb (List.mem_of_mem_take this)
theorem aOK:∀ (k:Nat) {l:List Nat},l.length=k→Ln n r l→∀ y∈l,∀ a,r a y=true→a∈l
 | 0,l,hk,_,y,hy,_,_=>by rw [List.length_eq_zero_iff.1 hk] at hy;cases hy
 | k+1,l,hk,h,y,hy,a,ha=>by
  have hne:l≠[]:=fun q=>by rw [q] at hk;cases hk
  obtain ⟨m,x,rfl⟩:∃ m x,l=m++[x]:=⟨l.dropLast,l.getLast hne,(List.dropLast_concat_getLast hne).symm⟩
  obtain ⟨h1,h2,h3⟩:=aAn.1 h
  have hm:m.length=k:=by simpa using hk
  rcases List.mem_append.1 hy with hy | hy
  ·exact List.mem_append_left _ (aOK k hm h1 y hy a ha)
  ·rw [List.mem_singleton.1 hy] at ha
   have:=h3.2 a ha
   rw [nP h1,decide_eq_true_eq] at this
   exact List.mem_append_left _ this
theorem aPP (ir:∀ a,r a a=false):∀ (k:Nat) {l:List Nat},l.length=k→(∀ x∈l,x<n)→(l.Pairwise fun x y=>x≠y∧r y x=false)→(∀ y∈l,∀ a,r a y=true→a∈l)→Ln n r l
 | 0,l,hk,_,_,_=>by rw [List.length_eq_zero_iff.1 hk];exact trivial
 | k+1,l,hk,hlt,hp,hc=>by
  have hne:l≠[]:=fun q=>by rw [q] at hk;cases hk
  obtain ⟨m,x,rfl⟩:∃ m x,l=m++[x]:=⟨l.dropLast,l.getLast hne,(List.dropLast_concat_getLast hne).symm⟩
  have hm:m.length=k:=by simpa using hk
  obtain ⟨p1,_,p3⟩:=List.pairwise_append.1 hp
  have h1:Ln n r m:=aPP ir k hm (fun y hy=>hlt y (List.mem_append_left _ hy)) p1 fun y hy a ha=>by
   rcases List.mem_append.1 (hc y (List.mem_append_left _ hy) a ha) with q | q
   ·exact q
   ·rw [List.mem_singleton.1 q] at ha
    have:=(p3 y hy x (List.mem_singleton.2 rfl)).2
    rw [ha] at this;cases this
  refine aAn.2 ⟨h1,hlt x (List.mem_append_right _ (List.mem_singleton.2 rfl)),?_,fun a ha=>?_⟩
  ·rw [nP h1,decide_eq_false_iff_not]
   exact fun q=>(p3 x q x (List.mem_singleton.2 rfl)).1 rfl
  ·rw [nP h1,decide_eq_true_eq]
   rcases List.mem_append.1 (hc x (List.mem_append_right _ (List.mem_singleton.2 rfl)) a ha) with q | q
   ·exact q
   ·rw [List.mem_singleton.1 q,ir] at ha;cases ha
end
section
variable {o:aE} {n:Nat} {t:Ar 8} {r:Nat→Nat→Bool}
theorem OV.fr_ex (h:OV o n t r) {l:List Nat} (hl:Ln n r l) (hlt:l.length<n):∃ x,x<n∧fr r (msk l) x:=by
 obtain ⟨y,hy,hb⟩:=aGM hl hlt
 obtain ⟨x,h1,h2,h3⟩:=aMl (P:=fun x=>(msk l).testBit x=false) (suc n r) n ⟨y,hy,hb⟩
 refine ⟨x,h1,h2,fun a ha=>?_⟩
 cases c:(msk l).testBit a
 ·have:=h3 a (h.lt _ _ ha).1 c
  have:=h.suc_lt ha
  omega
 ·rfl
theorem aMP (T:TB t r) {S x:Nat} (hS:S<256) (hx:x<8):(rE .i64 (t.at1 (x:Int)) (S:Int)==0)=true↔∀ a,r a x=true→S.testBit a=true:=by
 obtain ⟨z,z1,z2,z3⟩:=T x hx
 rw [z1,aAL (by omega) (by omega),beq_iff_eq,show (((vL z S:Nat):Int)=0↔vL z S=0) by omega,aCQ]
 exact ⟨fun q a ha=>q a (by rw [z3];exact ha),fun q a ha=>q a (by rw [← z3];exact ha)⟩
def Gd (r:Nat→Nat→Bool) (l:List Nat):Prop:=∀ k,k<l.length→∀ y,y<l.getD k default→¬fr r (msk (l.take k)) y
theorem aKA {l:List Nat} {x:Nat} (h:Gd r l) (hx:∀ y,y<x→¬fr r (msk l) y):Gd r (l++[x]):=fun k hk y hy=>by
 by_cases c:k<l.length
 ·have e:(l++[x]).getD k default=l.getD k default:=by rw [List.getD_eq_getElem?_getD,List.getElem?_append_left c,List.getD_eq_getElem?_getD]
  rw [e] at hy
  rw [List.take_append_of_le_length (by omega)]
  exact h k c y hy
 ·have:k=l.length:=by simp only [List.length_append,List.length_cons,List.length_nil] at hk;omega
  subst this
  have e:(l++[x]).getD l.length default=x:=by simp [List.getD_eq_getElem?_getD]
  rw [e] at hy
  rw [List.take_append_of_le_length (Nat.le_refl _),List.take_length]
  exact hx y hy
theorem aKn {l m:List Nat} (h:Ln n r l) (g:Ln n r m) (hg:Gd r l) (gg:Gd r m) (e:l.length=m.length):l=m:=by
 have key:∀ k,k≤l.length→l.take k=m.take k:=fun k=>by
  induction k with
  | zero=>intro _;rw [List.take_zero,List.take_zero]
  | succ k ih=>
   intro hk
   have ih:=ih (by omega)
   rw [gW (by omega),gW (l:=m) (by omega),ih]
   congr 2
   obtain ⟨_,_,f1⟩:=aGs h (k:=k) (by omega)
   obtain ⟨_,_,f2⟩:=aGs g (k:=k) (by omega)
   have g1:=hg k (by omega) (m.getD k default)
   have g2:=gg k (by omega) (l.getD k default)
   rw [ih] at f1 g1
   rw [← ih] at f2 g2
   rw [ih] at f2 g2
   have a1:¬m.getD k default<l.getD k default:=fun q=>g1 q f2
   have a2:¬l.getD k default<m.getD k default:=fun q=>g2 q f1
   omega
 have:=key l.length (Nat.le_refl _)
 rwa [List.take_length,e,List.take_length] at this
theorem aGj (h:OV o n t r):∃ ls,kV (n:Int) t=some (dO ls)∧Ln n r ls∧ls.length=n∧Gd r ls:=by
 have n8:=h.n8
 have p8:=fO n8
 obtain ⟨y,e,hy⟩:=lC (body:=pD (n:Int) t) (fun s=>∃ ls,s.1=dO ls∧Ln n r ls∧Gd r ls∧s.2=((msk ls:Nat):Int)) (fun s=>n-s.1.length)
  (fun y=>match y with | .inl s=>∃ ls,s.1=dO ls∧Ln n r ls∧ls.length=n∧Gd r ls | .inr _=>False)
  (fun s ⟨ls,h1,h2,h3,h4⟩=>by
   obtain ⟨u,v⟩:=s
   simp only at h1 h4
   subst h1 h4
   have hm:=aFg h2
   have hlen:=aPM h2
   unfold pD
   simp only [aZ,aX]
   by_cases c:ls.length<n
   ·rw [if_pos (by omega)]
    obtain ⟨x0,x1,x2⟩:=h.fr_ex h2 c
    obtain ⟨y,e,hy⟩:=lC (body:=pL (n:Int) t) (fun s=>∃ k:Nat,s=(dO ls,((msk ls:Nat):Int),(k:Int))∧k≤n∧∀ y,y<k→¬fr r (msk ls) y) (fun s=>n-s.2.2.toNat)
     (fun y=>∃ x,x<n∧fr r (msk ls) x∧(∀ y,y<x→¬fr r (msk ls) y)∧y=.inl (dO (ls++[x]),((msk (ls++[x]):Nat):Int),(x:Int)))
     (fun s ⟨k,hs,hk,hj⟩=>by
      subst hs
      have hkn:k<n:=by
       refine Nat.lt_of_not_le fun q=>hj x0 (by omega) x2
      unfold pL
      simp only [aZ,rC]
      rw [if_pos (by omega),dC _ (by omega),aOL (by omega) (by omega),cT,iL]
      have nxt:¬fr r (msk ls) k→(∃ s',(some (Ct.nx (dO ls,((msk ls:Nat):Int),wr ((k:Int)+1))):Option (Ct ((List Int)×Int×Int) (List Int)))=some (.nx s')∧(∃ k:Nat,s'=(dO ls,((msk ls:Nat):Int),(k:Int))∧k≤n∧∀ y,y<k→¬fr r (msk ls) y)∧n-s'.2.2.toNat<n-(k:Int).toNat):=fun q=>by
       rw [cE (by omega) (by omega)]
       refine ⟨_,rfl,⟨k+1,by rw [show (k:Int)+1=((k+1:Nat):Int) by omega],hkn,fun y hy=>?_⟩,by simp only;omega⟩
       by_cases e:y<k
       ·exact hj y e
       ·rw [show y=k by omega];exact q
      by_cases c1:(msk ls).testBit k=true
      ·rw [if_pos c1,mK]
       exact .inl (nxt fun q=>by rw [q.1] at c1;cases c1)
      ·rw [if_neg c1,dC _ (by omega),iL]
       have fd:=aMP h.tb (S:=msk ls) (x:=k) (by omega) (by omega)
       by_cases c2:(rE .i64 (t.at1 (k:Int)) ((msk ls:Nat):Int)==0)=true
       ·rw [if_pos c2,aAy,aCe (by rw [aX];simp only [List.length_cons,List.length_nil];omega),dC _ (by omega),aEo (by omega),aNl (by omega) (by have:=fO (k:=k) (by omega);omega)]
        have hb:=Bool.eq_false_iff.2 c1
        refine .inr (.inl ⟨_,rfl,k,hkn,⟨hb,fd.1 c2⟩,hj,?_⟩)
        rw [oW,aHl,← aCV hb];rfl
       ·rw [if_neg c2]
        exact .inl (nxt fun q=>c2 (fd.2 q.2))) (dO ls,((msk ls:Nat):Int),0) ⟨0,rfl,Nat.zero_le _,fun y hy=>absurd hy (Nat.not_lt_zero _)⟩ (by simp only;omega)
    obtain ⟨x,g1,g2,g3,rfl⟩:=hy
    rw [e,bU,dK]
    refine .inl ⟨_,rfl,⟨ls++[x],rfl,aAn.2 ⟨h2,g1,g2⟩,aKA h3 g3,rfl⟩,by simp only [aX,List.length_append,List.length_cons,List.length_nil];omega⟩
   ·rw [if_neg (by omega)]
    exact .inr (.inl ⟨_,rfl,ls,rfl,h2,by omega,h3⟩)) ([],0) ⟨[],rfl,trivial,fun k hk=>absurd hk (Nat.not_lt_zero _),rfl⟩ (by simp only [List.length_nil];omega)
 unfold kV
 rw [e,bU]
 cases y with
 | inr s=>exact hy.elim
 | inl s=>
  obtain ⟨ls,h1,h2,h3,h4⟩:=hy
  rw [dK,h1]
  exact ⟨ls,rfl,h2,h3,h4⟩
theorem aNR (h:OV o n t r):∃ ls,gI o=some (dO ls,0)∧Ln n r ls∧ls.length=n∧Gd r ls:=by
 obtain ⟨ls,e,h1,h2,h3⟩:=aGj h
 unfold gI
 rw [h.rd,bU,cT,mH,h.N]
 simp only
 rw [e,bU]
 exact ⟨ls,rfl,h1,h2,h3⟩
theorem aM3 (h:bS o=some (t,false)):gI o=some ([],70):=by
 unfold gI
 rw [h,bU,cT,mK]
theorem aIE (h:OV o n t r) (l:List Int):∃ v,eR o l=some v∧(v=true↔∃ ls,l=dO ls∧Ln n r ls∧ls.length=n):=by
 have n8:=h.n8
 have p8:=fO n8
 have hN:=h.N
 unfold eR
 rw [h.rd,bU]
 simp only [rC,Bool.not_true,mK]
 by_cases c:(l.length:Int)=o.N
 ·rw [show ((l.length:Int) != o.N)=false by rw [c];simp,mK]
  obtain ⟨y,e,hy⟩:=lC (body:=mM o l (t,true)) (fun s=>∃ k:Nat,s.2=(k:Int)∧k≤l.length∧∃ ls,l.take k=dO ls∧Ln n r ls∧s.1=((msk ls:Nat):Int)) (fun s=>l.length-s.2.toNat)
   (fun y=>match y with | .inl _=>∃ ls,l=dO ls∧Ln n r ls | .inr v=>v=false∧¬∃ ls,l=dO ls∧Ln n r ls)
   (fun s ⟨k,hs,hk,ls,g1,g2,g3⟩=>by
    obtain ⟨u,v⟩:=s
    simp only at hs g3
    subst hs g3
    have hm:=aFg g2
    unfold mM
    simp only [aZ,rC]
    by_cases ck:k<l.length
    ·rw [if_pos (by omega),sV ck]
     have hat:∀ {ls'},l=dO ls'→Ln n r ls'→∃ z:Nat,l.getD k default=(z:Int)∧z<n∧fr r (msk ls) z:=fun {ls'} q1 q2=>by
      have kl:k<ls'.length:=by rw [q1,aX] at ck;exact ck
      obtain ⟨_,f1,f2⟩:=aGs q2 kl
      have:ls'.take k=ls:=aLQ (by rw [← g1,q1];exact List.map_take)
      rw [this] at f2
      exact ⟨_,by rw [q1,cQ kl],f1,f2⟩
     by_cases c1:l.getD k default<0
     ·rw [if_pos c1,mH]
      exact .inr (.inr ⟨_,rfl,rfl,fun ⟨ls',q1,q2⟩=>by obtain ⟨z,z1,_⟩:=hat q1 q2;omega⟩)
     rw [if_neg c1]
     by_cases c2:l.getD k default≥o.N
     ·rw [if_pos c2,mH]
      exact .inr (.inr ⟨_,rfl,rfl,fun ⟨ls',q1,q2⟩=>by obtain ⟨z,z1,z2,_⟩:=hat q1 q2;omega⟩)
     rw [if_neg c2,dC _ (by omega)]
     obtain ⟨z,hz⟩:∃ z:Nat,l.getD k default=(z:Int):=⟨(l.getD k default).toNat,by omega⟩
     rw [hz] at c1 c2 ⊢
     have zn:z<n:=by omega
     rw [aI8 (by omega) (by omega),iL]
     by_cases c3:(msk ls).testBit z=true
     ·rw [if_pos c3,mH]
      refine .inr (.inr ⟨_,rfl,rfl,fun ⟨ls',q1,q2⟩=>?_⟩)
      obtain ⟨z',z1,_,z3⟩:=hat q1 q2
      obtain rfl:z'=z:=by omega
      rw [z3.1] at c3;cases c3
     rw [if_neg c3,dC _ (by omega),show ((rE .i64 (t.at1 (z:Int)) ((msk ls:Nat):Int)) != 0) = !((rE .i64 (t.at1 (z:Int)) ((msk ls:Nat):Int))==0) from rfl,cT,iL]
     have fd:=aMP h.tb (S:=msk ls) (x:=z) (by omega) (by omega)
     by_cases c4:(rE .i64 (t.at1 (z:Int)) ((msk ls:Nat):Int)==0)=true
     ·have hb:=Bool.eq_false_iff.2 c3
      rw [if_pos c4,dC _ (by omega),aEo (by omega),aNl (by omega) (by have:=fO (k:=z) (by omega);omega),cE (by omega) (by omega)]
      refine .inl ⟨_,rfl,⟨k+1,by simp only;omega,ck,ls++[z],?_,aAn.2 ⟨g2,zn,hb,fd.1 c4⟩,?_⟩,by simp only;omega⟩
      ·rw [gW ck,g1,hz,oW];rfl
      ·simp only;rw [aHl,← aCV hb]
     ·rw [if_neg c4]
      refine .inr (.inr ⟨_,rfl,rfl,fun ⟨ls',q1,q2⟩=>?_⟩)
      obtain ⟨z',z1,_,z3⟩:=hat q1 q2
      obtain rfl:z'=z:=by omega
      exact c4 (fd.2 z3.2)
    ·rw [if_neg (by omega)]
     rw [List.take_of_length_le (by omega)] at g1
     exact .inr (.inl ⟨_,rfl,ls,g1,g2⟩)) (0,0) ⟨0,rfl,Nat.zero_le _,[],by rw [List.take_zero];rfl,trivial,rfl⟩ (by simp only;omega)
  rw [e,bU]
  cases y with
  | inl s=>
   obtain ⟨ls,q1,q2⟩:=hy
   rw [dK]
   exact ⟨_,rfl,⟨fun _=>⟨ls,q1,q2,by rw [q1,aX] at c;omega⟩,fun _=>rfl⟩⟩
  | inr v=>
   obtain ⟨rfl,q⟩:=hy
   rw [sZ]
   exact ⟨_,rfl,⟨fun z=>(by cases z),fun ⟨ls,q1,q2,_⟩=>absurd ⟨ls,q1,q2⟩ q⟩⟩
 ·rw [show ((l.length:Int) != o.N)=true by simpa using c,mH]
  exact ⟨_,rfl,⟨fun z=>(by cases z),fun ⟨ls,q1,_,q3⟩=>absurd (by rw [q1,aX,q3,hN]) c⟩⟩
end
theorem wJ {α:Type} [Inhabited α] {l:List α} {i j:Nat} {v:α} (hi:i<l.length):(l.set i v).getD j default=if j=i then v else l.getD j default:=by
 rw [List.getD_eq_getElem?_getD,List.getElem?_set]
 by_cases e:j=i
 ·subst e;rw [if_pos rfl,if_pos rfl,if_pos hi];rfl
 ·rw [if_neg (fun q=>e q.symm),if_neg e,List.getD_eq_getElem?_getD]
def Rep (n:Nat) (W:List Int) (f:Nat→Nat):Prop:=W.length=n∧∀ x,x<n→W.getD x default=((f x:Nat):Int)
def upf (f:Nat→Nat) (b v x:Nat):Nat:=if x=b then v else f x
theorem vI (f:Nat→Nat) (b v:Nat):upf f b v b=v:=if_pos rfl
theorem qB (f:Nat→Nat) {b x:Nat} (v:Nat) (h:x≠b):upf f b v x=f x:=if_neg h
theorem aKy {n:Nat} {W:List Int} {f:Nat→Nat} (h:Rep n W f) {b:Nat} (hb:b<n) (v:Nat):Rep n (W.set b (v:Int)) (upf f b v):=by
 refine ⟨by rw [List.length_set];exact h.1,fun x hx=>?_⟩
 rw [wJ (by rw [h.1];exact hb)]
 by_cases e:x=b
 ·rw [if_pos e,e,vI]
 ·rw [if_neg e,qB _ _ e,h.2 x hx]
def aQa (r:Nat→Nat→Bool) (f:Nat→Nat) (b:Nat):Prop:=(∀ a,r a b=true→f a<f b)∧(f b=0∨∃ a,r a b=true∧f a+1=f b)
section
variable {o:aE} {n:Nat} {t:Ar 8} {r:Nat→Nat→Bool}
theorem aJj (h:OV o n t r):∃ W L,eQ o=some (W,0)∧Rep n W L∧(∀ b,b<n→aQa r L b)∧∀ b,L b≤8:=by
 have n8:=h.n8
 have hN:=h.N
 obtain ⟨ls,el,l1,l2,_⟩:=aGj h
 obtain ⟨s,e,h1,f,h2,h3,h4,h5⟩:=cJ (body:=jU o (t,true) (dO ls)) (fun k s=>s.1=(k:Int)∧∃ f,Rep n s.2 f∧(∀ x,x ∉ ls.take k→f x=0)∧(∀ b,b∈ls.take k→aQa r f b)∧∀ x,f x≤k) ls.length (by omega)
  (fun k s hk ⟨hs,f,g1,g2,g3,g4⟩=>by
   obtain ⟨u,W⟩:=s
   simp only at hs g1
   subst hs
   obtain ⟨q1,q2,q3⟩:=aGs l1 hk
   generalize hb:ls.getD k default=b at q2 q3
   have bno:b ∉ ls.take k:=by
    have:=q3.1
    rwa [nP q1,decide_eq_false_iff_not] at this
   have bpre:∀ a,r a b=true→a∈ls.take k:=fun a ha=>by
    have:=q3.2 a ha
    rwa [nP q1,decide_eq_true_eq] at this
   obtain ⟨s,e,w1,v,w2,w3,w4,w5⟩:=cJ (body:=kO o (b:Int) (t,true)) (fun m s=>s.1=(m:Int)∧∃ v:Nat,Rep n s.2 (upf f b v)∧v≤k+1∧(∀ a,a<m→r a b=true→f a<v)∧(v=0∨∃ a,a<m∧r a b=true∧f a+1=v)) n (by omega)
    (fun m s hm ⟨hs,v,g5,g6,g7,g8⟩=>by
     obtain ⟨u,X⟩:=s
     simp only at hs g5
     subst hs
     obtain ⟨x1,x2⟩:=g5
     unfold kO
     simp only [aZ,rC]
     rw [if_pos (by omega),dC _ (by omega),dC _ (by omega),zF h.tb (by omega) (by omega),iL,cE (x:=(m:Int)+1) (by omega) (by omega)]
     by_cases c:r m b=true
     ·have hmb:m≠b:=fun q=>by rw [q,h.ir] at c;cases c
      have fm:=g4 m
      rw [if_pos c,dC _ (by omega),dC _ (by omega),dC _ (by omega),aO3,Int.toNat_natCast,Int.toNat_natCast,x2 b (by omega),x2 m (by omega),vI,qB _ _ hmb,cE (by omega) (by omega)]
      have emax:aH4 ((v:Nat):Int) ((f m:Int)+1)=((max v (f m+1):Nat):Int):=by
       unfold aH4;split<;>omega
      rw [emax]
      refine ⟨_,rfl,by simp only;omega,max v (f m+1),?_,by omega,fun a ha hr=>?_,?_⟩
      ·have:=aKy ⟨x1,x2⟩ q2 (max v (f m+1))
       refine ⟨this.1,fun x hx=>?_⟩
       rw [this.2 x hx]
       by_cases e:x=b
       ·rw [e,vI,vI]
       ·rw [qB _ _ e,qB _ _ e,qB _ _ e]
      ·by_cases e:a=m
       ·subst e;omega
       ·have:=g7 a (by omega) hr;omega
      ·by_cases e:v<f m+1
       ·exact .inr ⟨m,by omega,c,by omega⟩
       ·rcases g8 with g8 | ⟨a,a1,a2,a3⟩
        ·omega
        ·exact .inr ⟨a,by omega,a2,by omega⟩
     ·rw [if_neg c]
      refine ⟨_,rfl,by simp only;omega,v,⟨x1,x2⟩,g6,fun a ha hr=>?_,?_⟩
      ·by_cases e:a=m
       ·subst e;exact absurd hr c
       ·exact g7 a (by omega) hr
      ·rcases g8 with g8 | ⟨a,a1,a2,a3⟩
       ·exact .inl g8
       ·exact .inr ⟨a,by omega,a2,a3⟩) (fun s ⟨hs,_⟩=>by
     unfold kO
     simp only [aZ]
     rw [if_neg (by omega)]) (0,W) ⟨rfl,0,⟨g1.1,fun x hx=>by
      rw [g1.2 x hx]
      by_cases e:x=b
      ·rw [e,g2 b bno,vI]
      ·rw [qB _ _ e]⟩,by omega,fun a ha=>absurd ha (Nat.not_lt_zero _),.inl rfl⟩
   unfold jU
   simp only [aZ,aX]
   rw [if_pos (by omega),sV (by rw [aX];exact hk),cQ hk,hb,e,bU,dK,cE (by omega) (by omega)]
   refine ⟨_,rfl,by simp only;omega,_,w2,fun x hx=>?_,fun b' hb'=>?_,fun x=>?_⟩
   ·rw [gW hk,hb] at hx
    rw [qB _ _ fun q=>hx (List.mem_append_right _ (List.mem_singleton.2 q)),g2 x fun q=>hx (List.mem_append_left _ q)]
   ·rw [gW hk,hb] at hb'
    rcases List.mem_append.1 hb' with hb' | hb'
    ·have hne:b'≠b:=fun q=>bno (q ▸ hb')
     have pre:∀ a,r a b'=true→a≠b:=fun a ha q=>bno (q ▸ aOK _ rfl q1 b' hb' a ha)
     obtain ⟨y1,y2⟩:=g3 b' hb'
     refine ⟨fun a ha=>?_,?_⟩
     ·rw [qB _ _ hne,qB _ _ (pre a ha)];exact y1 a ha
     ·rw [qB _ _ hne]
      rcases y2 with y2 | ⟨a,a1,a2⟩
      ·exact .inl y2
      ·exact .inr ⟨a,a1,by rw [qB _ _ (pre a a1)];exact a2⟩
    ·rw [List.mem_singleton.1 hb']
     have pre:∀ a,r a b=true→a≠b:=fun a ha q=>by rw [q,h.ir] at ha;cases ha
     refine ⟨fun a ha=>?_,?_⟩
     ·rw [qB _ _ (pre a ha),vI];exact w4 a (h.lt _ _ ha).1 ha
     ·rw [vI]
      rcases w5 with w5 | ⟨a,a0,a1,a2⟩
      ·exact .inl w5
      ·exact .inr ⟨a,a1,by rw [qB _ _ (pre a a1)];exact a2⟩
   ·by_cases e:x=b
    ·rw [e,vI];exact w3
    ·rw [qB _ _ e];have:=g4 x;omega) (fun s ⟨hs,_⟩=>by
   unfold jU
   simp only [aZ,aX]
   rw [if_neg (by omega)]) (0,List.replicate n 0) ⟨rfl,fun _=>0,⟨List.length_replicate,fun x hx=>by simp [List.getD_eq_getElem?_getD,List.getElem?_replicate,hx]⟩,fun _ _=>rfl,fun b hb=>(by rw [List.take_zero] at hb;cases hb),fun _=>Nat.zero_le _⟩
 unfold eQ
 rw [h.rd,bU,cT,mH,hN,dC _ (by omega),aAy,Int.toNat_natCast]
 simp only
 rw [el,bU,e,bU,dK]
 refine ⟨_,f,rfl,h2,fun b hb=>h4 b (by rw [List.take_length];exact aBj l1 l2 hb),fun b=>by have:=h5 b;omega⟩
theorem aJR (h:bS o=some (t,false)):eQ o=some ([],70):=by
 unfold eQ
 rw [h,bU,cT,mK]
end
def bst (f:Nat→List Nat):List Nat→List Nat→List Nat
 | [],acc=>acc
 | b::l,acc=>bst f l (if acc.length<(f b).length then f b else acc)
def cf (n:Nat) (r:Nat→Nat→Bool):Nat→Nat→List Nat
 | 0,_=>[]
 | k+1,a=>a::bst (cf n r k) ((List.range n).filter fun b=>r a b) []
def Cf (n:Nat) (r:Nat→Nat→Bool) (a:Nat):List Nat:=cf n r (suc n r a+1) a
theorem xO (f:Nat→List Nat):∀ (l m acc:List Nat),bst f (l++m) acc=bst f m (bst f l acc)
 | [],_,_=>rfl
 | b::l,m,acc=>xO f l m _
theorem aBJ {f g:Nat→List Nat}:∀ {l acc:List Nat},(∀ b,b∈l→f b=g b)→bst f l acc=bst g l acc
 | [],_,_=>rfl
 | b::l,acc,h=>by
  show bst f l _=bst g l _
  rw [h b (List.mem_cons_self ..)]
  exact aBJ fun c hc=>h c (List.mem_cons_of_mem _ hc)
theorem aKj (f:Nat→List Nat):∀ (l acc:List Nat),bst f l acc=acc∨∃ b,b∈l∧bst f l acc=f b
 | [],acc=>.inl rfl
 | c::l,acc=>by
  have e:bst f (c::l) acc=bst f l (if acc.length<(f c).length then f c else acc):=rfl
  rw [e]
  rcases aKj f l (if acc.length<(f c).length then f c else acc) with h | ⟨b,hb,h⟩
  ·rw [h]
   split
   ·exact .inr ⟨c,List.mem_cons_self ..,rfl⟩
   ·exact .inl rfl
  ·exact .inr ⟨b,List.mem_cons_of_mem _ hb,h⟩
section
variable {o:aE} {n:Nat} {t:Ar 8} {r:Nat→Nat→Bool}
theorem aKK (h:OV o n t r):∀ (k m a:Nat),suc n r a<k→suc n r a<m→cf n r k a=cf n r m a
 | 0,_,_,h1,_=>absurd h1 (Nat.not_lt_zero _)
 | k+1,0,_,_,h2=>absurd h2 (Nat.not_lt_zero _)
 | k+1,m+1,a,h1,h2=>by
  show a::_=a::_
  congr 1
  refine aBJ fun b hb=>?_
  have:=h.suc_lt (List.mem_filter.1 hb).2
  exact aKK h k m b (by omega) (by omega)
theorem aNm (h:OV o n t r) (a:Nat):Cf n r a=a::bst (Cf n r) ((List.range n).filter fun b=>r a b) []:=by
 show a::_=a::_
 congr 1
 refine aBJ fun b hb=>?_
 have:=h.suc_lt (List.mem_filter.1 hb).2
 exact aKK h _ _ b (by omega) (by omega)
theorem aMy:∀ (k a:Nat),(cf n r k a).length≤k
 | 0,_=>Nat.le_refl _
 | k+1,a=>by
  show (bst (cf n r k) ((List.range n).filter fun b=>r a b) []).length+1≤k+1
  rcases aKj (cf n r k) ((List.range n).filter fun b=>r a b) [] with e | ⟨b,_,e⟩
  ·rw [e];simp
  ·rw [e];have:=aMy k b;omega
theorem aJ5 (n:Nat) (r:Nat→Nat→Bool) (a:Nat):suc n r a≤n:=oJ
theorem aMM (a:Nat):(Cf n r a).length≤n+1:=Nat.le_trans (aMy _ _) (by have:=aJ5 n r a;omega)
def MV (n:Nat) (r:Nat→Nat→Bool) (m:GM (List Int)):Prop:=∀ a:Nat,m.has (a:Int)=true→m.get (a:Int) []=dO (Cf n r a)
theorem aAM (h:OV o n t r):∀ (k a:Nat) (m:GM (List Int)),suc n r a<k→a<n→MV n r m→∃ m',aAv k (a:Int) o t m=some (dO (Cf n r a),m')∧MV n r m'
 | 0,_,_,hk,_,_=>absurd hk (Nat.not_lt_zero _)
 | k+1,a,m,hk,ha,hm=>by
  have n8:=h.n8
  have hN:=h.N
  show ∃ m',aFt (aAv k) (a:Int) o t m=some (dO (Cf n r a),m')∧MV n r m'
  unfold aFt
  rw [iL]
  by_cases c:m.has (a:Int)=true
  ·rw [if_pos c,hm a c];exact ⟨m,rfl,hm⟩
  rw [if_neg c]
  obtain ⟨s,e,h1,h2,h3⟩:=cJ (body:=aAe (a:Int) o t (aAv k)) (fun b s=>s.2.1=(b:Int)∧s.1=dO (bst (Cf n r) ((List.range b).filter fun b=>r a b) [])∧MV n r s.2.2) n (by omega)
   (fun b s hb ⟨hs,hq,hmv⟩=>by
    obtain ⟨u,v,w⟩:=s
    simp only at hs hq hmv
    subst hs hq
    unfold aAe
    simp only [aZ,rC,aX]
    rw [if_pos (by omega),dC _ (by omega),dC _ (by omega),zF h.tb (by omega) (by omega),iL,cE (by omega) (by omega)]
    have fs:(List.range (b+1)).filter (fun b=>r a b)=(List.range b).filter (fun b=>r a b)++if r a b=true then [b] else []:=by
     rw [List.range_succ,List.filter_append,zQ]
    by_cases c:r a b=true
    ·have:=h.suc_lt c
     obtain ⟨m1,e1,hm1⟩:=aAM h k b w (by omega) hb hmv
     rw [if_pos c,e1,bU]
     simp only [aX,aZ]
     by_cases d:(bst (Cf n r) ((List.range b).filter fun b=>r a b) []).length<(Cf n r b).length
     ·obtain ⟨m2,e2,hm2⟩:=aAM h k b m1 (by omega) hb hm1
      rw [if_pos (by omega),e2,bU]
      refine ⟨_,rfl,by simp only;omega,?_,hm2⟩
      simp only
      rw [fs,if_pos c,xO]
      show _=dO (if _ then _ else _)
      rw [if_pos d]
     ·rw [if_neg (by omega)]
      refine ⟨_,rfl,by simp only;omega,?_,hm1⟩
      simp only
      rw [fs,if_pos c,xO]
      show _=dO (if _ then _ else _)
      rw [if_neg d]
    ·rw [if_neg c,mK]
     exact ⟨_,rfl,by simp only;omega,by simp only;rw [fs,if_neg c,List.append_nil],hmv⟩) (fun s ⟨hs,_⟩=>by
    unfold aAe
    simp only [aZ]
    rw [if_neg (by omega)]) ([],0,m) ⟨rfl,rfl,hm⟩
  have hlen:(bst (Cf n r) ((List.range n).filter fun b=>r a b) []).length≤n+1:=by
   have:=aMM (n:=n) (r:=r) a
   rw [aNm h,List.length_cons] at this;omega
  rw [e,bU,dK,aAy,h2,aCe (by rw [aX];simp only [List.length_cons,List.length_nil];omega)]
  have e2:[(a:Int)]++dO (bst (Cf n r) ((List.range n).filter fun b=>r a b) [])=dO (Cf n r a):=by rw [aNm h];rfl
  rw [e2]
  simp only
  rw [GM.get_put]
  refine ⟨_,rfl,fun b hb=>?_⟩
  by_cases eb:b=a
  ·subst eb;rw [GM.get_put]
  ·rw [GM.has_put_ne (by omega)] at hb
   rw [GM.get_put_ne (by omega)];exact h3 b hb
def Chn (n:Nat) (r:Nat→Nat→Bool):List Nat:=bst (Cf n r) (List.range n) []
theorem aI0 (n:Nat) (r:Nat→Nat→Bool):(Chn n r).length≤n+1:=by
 rcases aKj (Cf n r) (List.range n) [] with e | ⟨b,_,e⟩
 ·show (bst _ _ _).length≤_;rw [e];simp
 ·show (bst _ _ _).length≤_;rw [e];exact aMM b
theorem aL5 (h:OV o n t r):fX o=some (dO (Chn n r),0):=by
 have n8:=h.n8
 have hN:=h.N
 obtain ⟨s,e,h1,h2,h3⟩:=cJ (body:=mC o (t,true)) (fun a s=>s.2.1=(a:Int)∧s.1=dO (bst (Cf n r) (List.range a) [])∧MV n r s.2.2) n (by omega)
  (fun a s ha ⟨hs,hq,hmv⟩=>by
   obtain ⟨u,v,w⟩:=s
   simp only at hs hq hmv
   subst hs hq
   have sl:=aJ5 n r a
   unfold mC
   simp only [aZ,rC,aX]
   obtain ⟨m1,e1,hm1⟩:=aAM h 10 a w (by omega) ha hmv
   rw [if_pos (by omega),e1,bU]
   simp only [aX]
   rw [cE (by omega) (by omega)]
   by_cases d:(bst (Cf n r) (List.range a) []).length<(Cf n r a).length
   ·obtain ⟨m2,e2,hm2⟩:=aAM h 10 a m1 (by omega) ha hm1
    rw [if_pos (by omega),e2,bU]
    refine ⟨_,rfl,by simp only;omega,?_,hm2⟩
    simp only
    rw [List.range_succ,xO]
    show _=dO (if _ then _ else _)
    rw [if_pos d]
   ·rw [if_neg (by omega)]
    refine ⟨_,rfl,by simp only;omega,?_,hm1⟩
    simp only
    rw [List.range_succ,xO]
    show _=dO (if _ then _ else _)
    rw [if_neg d]) (fun s ⟨hs,_⟩=>by
   unfold mC
   simp only [aZ]
   rw [if_neg (by omega)]) ([],0,GM.mt (List Int)) ⟨rfl,rfl,fun a ha=>by rw [GM.has_mt] at ha;cases ha⟩
 have cl:=aI0 n r
 unfold fX
 rw [h.rd,bU,cT,mH]
 rw [e,bU,dK,h2,dC _ (by rw [aX];show (Chn n r).length≤_;omega),aAy];rfl
theorem aK7 (h:bS o=some (t,false)):fX o=some ([],70):=by
 unfold fX
 rw [h,bU,cT,mK]
end
def RA (x:Ar 8) (f:Nat→Nat):Prop:=∀ b:Nat,b<8→x.at1 (b:Int)=((f b:Nat):Int)
theorem aMm {x:Ar 8} {f:Nat→Nat} (h:RA x f) {b:Nat} (hb:b<8) (v:Nat):RA (x.st1 (b:Int) (v:Int)) (upf f b v):=fun c hc=>by
 rw [aKl x hb]
 by_cases e:c=b
 ·rw [if_pos e,e,vI]
 ·rw [if_neg e,qB _ _ e,h c hc]
theorem aNY:RA (Ar.zero 8) fun _=>0:=fun b hb=>by
 show (List.replicate 8 (0:Int)).getD (b:Int).toNat 0=0
 rw [Int.toNat_natCast,List.getD_eq_getElem?_getD,List.getElem?_replicate,if_pos hb];rfl
theorem aFw:∀ {n:Nat} {b:Nat} (f g:Nat→Nat),b<n→(∀ i,i≠b→g i=f i)→sm n g+f b=sm n f+g b
 | n+1,b,f,g,hb,h=>by
  show sm n g+g n+f b=sm n f+f n+g b
  by_cases e:b=n
  ·subst e
   rw [eF (n:=b) (f:=g) (g:=f) fun i hi=>h i (by omega)];omega
  ·have:=aFw (n:=n) f g (by omega) h
   rw [h n fun q=>e q.symm];omega
def cnt (n:Nat) (m:Nat→Nat) (z:Nat):Nat:=sm n fun b=>if m b=z+1 then 1 else 0
theorem aJD {n:Nat} {m:Nat→Nat} {b:Nat} (hb:b<n) (v z:Nat):cnt n (upf m b v) z+(if m b=z+1 then 1 else 0)=cnt n m z+if v=z+1 then 1 else 0:=by
 have:=aFw (b:=b) (fun b=>if m b=z+1 then 1 else 0) (fun c=>if upf m b v c=z+1 then 1 else 0) hb fun i hi=>by rw [qB _ _ hi]
 simp only [vI] at this
 exact this
structure Cls (r:Nat→Nat→Bool) (m:Nat→Nat) (DL DR:Nat→Prop):Prop where
 c1:∀ a b,DL a→r a b=true→DR b
 c2:∀ b,DR b→m b≠0∧DL (m b-1)
def Mt (r:Nat→Nat→Bool) (m:Nat→Nat):Prop:=∀ b,m b≠0→r (m b-1) b=true
structure aTj (r:Nat→Nat→Bool) (n:Nat) (m:Nat→Nat) (a S S':Nat):Prop where
 lt:S'<2 ^ n
 up:∀ b,S.testBit b=true→S'.testBit b=true
 nb:∀ b,r a b=true→S'.testBit b=true
 cl:∀ b,S'.testBit b=true→S.testBit b=false→m b≠0∧∀ c,r (m b-1) c=true→S'.testBit c=true
structure aP5 (r:Nat→Nat→Bool) (n:Nat) (m m':Nat→Nat) (a S:Nat):Prop where
 mt:Mt r m'
 old:∀ b,S.testBit b=true→m' b=m b
 ct:∀ z,cnt n m' z=cnt n m z+if z=a then 1 else 0
 av:∀ DL DR,Cls r m DL DR→¬DL a∧∀ b,DR b→m' b=m b
def FoR (r:Nat→Nat→Bool) (n:Nat) (x:Ar 8) (m:Nat→Nat) (a S:Nat) (y:Bool×Ar 8×Int):Prop:=
 (y.1=false∧y.2.1=x∧∃ S':Nat,y.2.2=(S':Int)∧aTj r n m a S S')∨(y.1=true∧∃ m',RA y.2.1 m'∧aP5 r n m m' a S)
section
variable {o:aE} {n:Nat} {t:Ar 8} {r:Nat→Nat→Bool}
theorem aSz {S b:Nat} (hb:b<n) (h:S.testBit b=false):pc n S<n:=by
 refine Nat.lt_of_le_of_ne (aNN n S) fun q=>?_
 rw [zG.1 q b hb] at h;cases h
theorem aCX (h:OV o n t r):∀ (k a S:Nat) (x:Ar 8) (m:Nat→Nat),RA x m→Mt r m→a<n→S<2 ^ n→n-pc n S<k→∃ y,uM k (a:Int) o t x (S:Int)=some y∧FoR r n x m a S y
 | 0,_,_,_,_,_,_,_,_,hk=>absurd hk (Nat.not_lt_zero _)
 | k+1,a,S,x,m,hx,hm,ha,hS,hk=>by
  have n8:=h.n8
  have hN:=h.N
  have p8:=fO n8
  show ∃ y,yR (uM k) (a:Int) o t x (S:Int)=some y∧FoR r n x m a S y
  unfold yR
  obtain ⟨y,e,hy⟩:=lC (body:=wF (a:Int) o t (uM k)) (fun s=>∃ b Q:Nat,s=((b:Int),(Q:Int),x)∧b≤n∧Q<2 ^ n∧(∀ c,S.testBit c=true→Q.testBit c=true)∧(∀ c,c<b→r a c=true→Q.testBit c=true)∧∀ c,Q.testBit c=true→S.testBit c=false→m c≠0∧∀ d,r (m c-1) d=true→Q.testBit d=true) (fun s=>n-s.1.toNat)
   (fun y=>match y with | .inl s=>s.2.2=x∧∃ S':Nat,s.2.1=(S':Int)∧aTj r n m a S S' | .inr y=>y.1=true∧∃ m',RA y.2.1 m'∧aP5 r n m m' a S)
   (fun s ⟨b,Q,hs,hb,hQ,q1,q2,q3⟩=>by
    subst hs
    unfold wF
    simp only [aZ,rC]
    by_cases cb:b<n
    ·have nxt:∀ Q':Nat,Q'<2 ^ n→(∀ c,Q.testBit c=true→Q'.testBit c=true)→(r a b=true→Q'.testBit b=true)→(∀ c,Q'.testBit c=true→Q.testBit c=false→m c≠0∧∀ d,r (m c-1) d=true→Q'.testBit d=true)→(∃ s',(some (.nx (wr ((b:Int)+1),(Q':Int),x)):Option (Ct (Int×Int×(Ar 8)) (Bool×(Ar 8)×Int)))=some (.nx s')∧(∃ b Q:Nat,s'=((b:Int),(Q:Int),x)∧b≤n∧Q<2 ^ n∧(∀ c,S.testBit c=true→Q.testBit c=true)∧(∀ c,c<b→r a c=true→Q.testBit c=true)∧∀ c,Q.testBit c=true→S.testBit c=false→m c≠0∧∀ d,r (m c-1) d=true→Q.testBit d=true)∧n-s'.1.toNat<n-(b:Int).toNat):=fun Q' g1 g2 g3 g4=>by
      rw [cE (by omega) (by omega)]
      refine ⟨_,rfl,⟨b+1,Q',by rw [show ((b+1:Nat):Int)=(b:Int)+1 by omega],cb,g1,fun c hc=>g2 c (q1 c hc),fun c hc hr=>?_,fun c hc hs=>?_⟩,by simp only;omega⟩
      ·by_cases e:c<b
       ·exact g2 c (q2 c e hr)
       ·obtain rfl:c=b:=by omega
        exact g3 hr
      ·cases e:Q.testBit c
       ·exact g4 c hc e
       ·obtain ⟨z1,z2⟩:=q3 c e hs
        exact ⟨z1,fun d hd=>g2 d (z2 d hd)⟩
     rw [if_pos (by omega),dC _ (by omega),dC _ (by omega),aN1 h.tb (by omega) (by omega),cT,iL]
     by_cases cr:r a b=true
     ·rw [if_pos cr,dC _ (by omega),aI8 (by omega) (by omega),iL]
      by_cases cq:Q.testBit b=true
      ·rw [if_pos cq]
       exact .inl (nxt Q hQ (fun _ g=>g) (fun _=>cq) fun c g1 g2=>by rw [g1] at g2;cases g2)
      ·have cq':=Bool.eq_false_iff.2 cq
       have spb:=fO (k:=b) (by omega)
       have hQb:Q+2 ^ b<2 ^ n:=by
        rw [← aCV cq']
        exact Nat.or_lt_two_pow hQ (Nat.pow_lt_pow_right (by omega) cb)
       have hab:=aF9 cq'
       have hpc:=aHb cb cq'
       have hpl:=aSz cb cq'
       have sub:∀ z,S.testBit z=true→(Q+2 ^ b).testBit z=true:=fun z hz=>by rw [hab,q1 z hz];rfl
       have Sb:S.testBit b=false:=by
        cases e:S.testBit b
        ·rfl
        ·exact absurd (q1 b e) cq
       have hQS:pc n S≤pc n Q:=aDD fun i _=>by
        cases e:S.testBit i
        ·exact Nat.zero_le _
        ·rw [q1 i e];exact Nat.le_refl _
       rw [if_neg cq,dC _ (by omega),dC _ (by omega),hx b (by omega),pG]
       simp only [aEo (show b≤60 by omega),aNl (show Q<4611686018427387904 by omega) (show 2 ^ b<4611686018427387904 by omega),aCV cq']
       by_cases cm:m b=0
       ·rw [if_pos (by omega),mH,dC _ (by omega),cE (by omega) (by omega)]
        refine .inr (.inr ⟨_,rfl,rfl,upf m b (a+1),aMm hx (by omega) (a+1),fun c hc=>?_,fun c hc=>?_,fun z=>?_,fun DL DR hD=>⟨fun g=>?_,fun c hc=>?_⟩⟩)
        ·by_cases e:c=b
         ·subst e;rw [vI];exact cr
         ·rw [qB _ _ e] at hc ⊢;exact hm c hc
        ·rw [qB _ _ fun e=>by rw [e,Sb] at hc;cases hc]
        ·have:=aJD (m:=m) cb (a+1) z
         rw [cm,if_neg (by omega),Nat.add_zero] at this
         rw [this]
         by_cases e:z=a
         ·rw [if_pos (by omega),if_pos e]
         ·rw [if_neg (by omega),if_neg e]
        ·exact (hD.c2 b (hD.c1 a b g cr)).1 cm
        ·rw [qB _ _ fun e=>(hD.c2 c hc).1 (by rw [e];exact cm)]
       ·have hmb:=hm b cm
        have hlt:=h.lt _ _ hmb
        rw [if_neg (by omega),dC _ (by omega),cE (by omega) (by omega),show ((m b:Nat):Int)-1=((m b-1:Nat):Int) by omega]
        obtain ⟨y,ey,hy⟩:=aCX h k (m b-1) (Q+2 ^ b) x m hx hm hlt.1 hQb (by omega)
        rw [ey,bU]
        obtain ⟨ok,x',Z⟩:=y
        rcases hy with ⟨f1,f2,S',f3,f4⟩ | ⟨f1,m1,f2,f3⟩
        ·simp only at f1 f2 f3
         subst f1 f2 f3
         simp only [mK]
         refine .inl (nxt S' f4.lt (fun c hc=>f4.up c (by rw [hab,hc];rfl)) (fun _=>f4.up b (by rw [hab,decide_eq_true rfl,Bool.or_true])) fun c g1 g2=>?_)
         by_cases e:c=b
         ·subst e;exact ⟨cm,f4.nb⟩
         ·exact f4.cl c g1 (by rw [hab,g2,decide_eq_false e];rfl)
        ·simp only at f1 f2
         subst f1
         simp only [mH]
         have m1b:m1 b=m b:=f3.old b (by rw [hab,decide_eq_true rfl,Bool.or_true])
         rw [dC _ (by omega),cE (by omega) (by omega)]
         refine .inr (.inr ⟨_,rfl,rfl,upf m1 b (a+1),aMm f2 (by omega) (a+1),fun c hc=>?_,fun c hc=>?_,fun z=>?_,fun DL DR hD=>?_⟩)
         ·by_cases e:c=b
          ·subst e;rw [vI];exact cr
          ·rw [qB _ _ e] at hc ⊢;exact f3.mt c hc
         ·rw [qB _ _ (fun e=>by rw [e,Sb] at hc;cases hc),f3.old c (sub c hc)]
         ·have g1:=aJD (m:=m1) cb (a+1) z
          have g2:=f3.ct z
          rw [m1b] at g1
          by_cases e1:m b=z+1
          ·rw [if_pos (by omega)] at g1 g2
           by_cases e:z=a
           ·rw [if_pos (by omega)] at g1;rw [if_pos e];omega
           ·rw [if_neg (by omega)] at g1;rw [if_neg e];omega
          ·rw [if_neg e1] at g1
           rw [if_neg (by omega)] at g2
           by_cases e:z=a
           ·rw [if_pos (by omega)] at g1;rw [if_pos e];omega
           ·rw [if_neg (by omega)] at g1;rw [if_neg e];omega
         ·obtain ⟨v1,v2⟩:=f3.av DL DR hD
          refine ⟨fun g=>v1 (hD.c2 b (hD.c1 a b g cr)).2,fun c hc=>?_⟩
          rw [qB _ _ fun e=>v1 (by rw [← e];exact (hD.c2 c hc).2)]
          exact v2 c hc
     ·rw [if_neg cr,mH]
      exact .inl (nxt Q hQ (fun _ g=>g) (fun g=>absurd g cr) fun c g1 g2=>by rw [g1] at g2;cases g2)
    ·rw [if_neg (by omega)]
     exact .inr (.inl ⟨_,rfl,rfl,Q,rfl,hQ,q1,fun c hc=>q2 c (by have:=(h.lt _ _ hc).2;omega) hc,q3⟩)) (0,(S:Int),x) ⟨0,S,rfl,Nat.zero_le _,hS,fun _ g=>g,fun c hc=>absurd hc (Nat.not_lt_zero _),fun c g1 g2=>by rw [g1] at g2;cases g2⟩ (by simp only;omega)
  rw [e,bU]
  cases y with
  | inl s=>
   obtain ⟨y1,S',y2,y3⟩:=hy
   rw [dK]
   exact ⟨_,rfl,.inl ⟨rfl,y1,S',y2,y3⟩⟩
  | inr y=>
   rw [sZ]
   exact ⟨_,rfl,.inr hy⟩
structure Mat (r:Nat→Nat→Bool) (n:Nat) (m:Nat→Nat):Prop where
 mt:Mt r m
 one:∀ z,cnt n m z≤1
 cov:∃ DL DR,Cls r m DL DR∧∀ z,z<n→cnt n m z=0→DL z
theorem aKT (h:OV o n t r):∃ s m,lp (jL o (t,true)) FU (0,0,(Ar.zero 8))=some (.inl s)∧RA s.2.2 m∧Mat r n m:=by
 have n8:=h.n8
 have hN:=h.N
 obtain ⟨s,e,h1,m,h2,h3,h4,h5,DL,DR,h6,h7⟩:=cJ (body:=jL o (t,true)) (fun a s=>s.1=(a:Int)∧∃ m,RA s.2.2 m∧Mt r m∧(∀ z,cnt n m z≤1)∧(∀ z,a≤z→cnt n m z=0)∧∃ DL DR,Cls r m DL DR∧∀ z,z<a→cnt n m z=0→DL z) n (by omega)
  (fun a s ha ⟨hs,m,g1,g2,g3,g4,DL,DR,g5,g6⟩=>by
   obtain ⟨u,v,x⟩:=s
   simp only at hs g1
   subst hs
   obtain ⟨y,ey,hy⟩:=aCX h 10 a 0 x m g1 g2 ha (Nat.two_pow_pos n) (by omega)
   unfold jL
   simp only [aZ]
   rw [if_pos (by omega),show (0:Int)=((0:Nat):Int) from rfl,ey,bU,cE (by omega) (by omega)]
   refine ⟨_,rfl,by simp only;omega,?_⟩
   simp only
   rcases hy with ⟨f1,f2,S',f3,f4⟩ | ⟨f1,m1,f2,f3⟩
   ·refine ⟨m,by rw [f2];exact g1,g2,g3,fun z hz=>g4 z (by omega),fun z=>DL z∨z=a∨∃ b,S'.testBit b=true∧m b=z+1,fun b=>DR b∨S'.testBit b=true,⟨fun z b hz hr=>?_,fun b hb=>?_⟩,fun z hz hc=>?_⟩
    ·rcases hz with hz | rfl | ⟨c,c1,c2⟩
     ·exact .inl (g5.c1 z b hz hr)
     ·exact .inr (f4.nb b hr)
     ·refine .inr ((f4.cl c c1 (Nat.zero_testBit c)).2 b ?_)
      rw [c2];exact hr
    ·rcases hb with hb | hb
     ·exact ⟨(g5.c2 b hb).1,.inl (g5.c2 b hb).2⟩
     ·have:=(f4.cl b hb (Nat.zero_testBit b)).1
      exact ⟨this,.inr (.inr ⟨b,hb,by omega⟩)⟩
    ·by_cases e:z=a
     ·exact .inr (.inl e)
     ·exact .inl (g6 z (by omega) hc)
   ·refine ⟨m1,f2,f3.mt,fun z=>?_,fun z hz=>?_,DL,DR,⟨g5.c1,fun b hb=>?_⟩,fun z hz hc=>?_⟩
    ·rw [f3.ct]
     by_cases e:z=a
     ·rw [if_pos e,e,g4 a (Nat.le_refl _)];omega
     ·rw [if_neg e];exact g3 z
    ·rw [f3.ct,if_neg (by omega),g4 z (by omega)]
    ·rw [(f3.av DL DR g5).2 b hb];exact g5.c2 b hb
    ·have:=f3.ct z
     by_cases e:z=a
     ·rw [if_pos e] at this;omega
     ·rw [if_neg e] at this;exact g6 z (by omega) (by omega)) (fun s ⟨hs,_⟩=>by
   unfold jL
   simp only [aZ]
   rw [if_neg (by omega)]) (0,0,Ar.zero 8) ⟨rfl,fun _=>0,aNY,fun b hb=>absurd rfl hb,fun z=>by
    unfold cnt
    rw [eF (g:=fun _=>0) fun i _=>if_neg (show ¬(0:Nat)=z+1 by omega),rI];omega,fun z _=>by
    unfold cnt
    rw [eF (g:=fun _=>0) fun i _=>if_neg (show ¬(0:Nat)=z+1 by omega),rI],fun _=>False,fun _=>False,⟨fun _ _ g=>g.elim,fun _ g=>g.elim⟩,fun z hz=>absurd hz (Nat.not_lt_zero _)⟩
 exact ⟨s,m,e,h2,h3,h4,DL,DR,h6,h7⟩
def aHI (n:Nat) (m:Nat→Nat):Nat:=sm n fun b=>if m b=0 then 1 else 0
theorem aJC {n:Nat} {f g h:Nat→Nat} (e:∀ i,i<n→f i+g i=h i):sm n f+sm n g=sm n h:=by
 rw [← aE6];exact eF e
theorem aNH (h:OV o n t r) {m:Nat→Nat} (hm:Mat r n m):∃ s,s<2 ^ n∧(∀ a b,s.testBit a=true→s.testBit b=true→r a b=false)∧aHI n m≤pc n s:=by
 obtain ⟨DL,DR,hD,hU⟩:=hm.cov
 have dec:∀ P:Nat→Prop,∃ f:Nat→Bool,∀ x,f x=true↔P x:=fun P=>by
  classical
  exact ⟨fun x=>decide (P x),fun x=>decide_eq_true_iff⟩
 obtain ⟨dl,hdl⟩:=dec DL
 obtain ⟨dr,hdr⟩:=dec DR
 have build:∀ (f:Nat→Bool) (k:Nat),∃ s,s<2 ^ k∧∀ i,s.testBit i=(decide (i<k)&&f i):=fun f k=>by
  induction k with
  | zero=>exact ⟨0,by decide,fun i=>by simp⟩
  | succ k ih=>
   obtain ⟨s,s1,s2⟩:=ih
   cases e:f k
   ·refine ⟨s,Nat.lt_of_lt_of_le s1 (Nat.pow_le_pow_right (by omega) (by omega)),fun i=>?_⟩
    rw [s2]
    by_cases q:i=k
    ·subst q;rw [e,Bool.and_false,Bool.and_false]
    ·congr 1;rw [Bool.eq_iff_iff,decide_eq_true_eq,decide_eq_true_eq];omega
   ·have sk:s.testBit k=false:=by rw [s2,decide_eq_false (Nat.lt_irrefl k)];rfl
    refine ⟨s+2 ^ k,by rw [Nat.pow_succ];omega,fun i=>?_⟩
    rw [aF9 sk,s2]
    by_cases q:i=k
    ·subst q;rw [decide_eq_true rfl,decide_eq_true (Nat.lt_succ_self i),e,Bool.or_true];rfl
    ·rw [decide_eq_false q,Bool.or_false]
     congr 1;rw [Bool.eq_iff_iff,decide_eq_true_eq,decide_eq_true_eq];omega
 obtain ⟨s,s1,s2⟩:=build (fun i=>dl i && !dr i) n
 refine ⟨s,s1,fun a b ha hb=>Bool.eq_false_iff.2 fun q=>?_,?_⟩
 ·rw [s2,Bool.and_eq_true,Bool.and_eq_true] at ha hb
  have:=(hdr b).2 (hD.c1 a b ((hdl a).1 ha.2.1) q)
  rw [this] at hb
  exact absurd hb.2.2 (by decide)
 ·-- counting
  have mlt:∀ b,m b≠0→m b-1<n:=fun b hb=>(h.lt _ _ (hm.mt b hb)).1
  have each:∀ b (w:Nat→Nat),m b≠0→sm n (fun z=>w z * if m b=z+1 then 1 else 0)=w (m b-1):=fun b w hb=>by
   have:sm n (fun z=>w z * if m b=z+1 then 1 else 0)=sm n fun z=>if z=m b-1 then w (m b-1) else 0:=eF fun z _=>by
    by_cases e:m b=z+1
    ·rw [if_pos e,if_pos (by omega),Nat.mul_one,show m b-1=z by omega]
    ·rw [if_neg e,if_neg (by omega),Nat.mul_zero]
   rw [this]
   have ind:=aFw (b:=m b-1) (n:=n) (fun _=>0) (fun z=>if z=m b-1 then w (m b-1) else 0) (mlt b hb) fun i hi=>if_neg hi
   rw [rI] at ind
   simp only [if_pos trivial] at ind
   omega
  have zero:∀ b (w:Nat→Nat),m b=0→sm n (fun z=>w z * if m b=z+1 then 1 else 0)=0:=fun b w hb=>by
   rw [eF (g:=fun _=>0) fun z _=>by rw [hb,if_neg (by omega),Nat.mul_zero],rI]
  have swap:∀ w:Nat→Nat,sm n (fun z=>w z * cnt n m z)=sm n fun b=>if m b=0 then 0 else w (m b-1):=fun w=>by
   have e1:sm n (fun z=>w z * cnt n m z)=sm n fun z=>sm n fun b=>w z * if m b=z+1 then 1 else 0:=eF fun z _=>by
    unfold cnt
    have mul:∀ (k:Nat) (f:Nat→Nat) (c:Nat),c * sm k f=sm k fun i=>c * f i:=fun k f c=>by
     induction k with
     | zero=>rfl
     | succ k ih=>show c * (sm k f+f k)=sm k (fun i=>c * f i)+c * f k;rw [Nat.mul_add,ih]
    exact mul _ _ _
   rw [e1,aGK]
   refine eF fun b _=>?_
   by_cases e:m b=0
   ·rw [if_pos e,zero b w e]
   ·rw [if_neg e,each b w e]
  have a1:=swap fun _=>1
  have a2:=swap fun z=>(dl z).toNat
  have f1:aHI n m+sm n (fun b=>if m b=0 then 0 else 1)=n:=by
   have:=aJC (n:=n) (f:=fun b=>if m b=0 then 1 else 0) (g:=fun b=>if m b=0 then 0 else 1) (h:=fun _=>1) fun i _=>by split<;>rfl
   rw [aHv] at this
   exact this
  have f2:sm n (fun z=>(dl z).toNat * cnt n m z)+sm n (fun z=>(!dl z).toNat)=sm n fun z=>1 * cnt n m z:=by
   refine aJC fun z hz=>?_
   cases e:dl z
   ·have:cnt n m z≠0:=fun q=>by have:=(hdl z).2 (hU z hz q);rw [e] at this;cases this
    have:=hm.one z
    simp;omega
   ·simp
  have f3:sm n (fun z=>(dl z).toNat)+sm n (fun z=>(!dl z).toNat)=n:=by
   have:=aJC (n:=n) (f:=fun z=>(dl z).toNat) (g:=fun z=>(!dl z).toNat) (h:=fun _=>1) fun i _=>by cases dl i<;>rfl
   rw [aHv] at this;exact this
  have f4:sm n (fun b=>(dr b).toNat)≤sm n fun b=>if m b=0 then 0 else (dl (m b-1)).toNat:=aDD fun b _=>by
   cases e:dr b
   ·exact Nat.zero_le _
   ·obtain ⟨g1,g2⟩:=hD.c2 b ((hdr b).1 e)
    rw [if_neg g1,(hdl _).2 g2];exact Nat.le_refl _
  have f5:sm n (fun z=>(dl z).toNat)≤pc n s+sm n fun b=>(dr b).toNat:=by
   unfold pc
   rw [← aE6]
   refine aDD fun z hz=>?_
   rw [s2,decide_eq_true hz]
   cases dl z<;>cases dr z<;>simp
  omega
end
theorem aME:∀ {n a b:Nat} (f:Nat→Nat),a<n→b<n→a≠b→f a+f b≤sm n f
 | n+1,a,b,f,ha,hb,hne=>by
  show f a+f b≤sm n f+f n
  have one:∀ {n x:Nat},x<n→f x≤sm n f:=fun {n x} hx=>by
   have:=aFw (b:=x) (n:=n) (fun i=>if i=x then 0 else f i) f hx fun i hi=>(if_neg hi).symm
   simp only [if_pos trivial] at this
   omega
  by_cases e1:a=n
  ·subst e1
   have:=one (n:=a) (x:=b) (by omega);omega
  ·by_cases e2:b=n
   ·subst e2
    have:=one (n:=b) (x:=a) (by omega);omega
   ·have:=aME (n:=n) f (by omega) (by omega) hne;omega
theorem aM9 {n:Nat} (p:Nat→Bool):∀ (F:List Nat),F.Nodup→(∀ x,x∈F→x<n)→F.countP p=sm n fun x=>(decide (x∈F)&&p x).toNat
 | [],_,_=>by
  rw [eF (g:=fun _=>0) fun i _=>by simp,rI];rfl
 | a::F,hd,hl=>by
  obtain ⟨h1,h2⟩:=List.nodup_cons.1 hd
  have ih:=aM9 p F h2 fun x hx=>hl x (List.mem_cons_of_mem _ hx)
  have:=aFw (b:=a) (n:=n) (fun x=>(decide (x∈F)&&p x).toNat) (fun x=>(decide (x∈a::F)&&p x).toNat) (hl a (List.mem_cons_self ..)) fun i hi=>by
   have:decide (i∈a::F)=decide (i∈F):=by rw [Bool.eq_iff_iff,decide_eq_true_eq,decide_eq_true_eq,List.mem_cons];exact ⟨fun q=>q.resolve_left hi,.inr⟩
   rw [this]
  rw [List.countP_cons,ih]
  rw [decide_eq_false h1,decide_eq_true (List.mem_cons_self ..)] at this
  simp only [Bool.false_and,Bool.true_and,Bool.toNat_false,Nat.add_zero] at this
  rw [this]
  cases p a<;>simp
def kF (C:List (List Nat)):List (List Int):=C.map dO
theorem sB {C:List (List Nat)} {k:Nat} (h:k<C.length):(kF C).getD k default=dO (C.getD k default):=by
 rw [dN (by unfold kF;rw [List.length_map];exact h),dN h];simp [kF]
theorem dT (C:List (List Nat)):(kF C).length=C.length:=List.length_map _
structure aNp (r:Nat→Nat→Bool) (n:Nat) (C:List (List Nat)):Prop where
 ne:∀ c,c∈C→c≠[]
 ch:∀ c,c∈C→c.Pairwise fun x y=>r x y=true
 nd:C.flatten.Nodup
 al:∀ x,x∈C.flatten↔x<n
theorem aG5 {C:List (List Nat)} {k:Nat} (hk:k<C.length) (x:Nat):(C.set k (C.getD k default++[x])).flatten.Perm (C.flatten++[x]):=by
 have e1:C=C.take k++C.getD k default::C.drop (k+1):=by
  rw [dN hk,← List.drop_eq_getElem_cons hk,List.take_append_drop]
 have e2:C.set k (C.getD k default++[x])=C.take k++(C.getD k default++[x])::C.drop (k+1):=by
  rw [List.set_eq_take_append_cons_drop,if_pos hk]
 rw [e2]
 conv=>rhs;rw [e1]
 rw [List.flatten_append,List.flatten_cons,List.flatten_append,List.flatten_cons,List.append_assoc,List.append_assoc]
 refine List.Perm.append_left _ ?_
 rw [List.append_assoc]
 refine List.Perm.append_left _ ?_
 exact List.perm_append_comm
theorem aPT {C:List (List Nat)} {f:List Nat→Nat} (h:∀ c,c∈C→f c≤1):(C.map f).sum≤C.length:=by
 induction C with
 | nil=>exact Nat.le_refl _
 | cons c C ih=>
  rw [List.map_cons,List.sum_cons,List.length_cons]
  have:=h c (List.mem_cons_self ..)
  have:=ih fun d hd=>h d (List.mem_cons_of_mem _ hd)
  omega
theorem aL1 {r:Nat→Nat→Bool} {n:Nat} {C:List (List Nat)} (h:aNp r n C) {s:Nat} (hs:∀ a b,s.testBit a=true→s.testBit b=true→r a b=false):pc n s≤C.length:=by
 have e:=aM9 (n:=n) (fun x=>s.testBit x) C.flatten h.nd fun x hx=>(h.al x).1 hx
 have e2:(sm n fun x=>(decide (x∈C.flatten)&&s.testBit x).toNat)=pc n s:=eF fun x hx=>by rw [decide_eq_true ((h.al x).2 hx),Bool.true_and]
 rw [e2,List.countP_flatten] at e
 rw [← e]
 refine aPT fun c hc=>?_
 have hp:=h.ch c hc
 clear e e2 hc
 induction c with
 | nil=>exact Nat.zero_le _
 | cons a c ih=>
  obtain ⟨h1,h2⟩:=List.pairwise_cons.1 hp
  rw [List.countP_cons]
  cases ea:s.testBit a
  ·have:=ih h2;simpa using this
  ·have z:c.countP (fun x=>s.testBit x)=0:=List.countP_eq_zero.2 fun b hb q=>by
    have:=hs a b ea q
    rw [h1 b hb] at this;cases this
   rw [z];simp
theorem aIY {C:List (List Nat)} (h:∀ c,c∈C→c≠[]):C.length≤C.flatten.length:=by
 induction C with
 | nil=>exact Nat.le_refl _
 | cons c C ih=>
  rw [List.flatten_cons,List.length_append,List.length_cons]
  have:=List.length_pos_iff.2 (h c (List.mem_cons_self ..))
  have:=ih fun d hd=>h d (List.mem_cons_of_mem _ hd)
  omega
section
variable {o:aE} {n:Nat} {t:Ar 8} {r:Nat→Nat→Bool}
theorem aLB {l:List Nat} (h:Ln n r l):l.Nodup:=(aED _ rfl h).imp fun q=>q.1
structure Bld (r:Nat→Nat→Bool) (m:Nat→Nat) (l:List Nat) (place:GM Int) (C:List (List Nat)):Prop where
 ne:∀ c,c∈C→c≠[]
 ch:∀ c,c∈C→c.Pairwise fun x y=>r x y=true
 pm:C.flatten.Perm l
 ct:C.length=l.countP fun x=>m x==0
 pl:∀ y,y∈l→place.has (y:Int)=true∧∃ k:Nat,place.get (y:Int) 0=(k:Int)∧k<C.length∧y∈C.getD k default∧((∀ z,z∈l→m z≠y+1)→∃ w,C.getD k default=w++[y])
 no:place.has (-1)=false
theorem aLJ (h:OV o n t r):∃ C m,fJ o=some (kF C,0)∧aNp r n C∧Mat r n m∧C.length=aHI n m:=by
 have n8:=h.n8
 have hN:=h.N
 obtain ⟨ls,el,l1,l2,_⟩:=aGj h
 obtain ⟨sc,m,ec,hra,hM⟩:=aKT h
 have lnd:=aLB l1
 obtain ⟨s,e,h1,C,h2,hB⟩:=cJ (body:=lT sc.2.2 (dO ls)) (fun i s=>s.1=(i:Int)∧∃ C,s.2.2=kF C∧Bld r m (ls.take i) s.2.1 C) ls.length (by omega)
  (fun i s hi ⟨hs,C,hC,hB⟩=>by
   obtain ⟨u,place,out⟩:=s
   simp only at hs hC hB
   subst hs hC
   obtain ⟨q1,q2,q3⟩:=aGs l1 hi
   have hts:=gW hi
   generalize hx:ls.getD i default=x at q2 q3 hts
   have xno:x ∉ ls.take i:=by
    have:=q3.1
    rwa [nP q1,decide_eq_false_iff_not] at this
   have Clen:C.length≤i:=by
    rw [hB.ct]
    have:=List.countP_le_length (p:=fun x=>m x==0) (l:=ls.take i)
    rw [List.length_take] at this;omega
   have klt:∀ c,c∈C→c.length≤n:=fun c hc=>by
    have:c.length≤C.flatten.length:=(List.sublist_flatten_of_mem hc).length_le
    rw [hB.pm.length_eq,List.length_take] at this;omega
   have hmx:m x≤8:=by
    by_cases z:m x=0
    ·omega
    ·have:=(h.lt _ _ (hM.mt x z)).1;omega
   unfold lT
   simp only [aZ,aX]
   rw [if_pos (by omega),sV (by rw [aX];exact hi),cQ hi,hx,dC _ (by omega),hra x (by omega),cE (by omega) (by omega)]
   by_cases cm:m x=0
   ·rw [cm,show ((0:Nat):Int)-1 = -1 from rfl,hB.no,Bool.not_false,mH,dT,dC _ (by omega)]
    unfold lP
    have e0:(kF C++[[]]).length=C.length+1:=by rw [List.length_append,dT];rfl
    have e1:(kF C++[[]]).getD (C.length:Int).toNat default=[]:=by
     rw [Int.toNat_natCast,← dT C];simp [List.getD_eq_getElem?_getD]
    rw [e0,dC _ (by omega),dC _ (by omega),e1,aCe (by simp only [List.length_nil,List.length_cons];omega),cE (by omega) (by omega)]
    have e2:(kF C++[[]]).set (C.length:Int).toNat ([]++[(x:Int)])=kF (C++[[x]]):=by
     rw [Int.toNat_natCast,← dT C,List.set_append_right _ _ (Nat.le_refl _),Nat.sub_self]
     unfold kF;rw [List.map_append];rfl
    rw [e2]
    refine ⟨_,rfl,by simp only;omega,C++[[x]],rfl,?_⟩
    have gold:∀ k,k<C.length→(C++[[x]]).getD k default=C.getD k default:=fun k hk=>by
     rw [List.getD_eq_getElem?_getD,List.getElem?_append_left hk,List.getD_eq_getElem?_getD]
    rw [hts]
    refine ⟨fun c hc=>?_,fun c hc=>?_,?_,?_,fun y hy=>?_,?_⟩
    ·rcases List.mem_append.1 hc with hc | hc
     ·exact hB.ne c hc
     ·rw [List.mem_singleton.1 hc];simp
    ·rcases List.mem_append.1 hc with hc | hc
     ·exact hB.ch c hc
     ·rw [List.mem_singleton.1 hc];exact List.pairwise_singleton _ _
    ·rw [List.flatten_append];exact hB.pm.append_right _
    ·rw [List.length_append,List.countP_append,hB.ct,List.countP_cons,cm];rfl
    ·rcases List.mem_append.1 hy with hy | hy
     ·have hne:(y:Int)≠(x:Int):=fun q=>xno (by rw [← show y=x by omega];exact hy)
      obtain ⟨p1,k,p2,p3,p4,p5⟩:=hB.pl y hy
      refine ⟨by rw [GM.has_put_ne hne];exact p1,k,by rw [GM.get_put_ne hne];exact p2,by rw [List.length_append];omega,by rw [gold k p3];exact p4,fun g=>?_⟩
      rw [gold k p3];exact p5 fun z hz=>g z (List.mem_append_left _ hz)
     ·rw [List.mem_singleton.1 hy]
      refine ⟨GM.has_put,C.length,GM.get_put,by rw [List.length_append];simp,?_,fun _=>⟨[],?_⟩⟩
      ·simp [List.getD_eq_getElem?_getD]
      ·simp [List.getD_eq_getElem?_getD]
    ·rw [GM.has_put_ne (by omega)];exact hB.no
   ·have hxy:=hM.mt x cm
    generalize hy:m x-1=y at hxy
    have my:m x=y+1:=by omega
    have yin:y∈ls.take i:=by
     have:=q3.2 y hxy
     rwa [nP q1,decide_eq_true_eq] at this
    obtain ⟨p1,k,p2,p3,p4,p5⟩:=hB.pl y yin
    have uniq:∀ z,z∈ls.take i→m z≠y+1:=fun z hz q=>by
     have hzx:z≠x:=fun e=>xno (e ▸ hz)
     have:=aME (n:=n) (fun b=>if m b=y+1 then 1 else 0) (aGI q1 z hz) q2 hzx
     rw [if_pos q,if_pos my] at this
     have:=hM.one y
     unfold cnt at this;omega
    obtain ⟨w,hw⟩:=p5 uniq
    have cin:C.getD k default∈C:=bZ p3
    have ek:((k:Int)).toNat=k:=Int.toNat_natCast k
    rw [my,show ((y+1:Nat):Int)-1=(y:Int) by omega,p1,Bool.not_true,mK,p2]
    unfold lP
    rw [dT,dC _ (by omega),dC _ (by omega),ek,sB p3,aCe (by rw [aX];have:=klt _ cin;simp only [List.length_cons,List.length_nil];omega),cE (by omega) (by omega)]
    have e2:(kF C).set k (dO (C.getD k default)++[(x:Int)])=kF (C.set k (C.getD k default++[x])):=by
     unfold kF;rw [List.map_set,oW];rfl
    rw [e2]
    refine ⟨_,rfl,by simp only;omega,_,rfl,?_⟩
    have upx:∀ v,v∈C.getD k default→r v x=true:=fun v hv=>by
     have hp:=hB.ch _ cin
     rw [hw] at hv hp
     rcases List.mem_append.1 hv with hv | hv
     ·exact h.tr _ _ _ ((List.pairwise_append.1 hp).2.2 v hv y (List.mem_singleton.2 rfl)) hxy
     ·rw [List.mem_singleton.1 hv];exact hxy
    rw [hts]
    refine ⟨fun c hc=>?_,fun c hc=>?_,?_,?_,fun y' hy'=>?_,?_⟩
    ·rcases List.mem_or_eq_of_mem_set hc with hc | rfl
     ·exact hB.ne c hc
     ·simp
    ·rcases List.mem_or_eq_of_mem_set hc with hc | rfl
     ·exact hB.ch c hc
     ·refine List.pairwise_append.2 ⟨hB.ch _ cin,List.pairwise_singleton _ _,fun v hv z hz=>?_⟩
      rw [List.mem_singleton.1 hz];exact upx v hv
    ·exact (aG5 p3 x).trans (hB.pm.append_right _)
    ·rw [List.length_set,List.countP_append,hB.ct,List.countP_cons,show (m x==0)=false from beq_false_of_ne cm];rfl
    ·rcases List.mem_append.1 hy' with hy' | hy'
     ·have hne:(y':Int)≠(x:Int):=fun q=>xno (by rw [← show y'=x by omega];exact hy')
      obtain ⟨s1,k',s2,s3,s4,s5⟩:=hB.pl y' hy'
      refine ⟨by rw [GM.has_put_ne hne];exact s1,k',by rw [GM.get_put_ne hne];exact s2,by rw [List.length_set];exact s3,?_,fun g=>?_⟩
      ·rw [wJ p3]
       by_cases e:k'=k
       ·subst e;rw [if_pos rfl];exact List.mem_append_left _ s4
       ·rw [if_neg e];exact s4
      ·obtain ⟨w',hw'⟩:=s5 fun z hz=>g z (List.mem_append_left _ hz)
       have yy:y'≠y:=fun e=>g x (List.mem_append_right _ (List.mem_singleton.2 rfl)) (by rw [e];exact my)
       rw [wJ p3]
       by_cases e:k'=k
       ·subst e
        rw [hw] at hw'
        have:=(List.append_inj' hw' rfl).2
        exact absurd (by simpa using this.symm) yy
       ·rw [if_neg e];exact ⟨w',hw'⟩
     ·rw [List.mem_singleton.1 hy']
      refine ⟨GM.has_put,k,GM.get_put,by rw [List.length_set];exact p3,?_,fun _=>⟨C.getD k default,?_⟩⟩
      ·rw [wJ p3,if_pos rfl];exact List.mem_append_right _ (List.mem_singleton.2 rfl)
      ·rw [wJ p3,if_pos rfl]
    ·rw [GM.has_put_ne (by omega)];exact hB.no) (fun s ⟨hs,_⟩=>by
   unfold lT
   simp only [aZ,aX]
   rw [if_neg (by omega)]) (0,GM.mt Int,[]) ⟨rfl,[],rfl,⟨fun c hc=>(by cases hc),fun c hc=>(by cases hc),List.Perm.nil,rfl,fun y hy=>(by rw [List.take_zero] at hy;cases hy),GM.has_mt⟩⟩
 rw [List.take_length] at hB
 have all:∀ x,x∈C.flatten↔x<n:=fun x=>by
  rw [hB.pm.mem_iff]
  exact ⟨aGI l1 x,aBj l1 l2⟩
 have ct:C.length=aHI n m:=by
  rw [hB.ct,aM9 (n:=n) _ ls lnd (aGI l1)]
  refine eF fun x hx=>?_
  rw [decide_eq_true (aBj l1 l2 hx),Bool.true_and]
  by_cases e:m x=0
  ·rw [e,if_pos rfl];rfl
  ·rw [show (m x==0)=false from beq_false_of_ne e,if_neg e];rfl
 have cl:C.length≤8:=by
  have:=aIY hB.ne
  rw [hB.pm.length_eq] at this;omega
 unfold fJ
 rw [h.rd,bU,cT,mH,ec,bU,dK,hN]
 simp only
 rw [el,bU,e,bU,dK,h2,dC _ (by rw [dT];exact cl)]
 exact ⟨C,m,rfl,⟨hB.ne,hB.ch,(hB.pm.nodup_iff).2 lnd,all⟩,hM,ct⟩
theorem aLh (h:bS o=some (t,false)):fJ o=some ([],70):=by
 unfold fJ
 rw [h,bU,cT,mK]
end
def eK (s:Nat):List Nat:=(List.range 8).filter fun x=>s.testBit x
theorem aHU:((List.range 256).all fun s=>decide (mB (s:Int)=some (dO (eK s))))=true:=by kernel_rfl
theorem aJx {s:Nat} (h:s<256):mB (s:Int)=some (dO (eK s)):=by
 have:=List.all_eq_true.1 aHU s (List.mem_range.2 h)
 exact of_decide_eq_true this
def aE5:List Nat→List Nat→Bool
 | a::l,b::m=>if a=b then aE5 l m else decide (a<b)
 | _,_=>false
def btr (l best:List Nat):Bool:=decide (best.length<l.length)||(decide (l.length=best.length)&&aE5 l best)
theorem aFJ {l m:List Nat} {k:Nat} (h1:k<l.length) (h2:k<m.length):aE5 (l.drop k) (m.drop k)=if l.getD k default=m.getD k default then aE5 (l.drop (k+1)) (m.drop (k+1)) else decide (l.getD k default<m.getD k default):=by
 rw [List.drop_eq_getElem_cons h1,List.drop_eq_getElem_cons h2,dN h1,dN h2];rfl
theorem aJS (a b:Nat):fR (a:Int) (b:Int)=some (if a<b then -1 else if b<a then 1 else 0):=by
 unfold fR kD
 rw [bU,bU,show ((a:Int) != (a:Int))=false by simp,show ((b:Int) != (b:Int))=false by simp,mK,mK,aZ,aZ]
 by_cases c:a<b
 ·rw [if_pos (by omega),if_pos c]
 ·rw [if_neg (by omega),if_neg c]
  by_cases d:b<a
  ·rw [if_pos (by omega),if_pos d]
  ·rw [if_neg (by omega),if_neg d]
theorem aIt (l m:List Nat) (he:l.length=m.length) (hl:l.length≤1000):∃ v,cW (dO l) (dO m)=some v∧(v<0↔aE5 l m=true):=by
 obtain ⟨y,e,hy⟩:=lC (body:=dU (dO l) (dO m)) (fun s=>∃ k:Nat,s=(k:Int)∧k≤l.length∧aE5 l m=aE5 (l.drop k) (m.drop k)) (fun s=>l.length-s.toNat)
  (fun y=>match y with | .inl _=>aE5 l m=false | .inr v=>(v<0↔aE5 l m=true))
  (fun s ⟨k,hs,hk,hq⟩=>by
   subst hs
   unfold dU
   simp only [aZ,aX]
   by_cases c:k<l.length
   ·rw [if_pos (by omega),sV (by rw [aX];exact c),cQ c,if_neg (by omega),sV (by rw [aX];omega),cQ (by omega),aJS,bU,vC]
    rw [aFJ c (by omega)] at hq
    by_cases c1:l.getD k default<m.getD k default
    ·rw [if_pos c1,if_neg (by omega)]
     rw [if_neg (by omega),decide_eq_true c1] at hq
     exact .inr (.inr ⟨_,rfl,by rw [hq];decide⟩)
    ·by_cases c2:m.getD k default<l.getD k default
     ·rw [if_neg c1,if_pos c2,if_neg (by omega)]
      rw [if_neg (by omega),decide_eq_false c1] at hq
      exact .inr (.inr ⟨_,rfl,by rw [hq];decide⟩)
     ·rw [if_neg c1,if_neg c2,if_pos rfl,cE (by omega) (by omega)]
      rw [if_pos (by omega)] at hq
      exact .inl ⟨_,rfl,⟨k+1,by omega,c,hq⟩,by omega⟩
   ·rw [if_neg (by omega)]
    refine .inr (.inl ⟨_,rfl,?_⟩)
    rw [hq,List.drop_of_length_le (by omega)];rfl) 0 ⟨0,rfl,Nat.zero_le _,rfl⟩ (by omega)
 unfold cW
 rw [e,bU]
 cases y with
 | inl s=>
  have hy:aE5 l m=false:=hy
  rw [dK,aZ,aX,aX,if_neg (by omega)]
  exact ⟨_,rfl,by rw [hy];decide⟩
 | inr v=>rw [sZ];exact ⟨_,rfl,hy⟩
theorem aGz (l m:List Nat) (hl:l.length≤1000):∃ v,cW (dO l) (dO m)=some v:=by
 obtain ⟨y,e,_⟩:=lC (body:=dU (dO l) (dO m)) (fun s=>∃ k:Nat,s=(k:Int)∧k≤l.length) (fun s=>l.length-s.toNat) (fun _=>True)
  (fun s ⟨k,hs,hk⟩=>by
   subst hs
   unfold dU
   simp only [aZ,aX]
   by_cases c:k<l.length
   ·rw [if_pos (by omega),sV (by rw [aX];exact c),cQ c]
    by_cases d:k<m.length
    ·rw [if_neg (by omega),sV (by rw [aX];omega),cQ (by omega),aJS,bU,vC]
     generalize (if l.getD k default<m.getD k default then (-1:Int) else if m.getD k default<l.getD k default then 1 else 0)=w
     by_cases ww:w=0
     ·rw [if_pos ww]
      rw [cE (by omega) (by omega)]
      exact .inl ⟨_,rfl,⟨k+1,rfl,c⟩,by omega⟩
     ·rw [if_neg ww]
      exact .inr (.inr ⟨_,rfl,trivial⟩)
    ·rw [if_pos (by omega)]
     exact .inr (.inr ⟨_,rfl,trivial⟩)
   ·rw [if_neg (by omega)]
    exact .inr (.inl ⟨_,rfl,trivial⟩)) 0 ⟨0,rfl,Nat.zero_le _⟩ (by omega)
 unfold cW
 rw [e,bU]
 cases y with
 | inl s=>
  rw [dK,aZ]
  split<;>exact ⟨_,rfl⟩
 | inr v=>rw [sZ];exact ⟨_,rfl⟩
theorem aQW (a b:Int):oP [a,b]=some (if a=0 then b else a):=by
 have step:∀ (n:Nat) (s:Int),lp (eX [a,b]) (n+1) s=bd (eX [a,b] s) fun c=>ctK c (lp (eX [a,b]) n) (fun s=>some (.inl s)) fun r=>some (.inr r):=fun n s=>rfl
 unfold oP
 rw [show FU=18446744073709551613+1+1+1 by rw [aI7],step]
 have b0:eX [a,b] 0=some (if a=0 then .nx 1 else .rt a):=by
  unfold eX
  rw [aZ,if_pos (by simp),aSr (by decide) (by simp),vC]
  show (if a=0 then some (Ct.nx (wr (0+1))) else some (Ct.rt a))=_
  rw [cE (by omega) (by omega)]
  split<;>rfl
 have b1:eX [a,b] 1=some (if b=0 then .nx 2 else .rt b):=by
  unfold eX
  rw [aZ,if_pos (by simp),aSr (by decide) (by simp),vC]
  show (if b=0 then some (Ct.nx (wr (1+1))) else some (Ct.rt b))=_
  rw [cE (by omega) (by omega)]
  split<;>rfl
 have b2:eX [a,b] 2=some (.bk 2):=by
  unfold eX
  rw [aZ,if_neg (by simp)]
 rw [b0,bU]
 by_cases c:a=0
 ·rw [if_pos c,if_pos c,aLH,step,b1,bU]
  by_cases d:b=0
  ·rw [if_pos d,aLH,step,b2,bU,aNj,bU,dK,d]
  ·rw [if_neg d,aMY,bU,sZ]
 ·rw [if_neg c,if_neg c,aMY,bU,sZ]
def aMf (n:Nat) (r:Nat→Nat→Bool) (s:Nat):Bool:=(List.range n).all fun b => !s.testBit b||(List.range n).all fun a => !(s.testBit a&&r a b)
def Ant (r:Nat→Nat→Bool) (s:Nat):Prop:=∀ a b,s.testBit a=true→s.testBit b=true→r a b=false
theorem aHF {n:Nat} {r:Nat→Nat→Bool} (lt:∀ a b,r a b=true→a<n∧b<n) {s:Nat}:aMf n r s=true↔Ant r s:=by
 unfold aMf Ant
 simp only [List.all_eq_true,List.mem_range,Bool.or_eq_true,Bool.not_eq_true']
 constructor
 ·intro h a b ha hb
  cases hr:r a b
  ·rfl
  ·obtain ⟨h1,h2⟩:=lt a b hr
   rcases h b h2 with g | g
   ·rw [hb] at g;cases g
   ·have:=g a h1
    rw [ha,hr] at this;cases this
 ·intro h b _
  cases hb:s.testBit b
  ·exact .inl rfl
  ·refine .inr fun a _=>?_
   cases ha:s.testBit a
   ·rfl
   ·rw [h a b ha hb];rfl
def aAP (n:Nat) (r:Nat→Nat→Bool) (k:Nat):List Nat:=(List.range k).foldl (fun best s=>if (aMf n r s&&btr (eK s) best)=true then eK s else best) []
theorem aHP (n:Nat) (r:Nat→Nat→Bool) (k:Nat):aAP n r (k+1)=if (aMf n r k&&btr (eK k) (aAP n r k))=true then eK k else aAP n r k:=by
 unfold aAP
 rw [List.range_succ,List.foldl_append];rfl
theorem aAh (s:Nat):(eK s).length≤8:=by
 have:=List.length_filter_le (fun x=>s.testBit x) (List.range 8)
 rwa [List.length_range] at this
theorem aAW (n:Nat) (r:Nat→Nat→Bool):∀ k,(aAP n r k).length≤8
 | 0=>Nat.zero_le _
 | k+1=>by
  rw [aHP]
  split
  ·exact aAh k
  ·exact aAW n r k
section
variable {o:aE} {n:Nat} {t:Ar 8} {r:Nat→Nat→Bool}
theorem aFE (h:OV o n t r):dI o=some (dO (aAP n r (2 ^ n)),0):=by
 have n8:=h.n8
 have hN:=h.N
 have p8:=fO n8
 obtain ⟨s,e,h1,h2⟩:=cJ (body:=gP o (t,true)) (fun p s=>s.2=(p:Int)∧s.1=dO (aAP n r p)) (2 ^ n) (by omega)
  (fun p s hp ⟨hs,hq⟩=>by
   obtain ⟨u,v⟩:=s
   simp only at hs hq
   subst hs hq
   have bl:=aAh p
   have sl:=aAW n r p
   obtain ⟨s,e,_,q,q1,q2,q3⟩:=cJ (body:=gN (t,true) (dO (eK p))) (fun k s=>s.2=(k:Int)∧∃ q:Nat,s.1=(q:Int)∧q<256∧∀ a,q.testBit a=((eK p).take k).any fun x=>r a x) (eK p).length (by omega)
    (fun k s hk ⟨hs,q,h2,h3,h4⟩=>by
     obtain ⟨i,j⟩:=s
     simp only at hs h2
     subst hs h2
     have hb8:(eK p).getD k default<8:=List.mem_range.1 (List.mem_filter.1 (bZ hk)).1
     obtain ⟨z,z1,z2,z3⟩:=h.tb ((eK p).getD k default) hb8
     unfold gN
     simp only [aZ,aX]
     rw [if_pos (by omega),sV (by rw [aX];exact hk),cQ hk,dC _ (by omega),z1,aNl (by omega) (by omega),cE (by omega) (by omega)]
     refine ⟨_,rfl,by simp only;omega,q|||z,rfl,Nat.or_lt_two_pow (n:=8) h3 z2,fun a=>?_⟩
     rw [Nat.testBit_or,h4,z3,gW hk,List.any_append];simp) (fun s ⟨hs,_⟩=>by
     unfold gN
     simp only [aZ,aX]
     rw [if_neg (by omega)]) (0,0) ⟨rfl,0,rfl,by omega,fun a=>by simp⟩
   rw [List.take_length] at q3
   have key:(((q&&&p:Nat):Int)==0)=aMf n r p:=by
    rw [Bool.eq_iff_iff,beq_iff_eq,aHF h.lt,show (((q&&&p:Nat):Int)=0↔q&&&p=0) by omega]
    constructor
    ·intro g a b ha hb
     cases hr:r a b
     ·rfl
     ·exfalso
      have:(q&&&p).testBit a=true:=by
       rw [Nat.testBit_and,ha,Bool.and_true,q3,List.any_eq_true]
       exact ⟨b,List.mem_filter.2 ⟨List.mem_range.2 (by have:=(h.lt a b hr).2;omega),hb⟩,hr⟩
      rw [g,Nat.zero_testBit] at this;cases this
    ·intro g
     refine xQ fun i=>?_
     rw [Nat.testBit_and,Nat.zero_testBit]
     cases hi:p.testBit i
     ·rw [Bool.and_false]
     ·rw [Bool.and_true,q3,List.any_eq_false]
      intro x hx
      rw [g i x hi (List.mem_filter.1 hx).2];decide
   unfold gP
   simp only [aZ,rC]
   rw [hN,aEo (by omega),if_pos (by omega),aJx (by omega),bU,e,bU,dK,q1,aQh (by omega) (by omega),key,iL,cE (by omega) (by omega),aX,aX,aJS,bU]
   have fin:∀ (Q:Prop) [Decidable Q],(Q↔(aMf n r p&&btr (eK p) (aAP n r p))=true)→∃ s',(if Q then some (.nx (dO (eK p),(p:Int)+1)) else some (.nx (dO (aAP n r p),(p:Int)+1)):Option (Ct ((List Int)×Int) ((List Int)×Int)))=some (.nx s')∧s'.2=((p+1:Nat):Int)∧s'.1=dO (aAP n r (p+1)):=fun Q _ hc=>by
    rw [aHP]
    by_cases z:Q
    ·rw [if_pos z,if_pos (hc.1 z)];exact ⟨_,rfl,by simp only;omega,rfl⟩
    ·rw [if_neg z,if_neg fun q=>z (hc.2 q)];exact ⟨_,rfl,by simp only;omega,rfl⟩
   by_cases c:aMf n r p=true
   ·rw [if_pos c]
    by_cases c1:(aAP n r p).length=(eK p).length
    ·obtain ⟨v,ev,hv⟩:=aIt (eK p) (aAP n r p) c1.symm (by omega)
     rw [ev,bU,aAy,aQW,bU,if_neg (show ¬(aAP n r p).length<(eK p).length by omega),if_neg (show ¬(eK p).length<(aAP n r p).length by omega),if_pos rfl]
     refine fin _ ?_
     unfold btr
     rw [c,decide_eq_false (show ¬(aAP n r p).length<(eK p).length by omega),decide_eq_true c1.symm,Bool.true_and,Bool.false_or,Bool.true_and,hv]
    ·have any:∃ v,cW (dO (eK p)) (dO (aAP n r p))=some v:=aGz _ _ (by omega)
     obtain ⟨v,ev⟩:=any
     rw [ev,bU,aAy,aQW,bU]
     refine fin _ ?_
     unfold btr
     rw [c,decide_eq_false (show ¬(eK p).length=(aAP n r p).length by omega),Bool.true_and,Bool.false_and,Bool.or_false,decide_eq_true_eq]
     by_cases c2:(aAP n r p).length<(eK p).length
     ·rw [if_pos c2,if_neg (by omega)];omega
     ·rw [if_neg c2,if_pos (show (eK p).length<(aAP n r p).length by omega),if_neg (by omega)];omega
   ·rw [if_neg c,mK,aHP,Bool.eq_false_iff.2 c,Bool.false_and,if_neg (by decide)]
    exact ⟨_,rfl,by simp only;omega,rfl⟩) (fun s ⟨hs,_⟩=>by
   unfold gP
   simp only [aZ]
   rw [hN,aEo (by omega),if_neg (by omega)]) ([],0) ⟨rfl,rfl⟩
 unfold dI
 rw [h.rd,bU,cT,mH,hN,dC _ (by omega),e,bU,dK,h2]
theorem aF1 (h:bS o=some (t,false)):dI o=some ([],70):=by
 unfold dI
 rw [h,bU,cT,mK]
end
theorem uC:∀ {l m:List Nat},l.Nodup→(∀ x,x∈l→x∈m)→l.length≤m.length
 | [],_,_,_=>Nat.zero_le _
 | x::l,m,hd,hs=>by
  obtain ⟨h1,h2⟩:=List.nodup_cons.1 hd
  have hx:=hs x (List.mem_cons_self ..)
  have:=uC (m:=m.erase x) h2 fun y hy=>(List.mem_erase_of_ne (fun (e:y=x)=>h1 (e ▸ hy))).2 (hs y (List.mem_cons_of_mem _ hy))
  rw [List.length_erase_of_mem hx] at this
  have:=List.length_pos_of_mem hx
  rw [List.length_cons];omega
def Ed (P:List (Int×Int)) (a b:Nat):Prop:=((a:Int),(b:Int))∈P
instance (P:List (Int×Int)) (a b:Nat):Decidable (Ed P a b):=by unfold Ed;infer_instance
structure Pth (P:List (Int×Int)) (n:Nat) (p:List Nat):Prop where
 lt:∀ x,x∈p→x<n
 nd:p.Nodup
 st:∀ i,i+1<p.length→Ed P (p.getD i default) (p.getD (i+1) default)
structure wQ (P:List (Int×Int)) (n len:Nat) (c:List Nat):Prop where
 pt:Pth P n c
 ln:c.length=len
 ps:0<len
 cl:Ed P (c.getD (len-1) default) (c.getD 0 default)
def Px (p c:List Nat):Prop:=c.take p.length=p
def aKg (c d:List Nat):Prop:=∀ i,i<c.length→(∀ j,j<i→c.getD j default=d.getD j default)→c.getD i default≤d.getD i default
section
variable {P:List (Int×Int)} {n len:Nat}
theorem wQ.le {c:List Nat} (h:wQ P n len c):len≤n:=by
 have:=uC (m:=List.range n) h.pt.nd fun x hx=>List.mem_range.2 (h.pt.lt x hx)
 rwa [List.length_range,h.ln] at this
theorem zM {p c:List Nat} (h:wQ P n len c) (hp:Px p c) (hl:p.length<len):Px (p++[c.getD p.length default]) c:=by
 unfold Px at hp ⊢
 rw [List.length_append,List.length_cons,List.length_nil,gW (by rw [h.ln];exact hl),hp]
theorem xG {p c:List Nat} (hp:Px p c) {i:Nat} (hi:i<p.length):c.getD i default=p.getD i default:=by
 unfold Px at hp
 rw [← hp,List.getD_eq_getElem?_getD,List.getD_eq_getElem?_getD,List.getElem?_take_of_lt hi]
theorem aMC {p c:List Nat} (hp:Px p c):p.length≤c.length:=by
 unfold Px at hp
 have:=congrArg List.length hp
 rw [List.length_take] at this;omega
theorem aBg (p:List Nat) (x:Nat):(p++[x]).getD p.length default=x:=by simp [List.getD_eq_getElem?_getD]
theorem aHD {p q:List Nat} {i:Nat} (hi:i<p.length):(p++q).getD i default=p.getD i default:=by
 rw [List.getD_eq_getElem?_getD,List.getElem?_append_left hi,List.getD_eq_getElem?_getD]
theorem aIy {p c:List Nat} {x:Nat} (hp:Px (p++[x]) c):c.getD p.length default=x:=by
 rw [xG hp (by simp),aBg]
theorem aKr {p c:List Nat} {x:Nat} (hp:Px (p++[x]) c):Px p c:=by
 have hl:=aMC hp
 rw [List.length_append,List.length_cons,List.length_nil] at hl
 unfold Px at hp ⊢
 rw [List.length_append,List.length_cons,List.length_nil,gW (by omega)] at hp
 exact (List.append_inj hp (by rw [List.length_take];omega)).1
theorem aBD {p c:List Nat} {x:Nat} (h:wQ P n len c) (hp0:0<p.length) (hp:Px (p++[x]) c):x<n∧x ∉ p∧Ed P (p.getD (p.length-1) default) x:=by
 have hl:=aMC hp
 rw [List.length_append,List.length_cons,List.length_nil] at hl
 have hx:=aIy hp
 have hpp:=aKr hp
 refine ⟨by rw [← hx];exact h.pt.lt _ (bZ (by omega)),fun q=>?_,?_⟩
 ·obtain ⟨j,hj,e⟩:=lA q
  rw [← xG hpp hj,← hx,dN (by omega),dN (l:=c) (by omega)] at e
  have:=(List.getElem_inj h.pt.nd).1 e
  omega
 ·have:=h.pt.st (p.length-1) (by omega)
  rw [show p.length-1+1=p.length by omega,hx,xG hpp (by omega)] at this
  exact this
theorem aHg {p:List Nat} {x:Nat} (h:Pth P n p) (hp0:0<p.length) (hx:x<n) (hno:x ∉ p) (he:Ed P (p.getD (p.length-1) default) x):Pth P n (p++[x]):=by
 refine ⟨fun y hy=>?_,?_,fun i hi=>?_⟩
 ·rcases List.mem_append.1 hy with hy | hy
  ·exact h.lt y hy
  ·rw [List.mem_singleton.1 hy];exact hx
 ·refine List.nodup_append.2 ⟨h.nd,List.pairwise_singleton _ _,fun a ha b hb=>?_⟩
  rw [List.mem_singleton.1 hb]
  exact fun q=>hno (q ▸ ha)
 ·rw [List.length_append,List.length_cons,List.length_nil] at hi
  rw [aHD (by omega)]
  by_cases e:i+1<p.length
  ·rw [aHD e];exact h.st i e
  ·rw [show i+1=p.length by omega,aBg,show i=p.length-1 by omega];exact he
theorem aPz (x:Int) (l:List Int) (hl:l.length≤1000):sC x l=some (decide (x∈l)):=by
 unfold sC aBQ
 rcases wD (body:=tB x l) 0 l.length (Nat.zero_le _) (by omega) (fun k=>x==l.getD k default) (fun k=>(k:Int))
  (fun k _ hk _=>by
   unfold tB
   simp only [aZ]
   rw [if_pos (by omega),dC _ (by omega),Int.toNat_natCast,cE (by omega) (by omega),iL]
   split<;>rfl) (by
   unfold tB
   simp only [aZ]
   rw [if_neg (by omega)]) with ⟨h,e⟩ | ⟨k,_,h2,h3,_,e⟩
 ·have e':lp (tB x l) FU 0=_:=e
  rw [e',bU,dK,bU,decide_eq_false (show ¬(-1:Int)≥0 by omega),decide_eq_false]
  intro hx
  obtain ⟨k,hk,q⟩:=lA hx
  have:=h k (Nat.zero_le _) hk
  rw [q] at this;simp at this
 ·have e':lp (tB x l) FU 0=_:=e
  rw [e',bU,sZ,bU,decide_eq_true (show (k:Int)≥0 by omega),decide_eq_true]
  rw [beq_iff_eq.1 h3];exact bZ h2
end
section
variable {o:aE} {n len:Nat} {t:Ar 8} {q:Nat→Nat→Bool}
def Ext (P:List (Int×Int)) (n len:Nat) (p:List Nat):Option (List Int)→Prop
 | some c=>∃ cs,c=dO cs∧wQ P n len cs∧Px p cs∧∀ d,wQ P n len d→Px p d→aKg cs d
 | none=>∀ d,wQ P n len d→¬Px p d
theorem aMr (hN:o.N=(n:Int)) (n8:n≤8) (T:TB t q) (hq:∀ a b:Nat,a<8→(q b a=true↔Ed o.Pairs a b)) (hl:len≤n) :
  ∀ (k:Nat) (p:List Nat),Pth o.Pairs n p→0<p.length→p.length≤len→len-p.length<k→∃ y,uR k (len:Int) t o (dO p)=some y∧Ext o.Pairs n len p y
 | 0,_,_,_,_,h=>absurd h (Nat.not_lt_zero _)
 | k+1,p,hp,h0,h1,h2=>by
  show ∃ y,xT (uR k) (len:Int) t o (dO p)=some y∧Ext o.Pairs n len p y
  unfold xT
  have lastlt:=hp.lt _ (bZ (show p.length-1<p.length by omega))
  have headlt:=hp.lt _ (bZ h0)
  have elast:(dO p).getD (wr ((p.length:Int)-1)).toNat default=((p.getD (p.length-1) default:Nat):Int):=by
   rw [cE (by omega) (by omega),show ((p.length:Int)-1).toNat=p.length-1 by omega,cQ (by omega)]
  have ehead:(dO p).getD (0:Int).toNat default=((p.getD 0 default:Nat):Int):=cQ h0
  simp only [aX]
  simp only [elast,ehead]
  rw [cE (by omega) (by omega),dC _ (by omega),pG]
  by_cases c:p.length=len
  ·rw [if_pos (by omega),dC _ (by omega),dC _ (by omega),dC _ (by omega),zF T (by omega) (by omega),iL]
   have eqd:∀ d,wQ o.Pairs n len d→Px p d→d=p:=fun d hd hx=>by
    unfold Px at hx
    rw [List.take_of_length_le (by rw [hd.ln,c];exact Nat.le_refl _)] at hx;exact hx
   by_cases e:q (p.getD 0 default) (p.getD (p.length-1) default)=true
   ·rw [if_pos e]
    have he:=(hq _ _ (by omega)).1 e
    refine ⟨_,rfl,p,rfl,⟨hp,c,by omega,by rw [← c];exact he⟩,?_,fun d hd hx=>?_⟩
    ·unfold Px;rw [List.take_length]
    ·rw [eqd d hd hx];exact fun _ _ _=>Nat.le_refl _
   ·rw [if_neg e]
    refine ⟨_,rfl,fun d hd hx=>e ?_⟩
    have:=hd.cl
    rw [eqd d hd hx,← c] at this
    exact (hq _ _ (by omega)).2 this
  ·rw [if_neg (by omega)]
   obtain ⟨y,e,hy⟩:=lC (body:=vV (uR k) (len:Int) t o (dO p)) (fun s=>∃ x:Nat,s=(x:Int)∧x≤n∧∀ z,z<x→∀ d,wQ o.Pairs n len d→¬Px (p++[z]) d) (fun s=>n-s.toNat)
    (fun y=>match y with | .inl _=>∀ d,wQ o.Pairs n len d→¬Px p d | .inr y=>∃ c,y=some c∧Ext o.Pairs n len p (some c))
    (fun s ⟨x,hs,hx,hz⟩=>by
     subst hs
     unfold vV
     simp only [aZ,aX]
     simp only [elast]
     by_cases cx:x<n
     ·rw [if_pos (by omega),dC _ (by omega),dC _ (by omega),zF T (by omega) (by omega),iL]
      have nxt:(∀ d,wQ o.Pairs n len d→¬Px (p++[x]) d)→(∃ s',(some (.nx (wr ((x:Int)+1))):Option (Ct Int (Option (List Int))))=some (.nx s')∧(∃ x:Nat,s'=(x:Int)∧x≤n∧∀ z,z<x→∀ d,wQ o.Pairs n len d→¬Px (p++[z]) d)∧n-s'.toNat<n-(x:Int).toNat):=fun g=>by
       rw [cE (by omega) (by omega)]
       refine ⟨_,rfl,⟨x+1,by omega,cx,fun z hz'=>?_⟩,by omega⟩
       by_cases e:z<x
       ·exact hz z e
       ·rw [show z=x by omega];exact g
      by_cases e:q x (p.getD (p.length-1) default)=true
      ·have he:=(hq _ _ (by omega)).1 e
       rw [if_pos e,aPz _ _ (by rw [aX];omega),bU,cT,aZ]
       by_cases ci:(x:Int)∈dO p
       ·rw [if_pos ci]
        exact .inl (nxt fun d hd hx=>(aBD hd h0 hx).2.1 (aC2.1 ci))
       ·have hno:x ∉ p:=fun z=>ci (aC2.2 z)
        rw [if_neg ci,aCe (by rw [aX];simp only [List.length_cons,List.length_nil];omega),show dO p++[(x:Int)]=dO (p++[x]) by rw [oW];rfl]
        have hp':=aHg hp h0 cx hno he
        have len':(p++[x]).length=p.length+1:=by simp
        obtain ⟨y,ey,hy⟩:=aMr hN n8 T hq hl k (p++[x]) hp' (by omega) (by omega) (by omega)
        rw [ey,bU]
        cases y with
        | none=>rw [Option.isSome_none,mK];exact .inl (nxt hy)
        | some c=>
         rw [Option.isSome_some,mH]
         obtain ⟨cs,rfl,v1,v2,v3⟩:=hy
         refine .inr (.inr ⟨_,rfl,_,rfl,cs,rfl,v1,aKr v2,fun d hd hpd=>?_⟩)
         have hdn:=zM hd hpd (by omega)
         generalize hw:d.getD p.length default=w at hdn
         have hwx:¬w<x:=fun g=>hz w g d hd hdn
         by_cases ew:w=x
         ·subst ew;exact v3 d hd hdn
         ·intro i hi hj
          by_cases c1:i<p.length
          ·rw [xG (aKr v2) c1,xG hpd c1];exact Nat.le_refl _
          ·by_cases c2:i=p.length
           ·subst c2;rw [aIy v2,hw];omega
           ·have:=hj p.length (by omega)
            rw [aIy v2,hw] at this;omega
      ·rw [if_neg e]
       exact .inl (nxt fun d hd hx=>e ((hq _ _ (by omega)).2 (aBD hd h0 hx).2.2))
     ·rw [if_neg (by omega)]
      refine .inr (.inl ⟨_,rfl,fun d hd hpd=>?_⟩)
      have hdn:=zM hd hpd (by omega)
      have:=(aBD hd h0 hdn).1
      exact hz _ (by omega) d hd hdn) 0 ⟨0,rfl,Nat.zero_le _,fun z h=>absurd h (Nat.not_lt_zero _)⟩ (by omega)
   rw [e,bU]
   cases y with
   | inl s=>rw [dK];exact ⟨_,rfl,hy⟩
   | inr y=>
    obtain ⟨c,rfl,hy⟩:=hy
    rw [sZ];exact ⟨_,rfl,hy⟩
def aOt (P:List (Int×Int)) (n:Nat) (c:List Int) (b:Bool):Prop:=(b=false∧c=[]∧∀ len d,2≤len→¬wQ P n len d)∨(b=true∧∃ cs len,c=dO cs∧2≤len∧wQ P n len cs∧(∀ len' d,2≤len'→len'<len→¬wQ P n len' d)∧∀ d,wQ P n len d→aKg cs d)
theorem aK1 (hf:Fm o) (hN:o.N=(n:Int)):∃ c b,fK o=some (c,b)∧aOt o.Pairs n c b:=by
 have n8:n≤8:=by have:=hf.N;omega
 obtain ⟨v,ev,hv⟩:=yK o (by have:=hf.len;omega)
 obtain ⟨s1,e1,i1,r0,T0,H0⟩:=cJ (body:=lS o) (fun k s=>s.1=(k:Int)∧∃ r,TB s.2 r∧∀ a b:Nat,a<8→(r b a=true↔((a:Int),(b:Int))∈o.Pairs.take k)) o.Pairs.length (by have:=hf.len;omega)
  (fun k s hk ⟨hs,r,T,H⟩=>by
   obtain ⟨i,t⟩:=s
   simp only at hs T
   subst hs
   obtain ⟨g1,g2,_⟩:=hf.el _ (bZ hk)
   obtain ⟨a,b,he,ha,hb⟩:∃ a b:Nat,o.Pairs.getD k default=((a:Int),(b:Int))∧a<n∧b<n:=⟨_,_,Prod.ext (Int.toNat_of_nonneg g1.1).symm (Int.toNat_of_nonneg g2.1).symm,by omega,by omega⟩
   have:=hf.len
   unfold lS
   simp only [aZ]
   rw [if_pos (by omega),sV hk,he,dC _ (by omega),dC _ (by omega),dC _ (by omega),cE (by omega) (by omega)]
   have T':=aNW T (b:=a) (by omega) (m:=2 ^ b) (Nat.pow_lt_pow_right (n:=8) (by omega) (by omega))
   rw [← aEo (by omega)] at T'
   refine ⟨_,rfl,by simp only;omega,_,T',?_⟩
   intro x y hx
   rw [gW hk,he,List.mem_append,List.mem_singleton,Bool.or_eq_true,H x y hx,wH,Bool.and_eq_true,decide_eq_true_eq,decide_eq_true_eq]
   refine or_congr_right ?_
   rw [Prod.mk.injEq]
   omega) (fun s ⟨hs,_⟩=>by
   unfold lS
   simp only [aZ]
   rw [if_neg (by omega)]) (0,Ar.zero 8) ⟨rfl,_,aI9,fun a b _=>by simp⟩
 rw [List.take_length] at H0
 obtain ⟨y,e2,hy⟩:=lC (body:=oA o s1) (fun s=>∃ l:Nat,s=(l:Int)∧2≤l∧l≤n+2∧∀ len' d,2≤len'→len'<l→¬wQ o.Pairs n len' d) (fun s=>n+2-s.toNat)
  (fun y=>match y with | .inl _=>∀ len d,2≤len→¬wQ o.Pairs n len d | .inr y=>y.2=true∧aOt o.Pairs n y.1 true)
  (fun s ⟨l,hs,hl2,hln,hno⟩=>by
   subst hs
   unfold oA
   simp only [aZ]
   by_cases c:l≤n
   ·rw [if_pos (by omega)]
    obtain ⟨y,e3,hy⟩:=lC (body:=nS o s1 (l:Int)) (fun s=>∃ x:Nat,s=(x:Int)∧x≤n∧∀ z,z<x→∀ d,wQ o.Pairs n l d→¬Px [z] d) (fun s=>n-s.toNat)
     (fun y=>match y with | .inl _=>∀ d,¬wQ o.Pairs n l d | .inr y=>y.2=true∧∃ cs,y.1=dO cs∧wQ o.Pairs n l cs∧∀ d,wQ o.Pairs n l d→aKg cs d)
     (fun s ⟨x,hs,hx,hz⟩=>by
      subst hs
      unfold nS
      simp only [aZ]
      by_cases cx:x<n
      ·rw [if_pos (by omega),aAy]
       obtain ⟨y,ey,hy⟩:=aMr (len:=l) hN n8 T0 H0 c 10 [x] ⟨fun z hz=>by rw [List.mem_singleton.1 hz];exact cx,List.pairwise_singleton _ _,fun i hi=>by simp at hi⟩ (by simp) (by simp;omega) (by simp;omega)
       rw [show [(x:Int)]=dO [x] from rfl,ey,bU]
       cases y with
       | none=>
        rw [Option.isSome_none,mK,cE (by omega) (by omega)]
        refine .inl ⟨_,rfl,⟨x+1,by omega,cx,fun z hz'=>?_⟩,by omega⟩
        by_cases e:z<x
        ·exact hz z e
        ·rw [show z=x by omega];exact hy
       | some c=>
        obtain ⟨cs,rfl,v1,v2,v3⟩:=hy
        have hcl:=v1.ln
        rw [Option.isSome_some,mH]
        simp only [Option.getD_some]
        rw [dC _ (by rw [aX];omega),aAy]
        refine .inr (.inr ⟨_,rfl,rfl,cs,rfl,v1,fun d hd=>?_⟩)
        have hdn:=zM (p:=[]) hd rfl hd.ps
        rw [List.nil_append,List.length_nil] at hdn
        generalize hw:d.getD 0 default=w at hdn
        have hwx:¬w<x:=fun g=>hz w g d hd hdn
        by_cases ew:w=x
        ·subst ew;exact v3 d hd hdn
        ·intro i hi hj
         have cx0:cs.getD 0 default=x:=aIy (p:=[]) v2
         by_cases c2:i=0
         ·subst c2;rw [cx0,hw];omega
         ·have:=hj 0 (by omega)
          rw [cx0,hw] at this;omega
      ·rw [if_neg (by omega)]
       refine .inr (.inl ⟨_,rfl,fun d hd=>?_⟩)
       have hdn:=zM (p:=[]) hd rfl hd.ps
       rw [List.nil_append,List.length_nil] at hdn
       have:=hd.pt.lt _ (bZ (show 0<d.length by rw [hd.ln];exact hd.ps))
       exact hz _ (by omega) d hd hdn) 0 ⟨0,rfl,Nat.zero_le _,fun z h=>absurd h (Nat.not_lt_zero _)⟩ (by omega)
    rw [e3,bU]
    cases y with
    | inl s=>
     rw [dK,cE (by omega) (by omega)]
     refine .inl ⟨_,rfl,⟨l+1,by omega,by omega,by omega,fun len' d h1 h2=>?_⟩,by omega⟩
     by_cases e:len'<l
     ·exact hno len' d h1 e
     ·rw [show len'=l by omega];exact hy d
    | inr y=>
     obtain ⟨y1,cs,y2,y3,y4⟩:=hy
     rw [sZ]
     exact .inr (.inr ⟨_,rfl,y1,.inr ⟨rfl,cs,l,y2,hl2,y3,hno,y4⟩⟩)
   ·rw [if_neg (by omega)]
    refine .inr (.inl ⟨_,rfl,fun len d h1 hd=>?_⟩)
    have:=hd.le
    exact hno len d h1 (by omega) hd) 2 ⟨2,rfl,by omega,by omega,fun len' d h1 h2=>by omega⟩ (by omega)
 unfold fK
 rw [ev,bU,hv.2 hf,cT,mH,e1,bU,dK,e2,bU]
 cases y with
 | inl s=>rw [dK];exact ⟨_,_,rfl,.inl ⟨rfl,rfl,hy⟩⟩
 | inr y=>
  obtain ⟨c,b⟩:=y
  obtain ⟨y1,y2⟩:=hy
  simp only at y1 y2
  subst y1
  rw [sZ]
  exact ⟨_,_,rfl,y2⟩
theorem aMa (hl:o.Pairs.length≤9223372036854775807) (hf:¬Fm o):fK o=some ([],false):=by
 obtain ⟨v,ev,hv⟩:=yK o hl
 unfold fK
 rw [ev,bU,Bool.eq_false_iff.2 fun g=>hf (hv.1 g),cT,mK]
end
section
variable {o:aE} {n:Nat}
theorem wQ.rc {P:List (Int×Int)} {len:Nat} {c:List Nat} (h:wQ P n len c) (h2:2≤len):Rc P (c.getD 0 default) (c.getD 0 default):=by
 have key:∀ i,i+1<c.length→Rc P (c.getD 0 default) (c.getD (i+1) default):=fun i=>by
  induction i with
  | zero=>intro hi;exact aNP (h.pt.st 0 hi)
  | succ i ih=>intro hi;exact aQe (ih (by omega)) (aNP (h.pt.st (i+1) hi))
 have:=key (len-2) (by rw [h.ln];omega)
 rw [show len-2+1=len-1 by omega] at this
 exact aQe this (aNP h.cl)
theorem aLf (o:aE) (hl:o.Pairs.length≤9223372036854775807):∃ v,iW o=some v∧(v=true↔Vd o):=by
 unfold iW
 rcases aGi o hl with ⟨hv,n,t,r,h⟩ | ⟨hno,t,e⟩
 ·rw [h.rd,bU];exact ⟨_,rfl,fun _=>hv,fun _=>rfl⟩
 ·rw [e,bU];exact ⟨_,rfl,fun g=>(by cases g),fun g=>absurd g hno⟩
end
def RB (x:Br 64) (q:Nat→Nat→Bool):Prop:=∀ a b:Nat,a<8→b<8→x.at2 8 (a:Int) (b:Int)=q a b
theorem aIT:RB (Br.zero 64) fun _ _=>false:=fun a b ha hb=>by
 unfold Br.at2 Br.zero
 simp only [List.getD_eq_getElem?_getD,Int.toNat_natCast]
 rw [List.getElem?_replicate]
 split<;>rfl
theorem aHx {x:Br 64} {q:Nat→Nat→Bool} (h:RB x q) {a b:Nat} (ha:a<8) (hb:b<8) (v:Bool):RB (x.st2 8 (a:Int) (b:Int) v) fun c d=>if c=a∧d=b then v else q c d:=fun c d hc hd=>by
 have:=h c d hc hd
 have hl:=x.h
 unfold Br.at2 Br.st2 at *
 simp only [List.getD_eq_getElem?_getD,Int.toNat_natCast] at *
 rw [List.getElem?_set]
 by_cases e:c=a∧d=b
 ·obtain ⟨rfl,rfl⟩:=e
  rw [if_pos rfl,if_pos (by omega),if_pos ⟨rfl,rfl⟩];rfl
 ·rw [if_neg (by omega),if_neg e,this]
theorem nD {x:Br 64} {q q':Nat→Nat→Bool} (h:RB x q) (e:∀ a b,a<8→b<8→q a b=q' a b):RB x q':=fun a b ha hb=>(h a b ha hb).trans (e a b ha hb)
theorem wL (o:aE) (hl:o.Pairs.length≤9223372036854775807):∃ v,iF o=some v∧(v=true↔Fm o):=by
 unfold iF
 simp only [rC,aZ]
 by_cases c1:o.N<0
 ·rw [if_pos c1,mH];exact ⟨_,rfl,⟨fun h=>(by cases h),fun h=>by have:=h.N;omega⟩⟩
 rw [if_neg c1]
 by_cases c2:o.N>8
 ·rw [if_pos c2,mH];exact ⟨_,rfl,⟨fun h=>(by cases h),fun h=>by have:=h.N;omega⟩⟩
 rw [if_neg c2]
 by_cases c3:(o.Pairs.length:Int)>28
 ·rw [if_pos c3];exact ⟨_,rfl,⟨fun h=>(by cases h),fun h=>by have:=h.len;omega⟩⟩
 rw [if_neg c3]
 rcases wD (body:=gK o) 0 o.Pairs.length (Nat.zero_le _) hl (fun k => !decide (sX o.N (o.Pairs.getD k default))) (fun _=>false)
  (fun k _ hk _=>by
   unfold gK
   simp only [aZ,rC]
   rw [if_pos (by omega),sV hk,cE (by omega) (by omega)]
   generalize o.Pairs.getD k default=e
   by_cases c:sX o.N e
   ·obtain ⟨h1,h2,h3⟩:=c
    rw [if_neg (by omega),if_neg (by omega),if_neg (by omega),if_neg (by omega),pG,if_neg h3,decide_eq_true ⟨h1,h2,h3⟩];rfl
   ·have e0:(!decide (sX o.N e))=true:=by rw [decide_eq_false c];rfl
    rw [if_pos (c:=(!decide (sX o.N e))=true) e0]
    by_cases d1:e.1<0
    ·rw [if_pos d1,mH]
    by_cases d2:e.1≥o.N
    ·rw [if_neg d1,if_pos d2,mH]
    by_cases d3:e.2<0
    ·rw [if_neg d1,if_neg d2,if_pos d3,mH]
    by_cases d4:e.2≥o.N
    ·rw [if_neg d1,if_neg d2,if_neg d3,if_pos d4,mH]
    rw [if_neg d1,if_neg d2,if_neg d3,if_neg d4,pG,if_pos (Decidable.byContradiction fun q=>c ⟨by omega,by omega,q⟩)]) (by
   unfold gK
   simp only [aZ]
   rw [if_neg (by omega)]) with ⟨h,e⟩ | ⟨k,_,h2,h3,_,e⟩
 ·have e':lp (gK o) FU 0=_:=e
  rw [e',bU,dK]
  refine ⟨_,rfl,fun _=>⟨by omega,by omega,fun p hp=>?_⟩,fun _=>rfl⟩
  obtain ⟨k,hk,rfl⟩:=lA hp
  have:=h k (Nat.zero_le _) hk
  simpa using this
 ·have e':lp (gK o) FU 0=_:=e
  rw [e',bU,sZ]
  refine ⟨_,rfl,fun g=>(by cases g),fun g=>?_⟩
  have:=g.el _ (bZ h2)
  rw [decide_eq_true this] at h3
  cases h3
theorem aHH {o:aE} (h:Fm o):∃ x q,lE o=some x∧RB x q∧∀ a b:Nat,a<8→b<8→(q a b=true↔Ed o.Pairs a b):=by
 obtain ⟨n,hn⟩:∃ n:Nat,o.N=(n:Int):=⟨o.N.toNat,by have:=h.N;omega⟩
 have n8:n≤8:=by have:=h.N;omega
 have hel:∀ k,k<o.Pairs.length→∃ a b:Nat,o.Pairs.getD k default=((a:Int),(b:Int))∧a<n∧b<n:=fun k hk=>by
  obtain ⟨h1,h2,_⟩:=h.el _ (bZ hk)
  exact ⟨_,_,Prod.ext (Int.toNat_of_nonneg h1.1).symm (Int.toNat_of_nonneg h2.1).symm,by omega,by omega⟩
 obtain ⟨s1,e1,i1,q,T0,H0⟩:=cJ (body:=mF o) (fun k s=>s.1=(k:Int)∧∃ q,RB s.2 q∧∀ a b:Nat,a<8→b<8→(q a b=true↔((a:Int),(b:Int))∈o.Pairs.take k)) o.Pairs.length (by have:=h.len;omega)
  (fun k s hk ⟨hs,q,T,H⟩=>by
   obtain ⟨i,t⟩:=s
   simp only at hs T
   subst hs
   obtain ⟨a,b,he,ha,hb⟩:=hel k hk
   unfold mF
   simp only [aZ]
   have:=h.len
   rw [if_pos (by omega),sV hk,he,sV hk,he,dC _ (by omega),dC _ (by omega),cE (by omega) (by omega)]
   refine ⟨_,rfl,by simp only;omega,_,aHx T (by omega) (by omega) true,?_⟩
   intro x y hx hy
   rw [gW hk,he,List.mem_append,List.mem_singleton,Prod.mk.injEq]
   by_cases c:x=a∧y=b
   ·rw [if_pos c];exact ⟨fun _=>.inr (by omega),fun _=>rfl⟩
   ·rw [if_neg c,H x y hx hy]
    exact ⟨.inl,fun g=>g.resolve_right (by omega)⟩) (fun s ⟨hs,_⟩=>by
   unfold mF
   simp only [aZ]
   rw [if_neg (by omega)]) (0,Br.zero 64) ⟨rfl,_,aIT,fun a b _ _=>by simp⟩
 rw [List.take_length] at H0
 unfold lE
 rw [e1,bU,dK]
 exact ⟨_,q,rfl,T0,H0⟩
theorem aFr {o:aE} (h:Fm o):∃ x q,cC o=some x∧RB x q∧∀ a b:Nat,a<8→b<8→(q a b=true↔Rc o.Pairs a b):=by
 obtain ⟨n,hn⟩:∃ n:Nat,o.N=(n:Int):=⟨o.N.toNat,by have:=h.N;omega⟩
 have n8:n≤8:=by have:=h.N;omega
 have hin:∀ a b,Rc o.Pairs a b→a<n∧b<n:=fun a b g=>g (fun a b=>a<n∧b<n) (fun x y hxy=>by
  obtain ⟨h1,h2,_⟩:=h.el _ hxy
  exact ⟨by simp only at h1;omega,by simp only at h2;omega⟩) (fun x y z g1 g2=>⟨g1.1,g2.2⟩)
 obtain ⟨x0,r0,e0,T0,H0⟩:=aHH h
 obtain ⟨s2,e2,i2,r,T2,L2,S2,C2⟩:=cJ (body:=kR o) (fun k s=>s.1=(k:Int)∧∃ r,RB s.2 r∧(∀ a b:Nat,a<8→b<8→r0 a b=true→r a b=true)∧(∀ a b:Nat,a<8→b<8→r a b=true→Rc o.Pairs a b)∧∀ j a b:Nat,j<k→a<8→b<8→r a j=true→r j b=true→r a b=true) n (by omega)
  (fun k s hk ⟨hs,r,T,L,S,C⟩=>by
   obtain ⟨i,t⟩:=s
   simp only at hs T
   subst hs
   obtain ⟨s3,e3,i3,T3⟩:=cJ (body:=jY o ((k:Int),t)) (fun m s=>s.1=(m:Int)∧RB s.2 fun a b=>r a b||(decide (a<m)&&decide (b<n)&&r a k&&r k b)) n (by omega)
    (fun a s ha ⟨hs,T⟩=>by
     obtain ⟨i,u⟩:=s
     simp only at hs T
     subst hs
     obtain ⟨s4,e4,i4,T4⟩:=cJ (body:=jW o ((k:Int),t) ((a:Int),u)) (fun m s=>s.1=(m:Int)∧RB s.2 fun c d=>r c d||(decide (c<a)&&decide (d<n)&&r c k&&r k d)||(decide (c=a)&&decide (d<m)&&r a k&&r k d)) n (by omega)
      (fun m s hm ⟨hs,T⟩=>by
       obtain ⟨i,v⟩:=s
       simp only at hs T
       subst hs
       unfold jW
       simp only [aZ,rC]
       have g1:v.at2 8 (a:Int) (k:Int)=r a k:=by
        refine (T a k (by omega) (by omega)).trans ?_
        simp only [Nat.lt_irrefl]
        cases r a k<;>simp
       have g2:v.at2 8 (k:Int) (m:Int)=r k m:=by
        refine (T k m (by omega) (by omega)).trans ?_
        simp only [Nat.lt_irrefl]
        cases r k m<;>simp
       rw [if_pos (by omega),dC _ (by omega),dC _ (by omega),g1,g2,iL,cE (by omega) (by omega)]
       have nochg:r a k=false∨r k m=false→RB v fun c d=>r c d||(decide (c<a)&&decide (d<n)&&r c k&&r k d)||(decide (c=a)&&decide (d<m+1)&&r a k&&r k d):=fun g=>nD T fun c d _ _=>by
        congr 1
        by_cases e:d=m
        ·subst e
         rcases g with g | g<;>rw [g]<;>simp
        ·rw [show decide (d<m+1)=decide (d<m) by rw [decide_eq_decide];omega]
       by_cases c1:r a k=true
       ·rw [if_pos c1,dC _ (by omega),dC _ (by omega),iL]
        by_cases c2:r k m=true
        ·rw [if_pos c2,dC _ (by omega),dC _ (by omega)]
         refine ⟨_,rfl,by simp only;omega,nD (aHx T (by omega) (by omega) true) fun c d _ _=>?_⟩
         by_cases e:c=a∧d=m
         ·obtain ⟨rfl,rfl⟩:=e
          rw [if_pos ⟨rfl,rfl⟩,c1,c2,decide_eq_true rfl,decide_eq_true (Nat.lt_succ_self d)]
          simp
         ·rw [if_neg e]
          congr 1
          by_cases e1:c=a
          ·rw [show decide (d<m+1)=decide (d<m) by rw [decide_eq_decide];omega]
          ·rw [decide_eq_false e1];simp
        ·rw [if_neg c2]
         exact ⟨_,rfl,by simp only;omega,nochg (.inr (Bool.eq_false_iff.2 c2))⟩
       ·rw [if_neg c1,mK]
        exact ⟨_,rfl,by simp only;omega,nochg (.inl (Bool.eq_false_iff.2 c1))⟩) (fun s ⟨hs,_⟩=>by
       unfold jW
       simp only [aZ]
       rw [if_neg (by omega)]) (0,u) ⟨rfl,nD T fun c d _ _=>by simp⟩
     unfold jY
     simp only [aZ]
     rw [if_pos (by omega),e4,bU,dK,cE (by omega) (by omega)]
     refine ⟨_,rfl,by simp only;omega,nD T4 fun c d _ _=>?_⟩
     rw [Bool.or_assoc]
     congr 1
     by_cases e:c=a
     ·subst e
      rw [decide_eq_false (Nat.lt_irrefl c),decide_eq_true rfl,decide_eq_true (Nat.lt_succ_self c)];simp
     ·rw [decide_eq_false e,show decide (c<a+1)=decide (c<a) by rw [decide_eq_decide];omega];simp) (fun s ⟨hs,_⟩=>by
     unfold jY
     simp only [aZ]
     rw [if_neg (by omega)]) (0,t) ⟨rfl,nD T fun a b _ _=>by simp⟩
   unfold kR
   simp only [aZ]
   rw [if_pos (by omega),e3,bU,dK,cE (by omega) (by omega)]
   refine ⟨_,rfl,by simp only;omega,_,T3,?_,?_,?_⟩
   ·intro a b ha hb g
    rw [L a b ha hb g];rfl
   ·intro a b ha hb g
    simp only [Bool.or_eq_true,Bool.and_eq_true] at g
    rcases g with g | ⟨⟨_,g1⟩,g2⟩
    ·exact S a b ha hb g
    ·exact aQe (S a k ha (by omega) g1) (S k b (by omega) hb g2)
   ·intro j a b hj ha hb g1 g2
    have key:∀ x y,x<8→y<8→((r x y||(decide (x<n)&&decide (y<n)&&r x k&&r k y))=true↔r x y=true∨r x k=true∧r k y=true):=fun x y hx hy=>by
     simp only [Bool.or_eq_true,Bool.and_eq_true,decide_eq_true_eq]
     constructor
     ·rintro (g | ⟨⟨_,g1⟩,g2⟩)
      ·exact .inl g
      ·exact .inr ⟨g1,g2⟩
     ·rintro (g | ⟨g1,g2⟩)
      ·exact .inl g
      ·exact .inr ⟨⟨⟨(hin _ _ (S x k hx (by omega) g1)).1,(hin _ _ (S k y (by omega) hy g2)).2⟩,g1⟩,g2⟩
    rw [key _ _ ha hb]
    rw [key _ _ ha (by omega)] at g1
    rw [key _ _ (by omega) hb] at g2
    by_cases e:j=k
    ·subst e
     refine .inr ⟨?_,?_⟩
     ·rcases g1 with g | ⟨g,_⟩<;>exact g
     ·rcases g2 with g | ⟨_,g⟩<;>exact g
    ·have hj':j<k:=by omega
     rcases g1 with g1 | ⟨g1,g1'⟩
     ·rcases g2 with g2 | ⟨g2,g2'⟩
      ·exact .inl (C j a b hj' ha hb g1 g2)
      ·exact .inr ⟨C j a k hj' ha (by omega) g1 g2,g2'⟩
     ·rcases g2 with g2 | ⟨g2,g2'⟩
      ·exact .inr ⟨g1,C j k b hj' (by omega) hb g1' g2⟩
      ·exact .inr ⟨g1,g2'⟩) (fun s ⟨hs,_⟩=>by
   unfold kR
   simp only [aZ]
   rw [if_neg (by omega)]) (0,x0) ⟨rfl,r0,T0,fun _ _ _ _ g=>g,fun a b ha hb g=>aNP ((H0 a b ha hb).1 g),fun j a b hj=>absurd hj (Nat.not_lt_zero _)⟩
 unfold cC
 rw [e0,bU,e2,bU,dK]
 refine ⟨_,r,rfl,T2,fun a b ha hb=>⟨S2 a b ha hb,fun g=>?_⟩⟩
 refine (g (fun a b=>a<n∧b<n∧r a b=true) (fun x y hxy=>?_) (fun x y z g1 g2=>?_)).2.2
 ·have:=hin _ _ (aNP hxy)
  exact ⟨this.1,this.2,L2 x y (by omega) (by omega) ((H0 x y (by omega) (by omega)).2 hxy)⟩
 ·exact ⟨g1.1,g2.2.1,C2 y x z g1.2.1 (by omega) (by omega) g1.2.2 g2.2.2⟩
section
variable {o:aE} {n:Nat} {t:Ar 8} {r:Nat→Nat→Bool}
theorem OV.bef (h:OV o n t r):∃ x,cC o=some x∧RB x r:=by
 obtain ⟨x,q,e,T,H⟩:=aFr h.fm
 exact ⟨x,e,nD T fun a b ha hb=>Bool.eq_iff_iff.2 ((H a b ha hb).trans (h.rc a b).symm)⟩
theorem aBS (o:aE) (hl:o.Pairs.length≤9223372036854775807):∃ v,bR o=some v∧(v=true↔Vd o):=by
 obtain ⟨v,e,hv⟩:=wL o hl
 unfold bR
 by_cases c:Fm o
 ·obtain ⟨x,q,e2,T,H⟩:=aFr c
  obtain ⟨n,hn⟩:∃ n:Nat,o.N=(n:Int):=⟨o.N.toNat,by have:=c.N;omega⟩
  have n8:n≤8:=by have:=c.N;omega
  have hin:∀ a,Rc o.Pairs a a→a<n:=fun a g=>(g (fun a b=>a<n∧b<n) (fun x y hxy=>by
   obtain ⟨h1,h2,_⟩:=c.el _ hxy
   exact ⟨by simp only at h1;omega,by simp only at h2;omega⟩) (fun x y z g1 g2=>⟨g1.1,g2.2⟩)).1
  rw [e,bU,hv.2 c,cT,mH,e2,bU]
  rcases wD (body:=iB o x) 0 n (Nat.zero_le _) (by omega) (fun k=>q k k) (fun _=>false)
   (fun k _ hk _=>by
    unfold iB
    simp only [aZ]
    rw [if_pos (by omega),dC _ (by omega),dC _ (by omega),T k k (by omega) (by omega),iL,cE (by omega) (by omega)]
    split<;>rfl) (by
    unfold iB
    simp only [aZ]
    rw [if_neg (by omega)]) with ⟨h,e⟩ | ⟨k,_,h2,h3,_,e⟩
  ·have e':lp (iB o x) FU 0=_:=e
   rw [e',bU,dK]
   refine ⟨_,rfl,fun _=>⟨c,fun a g=>?_⟩,fun _=>rfl⟩
   have ha:=hin a g
   have:=h a (Nat.zero_le _) ha
   rw [(H a a (by omega) (by omega)).2 g] at this
   cases this
  ·have e':lp (iB o x) FU 0=_:=e
   rw [e',bU,sZ]
   exact ⟨_,rfl,fun g=>(by cases g),fun g=>absurd ((H k k (by omega) (by omega)).1 h3) (g.2 k)⟩
 ·rw [e,bU,Bool.eq_false_iff.2 fun g=>c (hv.1 g),cT,mK]
  exact ⟨_,rfl,fun g=>(by cases g),fun g=>absurd g.1 c⟩
theorem OV.rv (h:OV o n t r):bR o=some true:=by
 obtain ⟨v,e,hv⟩:=aBS o (by have:=h.fm.len;omega)
 rw [e,hv.2 h.vd]
theorem aRs (hl:o.Pairs.length≤9223372036854775807) (h:¬Vd o):bR o=some false:=by
 obtain ⟨v,e,hv⟩:=aBS o hl
 rw [e,Bool.eq_false_iff.2 fun g=>h (hv.1 g)]
theorem aHQ (hv:bR o=some false) (a b:Int):gB o a b=some false:=by
 unfold gB
 simp only [rC]
 rw [hv,bU,cT,mK,mH]
theorem aIh (h:OV o n t r) (a b:Int):gB o a b=some (decide (0≤a∧0≤b)&&r a.toNat b.toNat):=by
 unfold gB
 have n8:=h.n8
 have hN:=h.N
 simp only [rC,aZ]
 rw [h.rv,bU,cT,mH]
 have no:¬(0≤a∧a<(n:Int)∧0≤b∧b<(n:Int))→some false=some (decide (0≤a∧0≤b)&&r a.toNat b.toNat):=fun g=>by
  congr 1
  refine (Bool.eq_false_iff.2 fun q=>g ?_).symm
  rw [Bool.and_eq_true,decide_eq_true_eq] at q
  have:=h.lt _ _ q.2
  omega
 by_cases c1:a<0
 ·rw [if_pos c1,mH];exact no (by omega)
 rw [if_neg c1]
 by_cases c2:a≥o.N
 ·rw [if_pos c2,mH];exact no (by omega)
 rw [if_neg c2]
 by_cases c3:b<0
 ·rw [if_pos c3,mH];exact no (by omega)
 rw [if_neg c3]
 by_cases c4:b≥o.N
 ·rw [if_pos c4];exact no (by omega)
 rw [if_neg c4]
 obtain ⟨x,e,T⟩:=h.bef
 rw [e,bU,dC _ (by omega),dC _ (by omega),Br.row_at _ _ (by omega),decide_eq_true (by omega),Bool.true_and]
 have:=T a.toNat b.toNat (by omega) (by omega)
 rw [Int.toNat_of_nonneg (by omega),Int.toNat_of_nonneg (by omega)] at this
 rw [this]
end
theorem aCU {n:Nat} (n8:n≤8) {x:Br 64} {r:Nat→Nat→Bool} (T:RB x r):jF (n:Int) x=some ⟨(n:Int),mG n n r⟩:=by
 have rl:∀ m a,(aIk m r a).length≤m:=fun m a=>by rw [aAY];exact oJ
 obtain ⟨s,e,h1,h2⟩:=cJ (body:=jQ (n:Int) x) (fun k s=>s.1=(k:Int)∧s.2=⟨(n:Int),mG k n r⟩) n (by omega)
  (fun k s hk ⟨hs,hq⟩=>by
   obtain ⟨i,u⟩:=s
   simp only at hs hq
   subst hs hq
   have pl:(mG k n r).length≤64:=by
    rw [wN]
    have:=aDD (n:=k) (f:=fun a=>sm n fun b=>(r a b).toNat) (g:=fun _=>8) fun a _=>Nat.le_trans oJ n8
    have e:∀ k:Nat,sm k (fun _=>8)=8 * k:=fun k=>by
     induction k with
     | zero=>rfl
     | succ k ih=>show sm k (fun _=>8)+8=_;rw [ih];omega
    rw [e] at this;omega
   obtain ⟨s,e,h1,h2⟩:=cJ (body:=kK (n:Int) x ((k:Int),(⟨(n:Int),mG k n r⟩:aE))) (fun m s=>s.1=(m:Int)∧s.2=⟨(n:Int),mG k n r++aIk m r k⟩) n (by omega)
    (fun m s hm ⟨hs,hq⟩=>by
     obtain ⟨i,u⟩:=s
     simp only at hs hq
     subst hs hq
     have:=rl m k
     unfold kK
     simp only [aZ,rC]
     rw [if_pos (by omega),dC _ (by omega),dC _ (by omega),T k m (by omega) (by omega),iL,cE (by omega) (by omega)]
     by_cases c:r k m=true
     ·rw [if_pos c,aAy,aCe (by simp only [List.length_append,List.length_cons,List.length_nil];omega)]
      exact ⟨_,rfl,by simp only;omega,by rw [aF5,if_pos c,List.append_assoc]⟩
     ·rw [if_neg c]
      exact ⟨_,rfl,by simp only;omega,by rw [aF5,if_neg c,List.append_nil]⟩) (fun s ⟨hs,_⟩=>by
     unfold kK
     simp only [aZ]
     rw [if_neg (by omega)]) (0,⟨(n:Int),mG k n r⟩) ⟨rfl,by simp [aIk]⟩
   unfold jQ
   simp only [aZ]
   rw [if_pos (by omega),e,bU,dK,cE (by omega) (by omega)]
   exact ⟨_,rfl,by simp only;omega,by simp only;rw [h2,aDA]⟩) (fun s ⟨hs,_⟩=>by
   unfold jQ
   simp only [aZ]
   rw [if_neg (by omega)]) (0,⟨(n:Int),[]⟩) ⟨rfl,rfl⟩
 unfold jF
 rw [e,bU,dK,h2]
section
variable {o:aE} {n:Nat} {t:Ar 8} {r:Nat→Nat→Bool}
theorem aKu (h:OV o n t r):hG o=some (⟨(n:Int),mG n n r⟩,0):=by
 obtain ⟨x,e,T⟩:=h.bef
 unfold hG
 rw [h.rv,bU,cT,mH,e,bU,h.N,aCU h.n8 T,bU]
theorem aKm (hv:bR o=some false):hG o=some (⟨0,[]⟩,70):=by
 unfold hG
 rw [hv,bU,cT,mK]
theorem aH5 (hv:bR o=some false):fY o=some (⟨0,[]⟩,70):=by
 unfold fY
 rw [hv,bU,cT,mK]
theorem aIx (h:OV o n t r):fY o=some (⟨(n:Int),mG n n (cv n r)⟩,0):=by
 have hN:=h.N;have n8:=h.n8
 obtain ⟨x,ex,X⟩:=h.bef
 obtain ⟨s,e,h1,h2⟩:=cJ (body:=kM o x) (fun k s=>s.1=(k:Int)∧RB s.2 fun a c=>decide (a<k)&&decide (c<n)&&cv n r a c) n (by omega)
  (fun a s ha ⟨hs,T⟩=>by
   obtain ⟨i,u⟩:=s
   simp only at hs T
   subst hs
   obtain ⟨s,e,h1,h2⟩:=cJ (body:=kC o ((a:Int),u) x) (fun m s=>s.1=(m:Int)∧RB s.2 fun c d=>(decide (c<a)&&decide (d<n)&&cv n r c d)||(decide (c=a)&&decide (d<m)&&cv n r a d)) n (by omega)
    (fun b s hb ⟨hs,T⟩=>by
     obtain ⟨i,u'⟩:=s
     simp only at hs T
     subst hs
     obtain ⟨s,e,h1,h2⟩:=cJ (body:=kQ o ((a:Int),u) ((b:Int),u') x) (fun m s=>s.1=(m:Int)∧RB s.2 fun c d=>if c=a∧d=b then r a b && !(List.range m).any fun k=>r a k&&r k b else (decide (c<a)&&decide (d<n)&&cv n r c d)||(decide (c=a)&&decide (d<b)&&cv n r a d)) n (by omega)
      (fun m s hm ⟨hs,T⟩=>by
       obtain ⟨i,v⟩:=s
       simp only at hs T
       subst hs
       unfold kQ
       simp only [aZ,rC]
       rw [if_pos (by omega),dC _ (by omega),dC _ (by omega),X a m (by omega) (by omega),iL,cE (by omega) (by omega)]
       have nochg:(r a m&&r m b)=false→RB v fun c d=>if c=a∧d=b then r a b && !(List.range (m+1)).any fun k=>r a k&&r k b else (decide (c<a)&&decide (d<n)&&cv n r c d)||(decide (c=a)&&decide (d<b)&&cv n r a d):=fun g=>nD T fun c d _ _=>by
        rw [qH,g,Bool.or_false]
       by_cases c1:r a m=true
       ·rw [if_pos c1,dC _ (by omega),dC _ (by omega),X m b (by omega) (by omega),iL]
        by_cases c2:r m b=true
        ·rw [if_pos c2,dC _ (by omega),dC _ (by omega)]
         refine ⟨_,rfl,by simp only;omega,nD (aHx T (by omega) (by omega) false) fun c d _ _=>?_⟩
         by_cases e:c=a∧d=b
         ·rw [if_pos e,if_pos e,qH,c1,c2];simp
         ·rw [if_neg e,if_neg e,if_neg e]
        ·rw [if_neg c2]
         exact ⟨_,rfl,by simp only;omega,nochg (by rw [Bool.eq_false_iff.2 c2,Bool.and_false])⟩
       ·rw [if_neg c1,mK]
        exact ⟨_,rfl,by simp only;omega,nochg (by rw [Bool.eq_false_iff.2 c1,Bool.false_and])⟩) (fun s ⟨hs,_⟩=>by
       unfold kQ
       simp only [aZ]
       rw [if_neg (by omega)]) (0,u'.st2 8 (a:Int) (b:Int) (x.at2 8 (a:Int) (b:Int))) ⟨rfl,nD (aHx T (by omega) (by omega) _) fun c d _ _=>by
        by_cases e:c=a∧d=b
        ·rw [if_pos e,if_pos e,X a b (by omega) (by omega)];simp
        ·rw [if_neg e,if_neg e]⟩
     unfold kC
     simp only [aZ]
     rw [if_pos (by omega),dC _ (by omega),dC _ (by omega),dC _ (by omega),dC _ (by omega),e,bU,dK,cE (by omega) (by omega)]
     refine ⟨_,rfl,by simp only;omega,nD h2 fun c d _ _=>?_⟩
     by_cases e:c=a∧d=b
     ·obtain ⟨rfl,rfl⟩:=e
      rw [if_pos ⟨rfl,rfl⟩,decide_eq_false (Nat.lt_irrefl c),decide_eq_true rfl,decide_eq_true (Nat.lt_succ_self d)]
      simp only [Bool.false_and,Bool.false_or,Bool.true_and];rfl
     ·rw [if_neg e]
      by_cases e1:c=a
      ·rw [show decide (d<b+1)=decide (d<b) by rw [decide_eq_decide];omega]
      ·rw [decide_eq_false e1];simp) (fun s ⟨hs,_⟩=>by
     unfold kC
     simp only [aZ]
     rw [if_neg (by omega)]) (0,u) ⟨rfl,nD T fun a b _ _=>by simp⟩
   unfold kM
   simp only [aZ]
   rw [if_pos (by omega),e,bU,dK,cE (by omega) (by omega)]
   refine ⟨_,rfl,by simp only;omega,nD h2 fun c d _ _=>?_⟩
   by_cases e:c=a
   ·subst e
    rw [decide_eq_true rfl,decide_eq_false (Nat.lt_irrefl c),decide_eq_true (Nat.lt_succ_self c)];simp
   ·rw [decide_eq_false e,show decide (c<a+1)=decide (c<a) by rw [decide_eq_decide];omega];simp) (fun s ⟨hs,_⟩=>by
   unfold kM
   simp only [aZ]
   rw [if_neg (by omega)]) (0,Br.zero 64) ⟨rfl,nD aIT fun a b _ _=>by simp⟩
 unfold fY
 rw [h.rv,bU,cT,mH,ex,bU,e,bU,dK,hN,aCU n8 h2,bU]
 congr 3
 refine aAx fun a b ha hb=>?_
 rw [decide_eq_true ha,decide_eq_true hb];rfl
theorem aFd (hv:bR o=some false):eV o=some ([],70):=by
 unfold eV
 rw [hv,bU,cT,mK]
theorem aFG (h:OV o n t r):eV o=some (dO (pfx n r),0):=by
 have hN:=h.N;have n8:=h.n8
 have p8:=fO n8
 obtain ⟨x,ex,X⟩:=h.bef
 obtain ⟨s,e,h1,h2⟩:=cJ (body:=iJ o x) (fun k s=>s.2=(k:Int)∧s.1=dO ((List.range k).filter (dnB n r))) (2 ^ n) (by omega)
  (fun p s hp ⟨hs,hq⟩=>by
   obtain ⟨l,i⟩:=s
   simp only at hs hq
   subst hs hq
   have fl:((List.range p).filter (dnB n r)).length≤p:=by
    have:=List.length_filter_le (dnB n r) (List.range p)
    rwa [List.length_range] at this
   obtain ⟨s,e,i1,w1⟩:=cJ (body:=iG o (dO ((List.range p).filter (dnB n r)),(p:Int)) x) (fun a s=>s.2=(a:Int)∧(s.1=true↔∀ u v,u<a→v<n→r u v=true→p.testBit v=true→p.testBit u=true)) n (by omega)
    (fun a s ha ⟨hs,hq⟩=>by
     obtain ⟨w,i⟩:=s
     simp only at hs hq
     subst hs
     obtain ⟨s,e,i1,w1⟩:=cJ (body:=iH o (dO ((List.range p).filter (dnB n r)),(p:Int)) (w,(a:Int)) x) (fun b s=>s.2=(b:Int)∧(s.1=true↔w=true∧∀ v,v<b→r a v=true→p.testBit v=true→p.testBit a=true)) n (by omega)
      (fun b s hb ⟨hs,hq⟩=>by
       obtain ⟨z,i⟩:=s
       simp only at hs hq
       subst hs
       unfold iH
       simp only [aZ,rC]
       rw [if_pos (by omega),dC _ (by omega),dC _ (by omega),X a b (by omega) (by omega),iL,cE (by omega) (by omega)]
       have fin:∀ c:Bool,(c=true↔z=true∧(r a b=true→p.testBit b=true→p.testBit a=true))→(c=true↔w=true∧∀ v,v<b+1→r a v=true→p.testBit v=true→p.testBit a=true):=fun c hc=>by
        rw [hc,hq,and_assoc]
        refine and_congr_right fun _=>⟨fun g y hy=>?_,fun g=>⟨fun y hy=>g y (by omega),g b (by omega)⟩⟩
        by_cases e:y=b
        ·subst e;exact g.2
        ·exact g.1 y (by omega)
       by_cases c1:r a b=true
       ·rw [if_pos c1,dC _ (by omega),aTd (by omega),iL]
        by_cases c2:p.testBit b=true
        ·rw [if_pos c2,dC _ (by omega),aTu (by omega),cT,iL]
         by_cases c3:p.testBit a=true
         ·rw [if_pos c3]
          exact ⟨_,rfl,by simp only;omega,fin _ ⟨fun g=>⟨g,fun _ _=>c3⟩,fun g=>g.1⟩⟩
         ·rw [if_neg c3]
          exact ⟨_,rfl,by simp only;omega,fin _ ⟨fun g=>(by cases g),fun g=>absurd (g.2 c1 c2) c3⟩⟩
        ·rw [if_neg c2,mK]
         exact ⟨_,rfl,by simp only;omega,fin _ ⟨fun g=>⟨g,fun _ g=>absurd g c2⟩,fun g=>g.1⟩⟩
       ·rw [if_neg c1,mK]
        exact ⟨_,rfl,by simp only;omega,fin _ ⟨fun g=>⟨g,fun g=>absurd g c1⟩,fun g=>g.1⟩⟩) (fun s ⟨hs,_⟩=>by
       unfold iH
       simp only [aZ]
       rw [if_neg (by omega)]) (w,0) ⟨rfl,⟨fun g=>⟨g,fun y hy=>absurd hy (Nat.not_lt_zero _)⟩,fun g=>g.1⟩⟩
     unfold iG
     simp only [aZ]
     rw [if_pos (by omega),e,bU,dK,cE (by omega) (by omega)]
     refine ⟨_,rfl,by simp only;omega,?_⟩
     rw [w1,hq]
     refine ⟨fun g u v hu=>?_,fun g=>⟨fun u v hu=>g u v (by omega),fun v=>g a v (by omega)⟩⟩
     by_cases e:u=a
     ·subst e;exact g.2 v
     ·exact g.1 u v (by omega)) (fun s ⟨hs,_⟩=>by
     unfold iG
     simp only [aZ]
     rw [if_neg (by omega)]) (true,0) ⟨rfl,⟨fun _ u v hu=>absurd hu (Nat.not_lt_zero _),fun _=>rfl⟩⟩
   have hd:s.1=dnB n r p:=by
    rw [Bool.eq_iff_iff,w1,aA2 h.lt]
    exact ⟨fun g a b hr=>g a b (h.lt a b hr).1 (h.lt a b hr).2 hr,fun g a b _ _ hr=>g a b hr⟩
   unfold iJ
   simp only [aZ,rC]
   rw [hN,dC _ (by omega),aEo (by omega),if_pos (by omega),e,bU,dK,cE (x:=(p:Int)+1) (by omega) (by omega),hd,iL,List.range_succ,List.filter_append,zQ]
   by_cases c:dnB n r p=true
   ·rw [if_pos c,if_pos c,aAy,aCe (by simp only [aX,List.length_cons,List.length_nil];omega)]
    exact ⟨_,rfl,by simp only;omega,by rw [oW];rfl⟩
   ·rw [if_neg c,if_neg c]
    exact ⟨_,rfl,by simp only;omega,by rw [List.append_nil]⟩) (fun s ⟨hs,_⟩=>by
   unfold iJ
   simp only [aZ]
   rw [hN,dC _ (by omega),aEo (by omega),if_neg (by omega)]) ([],0) ⟨rfl,rfl⟩
 unfold eV
 rw [h.rv,bU,cT,mH,ex,bU,e,bU,dK,h2];rfl
theorem aH7 (hv:bR o=some false) (l:List Int):gF o l=some false:=by
 unfold gF
 simp only [rC]
 rw [hv,bU,cT,mK,mH]
theorem aOr {l:List Nat} (hl:l.length=n) (hd:l.Nodup) (hlt:∀ x∈l,x<n) {a:Nat} (ha:a<n):a∈l:=Classical.byContradiction fun g=>by
 have:=uC (l:=a::l) (m:=List.range n) (List.nodup_cons.2 ⟨g,hd⟩) (fun x hx=>List.mem_range.2 (by
  rcases List.mem_cons.1 hx with rfl | hx
  ·exact ha
  ·exact hlt x hx))
 rw [List.length_range,List.length_cons] at this;omega
theorem aIq (h:OV o n t r) (l:List Int):∃ v,gF o l=some v∧(v=true↔∃ ls,l=dO ls∧Ln n r ls∧ls.length=n):=by
 have n8:=h.n8
 have hN:=h.N
 obtain ⟨x,ex,X⟩:=h.bef
 unfold gF
 simp only [rC]
 rw [h.rv,bU,cT,mH]
 by_cases c:(l.length:Int)=o.N
 ·have ln:l.length=n:=by omega
  rw [show ((l.length:Int) != o.N)=false by rw [c];simp,mK,ex,bU]
  rcases wD (body:=gJ o l x) 0 l.length (Nat.zero_le _) (by omega) (fun i => !decide (0≤l.getD i default∧l.getD i default<(n:Int))||(List.range i).any fun k=>decide (l.getD k default=l.getD i default)||r (l.getD i default).toNat (l.getD k default).toNat) (fun _=>false)
   (fun i _ hi hb=>by
    unfold gJ
    simp only [aZ,rC]
    rw [if_pos (by omega),sV hi,sV hi]
    by_cases c1:l.getD i default<0
    ·rw [if_pos c1,mH,decide_eq_false (p:=0≤l.getD i default∧l.getD i default<(n:Int)) (by omega)];rfl
    rw [if_neg c1]
    by_cases c2:l.getD i default≥o.N
    ·rw [if_pos c2,decide_eq_false (p:=0≤l.getD i default∧l.getD i default<(n:Int)) (by omega)];rfl
    rw [if_neg c2,decide_eq_true (p:=0≤l.getD i default∧l.getD i default<(n:Int)) (by omega),Bool.not_true,Bool.false_or]
    have inr:∀ k,k≤i→∃ z:Nat,l.getD k default=(z:Int)∧z<n:=fun k hk=>by
     by_cases e:k=i
     ·subst e;exact ⟨(l.getD k default).toNat,by omega,by omega⟩
     ·have:=hb k (Nat.zero_le _) (by omega)
      rw [Bool.or_eq_false_iff,Bool.not_eq_false',decide_eq_true_eq] at this
      exact ⟨(l.getD k default).toNat,by omega,by omega⟩
    obtain ⟨zi,hzi,zin⟩:=inr i (Nat.le_refl _)
    have inner:=wD (body:=gH l (i:Int) x) 0 i (Nat.zero_le _) (by omega) (fun k=>decide (l.getD k default=l.getD i default)||r (l.getD i default).toNat (l.getD k default).toNat) (fun _=>false)
     (fun k _ hk _=>by
      obtain ⟨zk,hzk,zkn⟩:=inr k (by omega)
      unfold gH
      simp only [aZ,rC]
      rw [if_pos (by omega),sV (by omega),sV hi,sV hi,sV (by omega),pG,cE (by omega) (by omega)]
      by_cases c3:l.getD k default=l.getD i default
      ·rw [if_pos c3,mH,decide_eq_true c3];rfl
      ·rw [if_neg c3,decide_eq_false c3,Bool.false_or,hzi,hzk,dC _ (by omega),dC _ (by omega),X zi zk (by omega) (by omega),iL,Int.toNat_natCast,Int.toNat_natCast]
       split<;>rfl) (by
      unfold gH
      simp only [aZ]
      rw [if_neg (by omega)])
    rcases inner with ⟨g,e⟩ | ⟨k,_,k2,k3,_,e⟩
    ·have e':lp (gH l (i:Int) x) FU 0=_:=e
     rw [e',bU,dK,cE (by omega) (by omega),if_neg]
     intro q
     obtain ⟨k,hk,hq⟩:=List.any_eq_true.1 q
     rw [g k (Nat.zero_le _) (List.mem_range.1 hk)] at hq
     cases hq
    ·have e':lp (gH l (i:Int) x) FU 0=_:=e
     rw [e',bU,sZ,if_pos (List.any_eq_true.2 ⟨k,List.mem_range.2 k2,k3⟩)]) (by
   unfold gJ
   simp only [aZ]
   rw [if_neg (by omega)]) with ⟨g,e⟩ | ⟨i,_,i2,i3,_,e⟩
  ·have e':lp (gJ o l x) FU 0=_:=e
   rw [e',bU,dK]
   refine ⟨_,rfl,fun _=>?_,fun _=>rfl⟩
   have inr:∀ k,k<l.length→0≤l.getD k default∧l.getD k default<(n:Int):=fun k hk=>by
    have:=g k (Nat.zero_le _) hk
    rw [Bool.or_eq_false_iff,Bool.not_eq_false',decide_eq_true_eq] at this
    exact this.1
   have el:l=dO (l.map Int.toNat):=by
    refine yP (by rw [aX,List.length_map]) fun k hk=>?_
    rw [cQ (by rw [List.length_map];exact hk),dN (l:=l.map Int.toNat) (by rw [List.length_map];exact hk),List.getElem_map,← dN hk]
    have:=inr k hk;omega
   generalize l.map Int.toNat=ls at el
   subst el
   rw [aX] at ln g inr
   have hlt:∀ x∈ls,x<n:=fun x hx=>by
    obtain ⟨k,hk,rfl⟩:=lA hx
    have:=inr k hk
    rw [cQ hk] at this;omega
   have hpw:ls.Pairwise fun x y=>x≠y∧r y x=false:=by
    rw [List.pairwise_iff_getElem]
    intro k i hk hi hki
    have:=g i (Nat.zero_le _) hi
    rw [Bool.or_eq_false_iff] at this
    have:=(List.any_eq_false.1 this.2) k (List.mem_range.2 hki)
    rw [cQ hk,cQ hi,Int.toNat_natCast,Int.toNat_natCast,Bool.or_eq_true,decide_eq_true_eq,dN hk,dN hi] at this
    exact ⟨fun q=>this (.inl (by rw [q])),Bool.eq_false_iff.2 fun q=>this (.inr q)⟩
   exact ⟨ls,rfl,aPP h.ir _ rfl hlt hpw fun y hy a ha=>aOr ln (hpw.imp fun q=>q.1) hlt (h.lt _ _ ha).1,ln⟩
  ·have e':lp (gJ o l x) FU 0=_:=e
   rw [e',bU,sZ]
   refine ⟨_,rfl,fun q=>(by cases q),fun ⟨ls,q1,q2,q3⟩=>?_⟩
   exfalso
   subst q1
   rw [aX] at i2
   have hlt:=aGI q2 _ (bZ i2)
   have hpw:=aED _ rfl q2
   rw [Bool.or_eq_true,cQ i2,decide_eq_true (by omega),Bool.not_true] at i3
   rcases i3 with i3 | i3
   ·cases i3
   ·obtain ⟨k,hk,hq⟩:=List.any_eq_true.1 i3
    have hki:=List.mem_range.1 hk
    rw [cQ (by omega),Int.toNat_natCast,Int.toNat_natCast,Bool.or_eq_true,decide_eq_true_eq] at hq
    have:=List.pairwise_iff_getElem.1 hpw k i (by omega) i2 hki
    rw [dN (by omega),dN i2] at hq
    rcases hq with hq | hq
    ·exact this.1 (by omega)
    ·rw [this.2] at hq;cases hq
 ·rw [show ((l.length:Int) != o.N)=true by simpa using c,mH]
  exact ⟨_,rfl,⟨fun z=>(by cases z),fun ⟨ls,q1,_,q3⟩=>absurd (by rw [q1,aX,q3,hN]) c⟩⟩
end
theorem aOo (l:List Int) (x:Int) (hl:l.length≤9223372036854775807):jG l x=some (decide (x∈l)):=by
 unfold jG
 rcases wD (body:=kW l x) 0 l.length (Nat.zero_le _) hl (fun k=>l.getD k default==x) (fun _=>true)
  (fun k _ hk _=>by
   unfold kW
   simp only [aZ]
   rw [if_pos (by omega),sV hk,cE (by omega) (by omega),iL]
   split<;>rfl) (by
   unfold kW
   simp only [aZ]
   rw [if_neg (by omega)]) with ⟨h,e⟩ | ⟨k,_,h2,h3,_,e⟩
 ·have e':lp (kW l x) FU 0=_:=e
  rw [e',bU,dK,decide_eq_false]
  intro hx
  obtain ⟨k,hk,q⟩:=lA hx
  have:=h k (Nat.zero_le _) hk
  rw [q] at this;simp at this
 ·have e':lp (kW l x) FU 0=_:=e
  rw [e',bU,sZ,decide_eq_true]
  have:=bZ h2
  rwa [beq_iff_eq.1 h3] at this
theorem aJU {l:List Nat} (x:Nat) (hl:l.length≤1000):jG (dO l) (x:Int)=some (decide (x∈l)):=by
 rw [aOo _ _ (by rw [aX];omega)]
 congr 1
 rw [decide_eq_decide];exact aC2
section
variable {o:aE} {n:Nat} {t:Ar 8} {r:Nat→Nat→Bool}
theorem aEP (hv:bR o=some false):fB o=some ([],70):=by
 unfold fB
 rw [hv,bU,cT,mK]
theorem aAX (h:OV o n t r):∃ ls,fB o=some (dO ls,0)∧Ln n r ls∧ls.length=n∧Gd r ls:=by
 have n8:=h.n8
 have hN:=h.N
 obtain ⟨x,ex,X⟩:=h.bef
 obtain ⟨s,e,ls,rfl,hl,h1,h2⟩:=cJ (body:=mW o x) (fun k s=>∃ ls,s=dO ls∧ls.length=k∧Ln n r ls∧Gd r ls) n (by omega)
  (fun k s hk ⟨ls,hs,hl,h1,h2⟩=>by
   subst hs
   obtain ⟨y,e,hy⟩:=lC (body:=oZ o x) (fun s=>∃ z:Nat,s=(dO ls,(z:Int))∧z≤n∧∀ y,y<z→¬fr r (msk ls) y) (fun s=>n-s.2.toNat)
    (fun y=>match y with | .inl s=>∃ z,s.1=dO (ls++[z])∧z<n∧fr r (msk ls) z∧∀ y,y<z→¬fr r (msk ls) y | .inr _=>False)
    (fun s ⟨z,hs,hz,hb⟩=>by
     subst hs
     unfold oZ
     simp only [aZ]
     by_cases c:z<n
     ·obtain ⟨s,e,i1,w1⟩:=cJ (body:=nC o (dO ls,(z:Int)) x) (fun a s=>s.2=(a:Int)∧(s.1=true↔z ∉ ls∧∀ b,b<a→r b z=true→b∈ls)) n (by omega)
       (fun a s ha ⟨hs,hq⟩=>by
        obtain ⟨v,i⟩:=s
        simp only at hs hq
        subst hs
        have fin:∀ c:Bool,(c=true↔v=true∧(r a z=true→a∈ls))→(c=true↔z ∉ ls∧∀ b,b<a+1→r b z=true→b∈ls):=fun c hc=>by
         rw [hc,hq,and_assoc]
         refine and_congr_right fun _=>⟨fun g y hy=>?_,fun g=>⟨fun y hy=>g y (by omega),g a (by omega)⟩⟩
         by_cases e:y=a
         ·subst e;exact g.2
         ·exact g.1 y (by omega)
        unfold nC
        simp only [aZ,rC]
        rw [if_pos (by omega),dC _ (by omega),dC _ (by omega),X a z (by omega) (by omega),iL,cE (by omega) (by omega)]
        by_cases c1:r a z=true
        ·rw [if_pos c1,aJU a (by omega),bU,cT,aZ]
         by_cases c2:a∈ls
         ·rw [if_pos c2]
          exact ⟨_,rfl,by simp only;omega,fin _ ⟨fun g=>⟨g,fun _=>c2⟩,fun g=>g.1⟩⟩
         ·rw [if_neg c2]
          exact ⟨_,rfl,by simp only;omega,fin _ ⟨fun g=>(by cases g),fun g=>absurd (g.2 c1) c2⟩⟩
        ·rw [if_neg c1,mK]
         exact ⟨_,rfl,by simp only;omega,fin _ ⟨fun g=>⟨g,fun g=>absurd g c1⟩,fun g=>g.1⟩⟩) (fun s ⟨hs,_⟩=>by
        unfold nC
        simp only [aZ]
        rw [if_neg (by omega)]) (!decide (z∈ls),0) ⟨rfl,by
         rw [Bool.not_eq_true',decide_eq_false_iff_not]
         exact ⟨fun g=>⟨g,fun b hb=>absurd hb (Nat.not_lt_zero _)⟩,fun g=>g.1⟩⟩
      have hf:s.1=true↔fr r (msk ls) z:=by
       rw [w1]
       unfold fr
       rw [nP h1,decide_eq_false_iff_not]
       refine and_congr_right fun _=>⟨fun g a ha=>?_,fun g b _ hb=>?_⟩
       ·rw [nP h1,decide_eq_true_eq];exact g a (h.lt _ _ ha).1 ha
       ·have:=g b hb
        rwa [nP h1,decide_eq_true_eq] at this
      rw [if_pos (by omega),aJU z (by omega),bU,e,bU,dK,iL,cE (by omega) (by omega)]
      by_cases cf:s.1=true
      ·rw [if_pos cf,aAy,aCe (by simp only [aX,List.length_cons,List.length_nil];omega)]
       exact .inr (.inl ⟨_,rfl,z,by rw [oW];rfl,c,hf.1 cf,hb⟩)
      ·rw [if_neg cf]
       refine .inl ⟨_,rfl,⟨z+1,rfl,c,fun y hy=>?_⟩,by simp only;omega⟩
       by_cases e:y=z
       ·subst e;exact fun g=>cf (hf.2 g)
       ·exact hb y (by omega)
     ·obtain ⟨w,w1,w2⟩:=h.fr_ex h1 (by omega)
      exact absurd w2 (hb w (by omega))) (dO ls,0) ⟨0,rfl,Nat.zero_le _,fun y hy=>absurd hy (Nat.not_lt_zero _)⟩ (by simp only;omega)
   unfold mW
   simp only [aZ,aX]
   rw [if_pos (by omega),e,bU]
   cases y with
   | inr v=>exact hy.elim
   | inl s=>
    obtain ⟨z,z1,z2,z3,z4⟩:=hy
    rw [dK]
    exact ⟨_,rfl,ls++[z],z1,by rw [List.length_append,hl];rfl,aAn.2 ⟨h1,z2,z3⟩,aKA h2 z4⟩) (fun s ⟨ls,hs,hl,_⟩=>by
   subst hs
   unfold mW
   simp only [aZ,aX]
   rw [if_neg (by omega)]) [] ⟨[],rfl,rfl,trivial,fun k hk=>absurd hk (Nat.not_lt_zero _)⟩
 unfold fB
 rw [h.rv,bU,cT,mH,ex,bU,e,bU,dK]
 exact ⟨ls,rfl,h1,hl,h2⟩
theorem aMb (h:OV o n t r):∃ ls,gI o=some (dO ls,0)∧fB o=some (dO ls,0)∧Ln n r ls∧ls.length=n:=by
 obtain ⟨ls,e1,a1,a2,a3⟩:=aNR h
 obtain ⟨ms,e2,b1,b2,b3⟩:=aAX h
 obtain rfl:=aKn a1 b1 a3 b3 (by omega)
 exact ⟨ls,e1,e2,a1,a2⟩
theorem aH1 (hv:bR o=some false):fZ o=some ([],70):=by
 unfold fZ
 rw [aEP hv,bU]
 simp only
 rw [show ((70:Int) != 0)=true from rfl,mH]
theorem aHW (h:OV o n t r):∃ W,eQ o=some (W,0)∧fZ o=some (W,0)∧W.length≤8:=by
 have n8:=h.n8
 have hN:=h.N
 obtain ⟨x,ex,X⟩:=h.bef
 obtain ⟨W,L,eW,hW,hL,hL8⟩:=aJj h
 obtain ⟨ls,el,l1,l2,_⟩:=aAX h
 refine ⟨W,eW,?_,by have:=hW.1;omega⟩
 obtain ⟨s,e,h1,f,h2,h3⟩:=cJ (body:=kI (dO ls,0) x) (fun k s=>s.1=(k:Int)∧∃ f,Rep n s.2 f∧∀ b,f b=if b∈ls.take k then L b else 0) ls.length (by omega)
  (fun k s hk ⟨hs,f,g1,g2⟩=>by
   obtain ⟨u,Y⟩:=s
   simp only at hs g1
   subst hs
   obtain ⟨q1,q2,q3⟩:=aGs l1 hk
   generalize hb:ls.getD k default=b at q2 q3
   have bno:b ∉ ls.take k:=by
    have:=q3.1
    rwa [nP q1,decide_eq_false_iff_not] at this
   have bpre:∀ a,r a b=true→a∈ls.take k:=fun a ha=>by
    have:=q3.2 a ha
    rwa [nP q1,decide_eq_true_eq] at this
   have gin:∀ m,m<k→ls.getD m default∈ls.take k:=fun m hm=>by
    have:(ls.take k).getD m default=ls.getD m default:=by
     rw [List.getD_eq_getElem?_getD,List.getElem?_take_of_lt hm,← List.getD_eq_getElem?_getD]
    rw [← this]
    exact bZ (by rw [List.length_take];omega)
   obtain ⟨s,e,w1,v,w2,w3,w4,w5⟩:=cJ (body:=jV ((k:Int),Y) (dO ls,0) x) (fun m s=>s.1=(m:Int)∧∃ v:Nat,Rep n s.2 (upf f b v)∧v≤9∧(∀ j,j<m→r (ls.getD j default) b=true→L (ls.getD j default)<v)∧(v=0∨∃ j,j<m∧r (ls.getD j default) b=true∧L (ls.getD j default)+1=v)) k (by omega)
    (fun m s hm ⟨hs,v,g5,g6,g7,g8⟩=>by
     obtain ⟨u,Z⟩:=s
     simp only at hs g5
     subst hs
     obtain ⟨x1,x2⟩:=g5
     have amin:=gin m hm
     have aln:ls.getD m default<n:=aGI l1 _ (bZ (by omega))
     have ixk:∀ {γ:Type} (F:Int→Option γ),ix (dO ls) default (k:Int) F=F (b:Int):=fun F=>by
      rw [sV (by rw [aX];exact hk),cQ hk,hb]
     have ixm:∀ {γ:Type} (F:Int→Option γ),ix (dO ls) default (m:Int) F=F ((ls.getD m default:Nat):Int):=fun F=>by
      rw [sV (by rw [aX];omega),cQ (by omega)]
     unfold jV
     simp only [aZ,rC,ixk,ixm]
     generalize hma:ls.getD m default=a at amin aln ⊢
     have fa:f a=L a:=by rw [g2,if_pos amin]
     have la:=hL8 a
     rw [if_pos (by omega),dC _ (by omega),dC _ (by omega),X a b (by omega) (by omega),iL,cE (x:=(m:Int)+1) (by omega) (by omega)]
     by_cases c:r a b=true
     ·have hmb:a≠b:=fun q=>by rw [q,h.ir] at c;cases c
      rw [if_pos c,dC _ (by omega),dC _ (by omega),dC _ (by omega),aO3,Int.toNat_natCast,Int.toNat_natCast,x2 b (by omega),x2 a (by omega),vI,qB _ _ hmb,fa,cE (by omega) (by omega)]
      have emax:aH4 ((v:Nat):Int) ((L a:Int)+1)=((max v (L a+1):Nat):Int):=by
       unfold aH4;split<;>omega
      rw [emax]
      refine ⟨_,rfl,by simp only;omega,max v (L a+1),?_,by omega,fun j hj hr=>?_,?_⟩
      ·have:=aKy ⟨x1,x2⟩ q2 (max v (L a+1))
       refine ⟨this.1,fun x hx=>?_⟩
       rw [this.2 x hx]
       by_cases e:x=b
       ·rw [e,vI,vI]
       ·rw [qB _ _ e,qB _ _ e,qB _ _ e]
      ·by_cases e:j=m
       ·subst e;rw [hma];exact Nat.lt_of_lt_of_le (Nat.lt_succ_self _) (Nat.le_max_right _ _)
       ·exact Nat.lt_of_lt_of_le (g7 j (by omega) hr) (Nat.le_max_left _ _)
      ·by_cases e:v<L a+1
       ·exact .inr ⟨m,by omega,by rw [hma];exact c,by rw [hma];omega⟩
       ·rcases g8 with g8 | ⟨j,a1,a2,a3⟩
        ·omega
        ·exact .inr ⟨j,by omega,a2,by omega⟩
     ·rw [if_neg c]
      refine ⟨_,rfl,by simp only;omega,v,⟨x1,x2⟩,g6,fun j hj hr=>?_,?_⟩
      ·by_cases e:j=m
       ·subst e;rw [hma] at hr;exact absurd hr c
       ·exact g7 j (by omega) hr
      ·rcases g8 with g8 | ⟨j,a1,a2,a3⟩
       ·exact .inl g8
       ·exact .inr ⟨j,by omega,a2,a3⟩) (fun s ⟨hs,_⟩=>by
     unfold jV
     simp only [aZ]
     rw [if_neg (by omega)]) (0,Y) ⟨rfl,0,⟨g1.1,fun x hx=>by
      rw [g1.2 x hx]
      by_cases e:x=b
      ·rw [e,g2,if_neg bno,vI]
      ·rw [qB _ _ e]⟩,by omega,fun a ha=>absurd ha (Nat.not_lt_zero _),.inl rfl⟩
   unfold kI
   simp only [aZ,aX]
   rw [if_pos (by omega),e,bU,dK,cE (by omega) (by omega)]
   refine ⟨_,rfl,by simp only;omega,_,w2,fun c=>?_⟩
   rw [gW hk,hb]
   have hvL:v=L b:=by
    obtain ⟨y1,y2⟩:=hL b q2
    have up:v≤L b:=by
     rcases w5 with w5 | ⟨j,j1,j2,j3⟩
     ·omega
     ·have:=y1 _ j2;omega
    rcases y2 with y2 | ⟨a,a1,a2⟩
    ·omega
    ·obtain ⟨j,j1,j2⟩:=lA (bpre a a1)
     rw [List.length_take] at j1
     have:ls.getD j default=a:=by
      rw [← j2,List.getD_eq_getElem?_getD,List.getD_eq_getElem?_getD,List.getElem?_take_of_lt (by omega)]
     have:=w4 j (by omega) (by rw [this];exact a1)
     rw [‹ls.getD j default=a›] at this
     omega
   by_cases e:c=b
   ·rw [e,vI,if_pos (List.mem_append_right _ (List.mem_singleton.2 rfl)),hvL]
   ·rw [qB _ _ e,g2]
    by_cases g:c∈ls.take k
    ·rw [if_pos g,if_pos (List.mem_append_left _ g)]
    ·rw [if_neg g,if_neg]
     intro q
     rcases List.mem_append.1 q with q | q
     ·exact g q
     ·exact e (List.mem_singleton.1 q)) (fun s ⟨hs,_⟩=>by
   unfold kI
   simp only [aZ,aX]
   rw [if_neg (by omega)]) (0,List.replicate n (0:Int)) ⟨rfl,fun _=>0,⟨List.length_replicate,fun x hx=>by
    rw [dN (by rw [List.length_replicate];exact hx),List.getElem_replicate];rfl⟩,fun b=>by simp⟩
 unfold fZ
 rw [el,bU,vC,if_pos rfl,ex,bU,dC _ (by omega),aAy,hN,Int.toNat_natCast,e,bU,dK]
 congr 2
 refine yP (by rw [h2.1,hW.1]) fun j hj=>?_
 have hjn:j<n:=by rw [h2.1] at hj;exact hj
 rw [h2.2 j hjn,hW.2 j hjn,h3,List.take_length,if_pos (aBj l1 l2 hjn)]
end
theorem aNk {α:Type} (l:List α):sub l 0 (l.length:Int)=l:=by
 have:=aDN l 0
 rw [List.drop_zero] at this
 exact this
theorem aDb {α β:Type} (l:List α) (f:List α→Option β):slc l 0 (l.length:Int) f=f l:=by
 unfold slc
 rw [dC _ (by omega),aNk]
section
variable {o:aE} {n:Nat} {t:Ar 8} {r:Nat→Nat→Bool}
theorem aFY (h:OV o n t r) {x:Br 64} (X:RB x r):∀ (k a:Nat) (p:List Nat),suc n r a<k→a<n→p.length+suc n r a≤20→eT k (n:Int) x (dO (p++[a]))=some (dO (p++Cf n r a))
 | 0,_,_,hk,_,_=>absurd hk (Nat.not_lt_zero _)
 | k+1,a,p,hk,ha,hp=>by
  have n8:=h.n8
  show lB (eT k) (n:Int) x (dO (p++[a]))=_
  unfold lB
  have pl:(dO (p++[a])).length=p.length+1:=by rw [aX,List.length_append];rfl
  obtain ⟨s,e,h1,h2⟩:=cJ (body:=fF (eT k) (n:Int) x (dO (p++[a]))) (fun b s=>s.2=(b:Int)∧s.1=dO (p++[a]++bst (Cf n r) ((List.range b).filter fun b=>r a b) [])) n (by omega)
   (fun b s hb ⟨hs,hq⟩=>by
    obtain ⟨u,v⟩:=s
    simp only at hs hq
    subst hs hq
    have last:(dO (p++[a])).getD p.length default=(a:Int):=by
     rw [cQ (by rw [List.length_append];simp),aBg]
    have fs:(List.range (b+1)).filter (fun b=>r a b)=(List.range b).filter (fun b=>r a b)++if r a b=true then [b] else []:=by
     rw [List.range_succ,List.filter_append,zQ]
    unfold fF
    simp only [aZ,rC,aDb]
    rw [if_pos (by omega),if_pos (by omega),pl,show wr (((p.length+1:Nat):Int)-1)=(p.length:Int) by rw [cE (by omega) (by omega)];omega,sV (by omega),last,dC _ (by omega),dC _ (by omega),X a b (by omega) (by omega),cT,iL,cE (x:=(b:Int)+1) (by omega) (by omega)]
    by_cases c:r a b=true
    ·have sl:=h.suc_lt c
     have ih:=aFY h X k b (p++[a]) (by omega) hb (by rw [List.length_append];simp only [List.length_cons,List.length_nil];omega)
     rw [if_pos c]
     rw [aAy,aCe (by rw [pl];simp only [List.length_cons,List.length_nil];omega),show dO (p++[a])++[(b:Int)]=dO (p++[a]++[b]) by rw [oW (p++[a])];rfl,ih,bU,fs,if_pos c,xO]
     simp only [aX,List.length_append]
     refine ⟨(dO (p++[a]++bst (Cf n r) [b] (bst (Cf n r) ((List.range b).filter fun b=>r a b) [])),(b:Int)+1),?_,by simp only;omega,rfl⟩
     show _=some (Ct.nx (dO (p++[a]++if _ then _ else _),_))
     by_cases d:(bst (Cf n r) ((List.range b).filter fun b=>r a b) []).length<(Cf n r b).length
     ·rw [if_pos (by omega),if_pos d]
     ·rw [if_neg (by omega),if_neg d]
    ·rw [if_neg c]
     exact ⟨_,rfl,by simp only;omega,by rw [fs,if_neg c,List.append_nil]⟩) (fun s ⟨hs,_⟩=>by
    unfold fF
    simp only [aZ]
    rw [if_neg (by omega)]) (dO (p++[a]),0) ⟨rfl,by
     show _=dO (p++[a]++[])
     rw [List.append_nil]⟩
  rw [e,bU,dK,h2,aNm h,List.append_assoc];rfl
theorem aI3 (hv:bR o=some false):gY o=some ([],70):=by
 unfold gY
 rw [hv,bU,cT,mK]
theorem aKb (h:OV o n t r):gY o=some (dO (Chn n r),0):=by
 have n8:=h.n8
 obtain ⟨x,ex,X⟩:=h.bef
 have key:eT 12 (n:Int) x []=some (dO (Chn n r)):=by
  show lB (eT 11) (n:Int) x []=_
  unfold lB
  obtain ⟨s,e,h1,h2⟩:=cJ (body:=fF (eT 11) (n:Int) x []) (fun b s=>s.2=(b:Int)∧s.1=dO (bst (Cf n r) (List.range b) [])) n (by omega)
   (fun b s hb ⟨hs,hq⟩=>by
    obtain ⟨u,v⟩:=s
    simp only at hs hq
    subst hs hq
    have sl:=aJ5 n r b
    have ih:=aFY h X 11 b [] (by omega) hb (by simp only [List.length_nil];omega)
    unfold fF
    simp only [aZ,rC,aDb]
    rw [if_pos (by omega),if_neg (by simp),mK,cE (x:=(b:Int)+1) (by omega) (by omega)]
    have sa:∀ {γ:Type} (F:List Int→Option γ),slc [] 0 (([]:List Int).length:Int) F=F []:=fun F=>aDb [] F
    rw [aAy,aCe (by simp),show ([]:List Int)++[(b:Int)]=dO ([]++[b]) from rfl,ih,bU,List.range_succ,xO]
    simp only [aX,List.nil_append]
    refine ⟨(dO (bst (Cf n r) [b] (bst (Cf n r) (List.range b) [])),(b:Int)+1),?_,by simp only;omega,rfl⟩
    show _=some (Ct.nx (dO (if _ then _ else _),_))
    by_cases d:(bst (Cf n r) (List.range b) []).length<(Cf n r b).length
    ·rw [if_pos (by omega),if_pos d]
    ·rw [if_neg (by omega),if_neg d]) (fun s ⟨hs,_⟩=>by
    unfold fF
    simp only [aZ]
    rw [if_neg (by omega)]) ([],0) ⟨rfl,rfl⟩
  rw [e,bU,dK,h2];rfl
 unfold gY
 rw [h.rv,bU,cT,mH,ex,bU,h.N,key,bU]
def frB (n:Nat) (r:Nat→Nat→Bool) (S x:Nat):Bool := !S.testBit x&&(List.range n).all fun a => !r a x||S.testBit a
theorem aGJ (lt:∀ a b,r a b=true→a<n∧b<n) {S x:Nat}:frB n r S x=true↔fr r S x:=by
 unfold frB fr
 rw [Bool.and_eq_true,Bool.not_eq_true',List.all_eq_true]
 refine and_congr_right fun _=>⟨fun g a ha=>?_,fun g a _=>?_⟩
 ·have:=g a (List.mem_range.2 (lt a x ha).1)
  rw [ha] at this;simpa using this
 ·cases c:r a x
  ·rfl
  ·rw [g a c];rfl
def Qw (n:Nat) (r:Nat→Nat→Bool):Nat→Nat→Nat→Nat
 | 0,S,T=>if S=T then 1 else 0
 | m+1,S,T=>sm n fun x=>if frB n r S x=true then Qw n r m (S+2 ^ x) T else 0
theorem aPE {n:Nat} {c:Bool} {f:Nat→Nat}:(if c=true then sm n f else 0)=sm n fun x=>if c=true then f x else 0:=by
 cases c
 ·rw [if_neg (by simp)]
  exact ((eF fun i _=>by rw [if_neg (by simp)]).trans (rI n)).symm
 ·rw [if_pos rfl]
  exact eF fun i _=>by rw [if_pos rfl]
theorem aJz {S x:Nat} (h:frB n r S x=true):S.testBit x=false:=by
 unfold frB at h
 rw [Bool.and_eq_true,Bool.not_eq_true'] at h;exact h.1
theorem aGk:∀ (m S T:Nat),Qw n r (m+1) S T=sm n fun y=>if (T.testBit y&&frB n r (T-2 ^ y) y)=true then Qw n r m S (T-2 ^ y) else 0
 | 0,S,T=>by
  refine eF fun x _=>?_
  show (if _ then (if _ then 1 else 0) else 0)=if _ then (if _ then 1 else 0) else 0
  by_cases c:frB n r S x=true∧S+2 ^ x=T
  ·obtain ⟨c1,rfl⟩:=c
   have hb:=aJz c1
   rw [if_pos c1,if_pos rfl,Nat.add_sub_cancel,if_pos,if_pos rfl]
   rw [c1,aF9 hb];simp
  ·by_cases d:(T.testBit x&&frB n r (T-2 ^ x) x)=true∧S=T-2 ^ x
   ·exfalso
    obtain ⟨d1,rfl⟩:=d
    rw [Bool.and_eq_true] at d1
    refine c ⟨d1.2,?_⟩
    have:=aA7 d1.1
    omega
   ·have e1:(if frB n r S x=true then (if S+2 ^ x=T then 1 else 0) else 0)=0:=by
     by_cases c1:frB n r S x=true
     ·rw [if_pos c1,if_neg fun q=>c ⟨c1,q⟩]
     ·rw [if_neg c1]
    have e2:(if (T.testBit x&&frB n r (T-2 ^ x) x)=true then (if S=T-2 ^ x then 1 else 0) else 0)=0:=by
     by_cases c1:(T.testBit x&&frB n r (T-2 ^ x) x)=true
     ·rw [if_pos c1,if_neg fun q=>d ⟨c1,q⟩]
     ·rw [if_neg c1]
    rw [e1,e2]
 | m+1,S,T=>by
  have e1:Qw n r (m+1+1) S T=sm n fun x=>sm n fun y=>if frB n r S x=true then (if (T.testBit y&&frB n r (T-2 ^ y) y)=true then Qw n r m (S+2 ^ x) (T-2 ^ y) else 0) else 0:=by
   show sm n _=_
   refine eF fun x _=>?_
   rw [aGk m (S+2 ^ x) T,aPE]
  rw [e1,aGK]
  refine eF fun y _=>?_
  show _=if _ then sm n _ else 0
  rw [aPE]
  refine eF fun x _=>?_
  by_cases c:frB n r S x=true
  ·rw [if_pos c,if_pos c]
  ·rw [if_neg c,if_neg c];split<;>rfl
theorem aP8 (lt:∀ a b,r a b=true→a<n∧b<n):∀ (m T:Nat),¬Dn r T→Qw n r m 0 T=0
 | 0,T,h=>if_neg fun q=>h (by subst q;intro a b _ hb;simp at hb)
 | m+1,T,h=>by
  rw [aGk]
  refine (eF fun y _=>?_).trans (rI n)
  by_cases c:(T.testBit y&&frB n r (T-2 ^ y) y)=true
  ·rw [if_pos c]
   rw [Bool.and_eq_true,aGJ lt] at c
   refine aP8 lt m _ fun g=>h fun a b hr hb=>?_
   by_cases e:b=y
   ·subst e
    have:=c.2.2 a hr
    rw [aAz c.1,Bool.and_eq_true] at this;exact this.1
   ·have:=g a b hr (by rw [aAz c.1,hb,decide_eq_false e];rfl)
    rw [aAz c.1,Bool.and_eq_true] at this;exact this.1
  ·rw [if_neg c]
theorem aPU (h:OV o n t r):∀ (m T:Nat),T<2 ^ n→pc n T=m→Lc n r T=Qw n r m 0 T
 | m,T,hT,hm=>by
  by_cases d:Dn r T
  ·rw [aJX,if_pos ((aA2 h.lt).2 d)]
   cases m with
   | zero=>
    have t0:T=0:=by
     refine xQ fun i=>?_
     rw [Nat.zero_testBit]
     cases c:T.testBit i
     ·rfl
     ·have:=aMI (n:=n) (f:=fun x=>(T.testBit x).toNat) (aML hT c) (by rw [c];exact Nat.one_pos)
      have:0<pc n T:=this
      omega
    rw [if_pos t0];exact (if_pos t0.symm).symm
   | succ m=>
    have t0:T≠0:=fun q=>by rw [q,aGm] at hm;omega
    rw [if_neg t0,aGk]
    refine eF fun y hy=>?_
    by_cases c:T.testBit y=true
    ·have hf:frB n r (T-2 ^ y) y=true:=(aGJ h.lt).2 ⟨by rw [aAz c];simp,fun a ha=>by
      rw [aAz c,d a y ha c,decide_eq_false (fun q=>by rw [q,h.ir] at ha;cases ha)];rfl⟩
     rw [if_pos c,if_pos (by rw [c,hf];rfl)]
     have hb:(T-2 ^ y).testBit y=false:=by rw [aAz c];simp
     have e:T-2 ^ y+2 ^ y=T:=Nat.sub_add_cancel (by have:=aA7 c;omega)
     have py0:=Nat.two_pow_pos y
     have:=aHb hy hb
     rw [e] at this
     exact aPU h m _ (by omega) (by omega)
    ·rw [if_neg c,if_neg (by rw [Bool.eq_false_iff.2 c];simp)]
  ·rw [aP8 h.lt m T d]
   exact aQ7 (Bool.eq_false_iff.2 fun q=>d ((aA2 h.lt).1 q))
theorem aPa:∀ (m S T:Nat),n≤8→Qw n r m S T≤8 ^ m
 | 0,S,T,_=>by show (if _ then 1 else 0)≤1;split<;>omega
 | m+1,S,T,n8=>by
  show sm n _≤_
  have:=uU (n:=n) (m:=8 ^ m) (f:=fun x=>if frB n r S x=true then Qw n r m (S+2 ^ x) T else 0) fun i _=>by
   split
   ·exact aPa m _ T n8
   ·exact Nat.zero_le _
  refine Nat.le_trans this ?_
  rw [Nat.pow_succ,Nat.mul_comm]
  exact Nat.mul_le_mul_left _ n8
theorem aFD (h:OV o n t r) {x:Br 64} (X:RB x r):∀ (k m S:Nat),m<k→S<2 ^ n→pc n S+m=n→fV k (n:Int) x (S:Int)=some ((Qw n r m S (2 ^ n-1):Nat):Int)
 | 0,_,_,hk,_,_=>absurd hk (Nat.not_lt_zero _)
 | k+1,m,S,hk,hS,hm=>by
  have n8:=h.n8
  have p8:=fO n8
  have pp:=Nat.two_pow_pos n
  show pU (fV k) (n:Int) x (S:Int)=_
  unfold pU
  have full:S=2 ^ n-1↔m=0:=by
   constructor
   ·intro e
    have:pc n S=n:=zG.2 fun x hx=>by rw [e,Nat.testBit_two_pow_sub_one];simpa using hx
    omega
   ·intro e
    have hf:=zG.1 (show pc n S=n by omega)
    refine xQ fun i=>?_
    rw [Nat.testBit_two_pow_sub_one]
    by_cases hi:i<n
    ·rw [hf i hi,decide_eq_true hi]
    ·rw [decide_eq_false hi]
     cases c:S.testBit i
     ·rfl
     ·exact absurd (aML hS c) hi
  rw [dC _ (by omega),aEo (by omega),cE (by omega) (by omega),pG]
  cases m with
  | zero=>
   have:=full.2 rfl
   rw [if_pos (by omega)]
   show _=some (((if _ then 1 else 0:Nat):Nat):Int)
   rw [if_pos this];rfl
  | succ m=>
   have nf:S≠2 ^ n-1:=fun q=>by have:=full.1 q;omega
   rw [if_neg (by omega)]
   have qb:∀ y,y≤n→sm y (fun z=>if frB n r S z=true then Qw n r m (S+2 ^ z) (2 ^ n-1) else 0)≤134217728:=fun y hy=>by
    have h1:=aGT (f:=fun z=>if frB n r S z=true then Qw n r m (S+2 ^ z) (2 ^ n-1) else 0) hy
    have h2:sm n (fun z=>if frB n r S z=true then Qw n r m (S+2 ^ z) (2 ^ n-1) else 0)≤8 ^ (m+1):=aPa (m+1) S (2 ^ n-1) n8
    have h3:8 ^ (m+1)≤8 ^ 9:=Nat.pow_le_pow_right (by omega) (by omega)
    have h4:(8:Nat) ^ 9=134217728:=by decide
    omega
   obtain ⟨s,e,h1,h2⟩:=cJ (body:=kH (fV k) (n:Int) x (S:Int)) (fun y s=>s.2=(y:Int)∧s.1=((sm y (fun z=>if frB n r S z=true then Qw n r m (S+2 ^ z) (2 ^ n-1) else 0):Nat):Int)) n (by omega)
    (fun y s hy ⟨hs,hq⟩=>by
     obtain ⟨u,v⟩:=s
     simp only at hs hq
     subst hs hq
     obtain ⟨s,e,i1,w1⟩:=cJ (body:=jH (n:Int) x (S:Int) (((sm y (fun z=>if frB n r S z=true then Qw n r m (S+2 ^ z) (2 ^ n-1) else 0):Nat):Int),(y:Int))) (fun a s=>s.2=(a:Int)∧(s.1=true↔S.testBit y=false∧∀ b,b<a→r b y=true→S.testBit b=true)) n (by omega)
      (fun a s ha ⟨hs,hq⟩=>by
       obtain ⟨v,i⟩:=s
       simp only at hs hq
       subst hs
       have fin:∀ c:Bool,(c=true↔v=true∧(r a y=true→S.testBit a=true))→(c=true↔S.testBit y=false∧∀ b,b<a+1→r b y=true→S.testBit b=true):=fun c hc=>by
        rw [hc,hq,and_assoc]
        refine and_congr_right fun _=>⟨fun g y hy=>?_,fun g=>⟨fun y hy=>g y (by omega),g a (by omega)⟩⟩
        by_cases e:y=a
        ·subst e;exact g.2
        ·exact g.1 y (by omega)
       unfold jH
       simp only [aZ,rC]
       rw [if_pos (by omega),iL,cE (by omega) (by omega)]
       by_cases c0:v=true
       ·rw [if_pos c0,dC _ (by omega),dC _ (by omega),X a y (by omega) (by omega),cT,iL]
        by_cases c1:r a y=true
        ·rw [if_pos c1,dC _ (by omega),aTd (by omega)]
         exact ⟨_,rfl,by simp only;omega,fin _ ⟨fun g=>⟨c0,fun _=>g⟩,fun g=>g.2 c1⟩⟩
        ·rw [if_neg c1]
         exact ⟨_,rfl,by simp only;omega,fin _ ⟨fun _=>⟨c0,fun g=>absurd g c1⟩,fun _=>rfl⟩⟩
       ·rw [if_neg c0]
        exact ⟨_,rfl,by simp only;omega,fin _ ⟨fun g=>(by cases g),fun g=>absurd g.1 c0⟩⟩) (fun s ⟨hs,_⟩=>by
       unfold jH
       simp only [aZ]
       rw [if_neg (by omega)]) (!S.testBit y,0) ⟨rfl,by
        rw [Bool.not_eq_true']
        exact ⟨fun g=>⟨g,fun b hb=>absurd hb (Nat.not_lt_zero _)⟩,fun g=>g.1⟩⟩
     have hf:s.1=frB n r S y:=by
      rw [Bool.eq_iff_iff,w1,aGJ h.lt]
      exact and_congr_right fun _=>⟨fun g a ha=>g a (h.lt _ _ ha).1 ha,fun g b _ hb=>g b hb⟩
     have sms:sm (y+1) (fun z=>if frB n r S z=true then Qw n r m (S+2 ^ z) (2 ^ n-1) else 0)=sm y (fun z=>if frB n r S z=true then Qw n r m (S+2 ^ z) (2 ^ n-1) else 0)+(if frB n r S y=true then Qw n r m (S+2 ^ y) (2 ^ n-1) else 0):=rfl
     have b1:=qb (y+1) hy
     unfold kH
     simp only [aZ,rC]
     rw [if_pos (by omega),dC _ (by omega),aTu (by omega),e,bU,dK,hf,iL,cE (x:=(y:Int)+1) (by omega) (by omega)]
     by_cases c:frB n r S y=true
     ·have hb:=aJz c
      have hlt:S+2 ^ y<2 ^ n:=by
       rw [← aCV hb];exact Nat.or_lt_two_pow hS (Nat.pow_lt_pow_right (by omega) hy)
      have py:=fO (k:=y) (by omega)
      have py0:=Nat.two_pow_pos y
      rw [if_pos c,dC _ (by omega),aEo (by omega),cE (x:=(S:Int)+((2 ^ y:Nat):Int)) (by omega) (by omega),show (S:Int)+((2 ^ y:Nat):Int)=((S+2 ^ y:Nat):Int) by omega,aFD h X k m (S+2 ^ y) (by omega) hlt (by rw [aHb hy hb];omega),bU]
      rw [if_pos c] at sms
      rw [cE (by omega) (by omega)]
      exact ⟨_,rfl,by simp only;omega,by simp only;omega⟩
     ·rw [if_neg c]
      rw [if_neg c] at sms
      exact ⟨_,rfl,by simp only;omega,by simp only;omega⟩) (fun s ⟨hs,_⟩=>by
     unfold kH
     simp only [aZ]
     rw [if_neg (by omega)]) (0,0) ⟨rfl,rfl⟩
   rw [e,bU,dK,h2];rfl
theorem aJM (hv:bR o=some false):hO o=some (0,70):=by
 unfold hO
 rw [hv,bU,cT,mK]
theorem aJb (h:OV o n t r):hO o=some (((Lc n r (2 ^ n-1):Nat):Int),0):=by
 have n8:=h.n8
 obtain ⟨x,ex,X⟩:=h.bef
 have pp:=Nat.two_pow_pos n
 have e1:=aFD h X 12 n 0 (by omega) pp (by rw [aGm];omega)
 have e2:=aPU h n (2 ^ n-1) (by omega) (zG.2 fun x hx=>by rw [Nat.testBit_two_pow_sub_one];simpa using hx)
 have e1':fV 12 (n:Int) x 0=_:=e1
 unfold hO
 rw [h.rv,bU,cT,mH,ex,bU,h.N,e1',bU,e2]
end
theorem aGO:((List.range 256).all fun s=>decide (lX (s:Int)=some (dO (eK s))))=true:=by kernel_rfl
theorem aHR {s:Nat} (h:s<256):lX (s:Int)=some (dO (eK s)):=of_decide_eq_true (List.all_eq_true.1 aGO s (List.mem_range.2 h))
theorem aIJ (l m:List Nat) (he:l.length=m.length) (hl:l.length≤1000):nM (dO l) (dO m)=some (aE5 l m):=by
 obtain ⟨y,e,hy⟩:=lC (body:=nT (dO l) (dO m)) (fun s=>∃ k:Nat,s=(k:Int)∧k≤l.length∧aE5 l m=aE5 (l.drop k) (m.drop k)) (fun s=>l.length-s.toNat)
  (fun y=>match y with | .inl _=>aE5 l m=false | .inr v=>v=aE5 l m)
  (fun s ⟨k,hs,hk,hq⟩=>by
   subst hs
   unfold nT
   simp only [aZ,aX,rC]
   by_cases c:k<l.length
   ·have il:∀ {γ:Type} (F:Int→Option γ),ix (dO l) default (k:Int) F=F ((l.getD k default:Nat):Int):=fun F=>by
     rw [sV (by rw [aX];exact c),cQ c]
    have im:∀ {γ:Type} (F:Int→Option γ),ix (dO m) default (k:Int) F=F ((m.getD k default:Nat):Int):=fun F=>by
     rw [sV (by rw [aX];omega),cQ (by omega)]
    simp only [il,im]
    rw [if_pos (by omega),if_pos (by omega),vC]
    rw [aFJ c (by omega)] at hq
    by_cases c1:l.getD k default=m.getD k default
    ·rw [if_pos (by omega),cE (by omega) (by omega)]
     rw [if_pos c1] at hq
     exact .inl ⟨_,rfl,⟨k+1,rfl,c,hq⟩,by omega⟩
    ·rw [if_neg (by omega)]
     rw [if_neg c1] at hq
     refine .inr (.inr ⟨_,rfl,?_⟩)
     show decide _=aE5 l m
     rw [hq,decide_eq_decide];omega
   ·rw [if_neg (by omega),mK]
    refine .inr (.inl ⟨_,rfl,?_⟩)
    show aE5 l m=false
    rw [hq,List.drop_of_length_le (by omega)];rfl) 0 ⟨0,rfl,Nat.zero_le _,rfl⟩ (by omega)
 unfold nM
 rw [e,bU]
 cases y with
 | inl s=>rw [dK];exact congrArg some (Eq.symm hy)
 | inr v=>rw [sZ];exact congrArg some hy
section
variable {o:aE} {n:Nat} {t:Ar 8} {r:Nat→Nat→Bool}
theorem aEb (hv:bR o=some false):eE o=some ([],70):=by
 unfold eE
 rw [hv,bU,cT,mK]
theorem aDq (h:OV o n t r):eE o=some (dO (aAP n r (2 ^ n)),0):=by
 have n8:=h.n8
 have hN:=h.N
 have p8:=fO n8
 obtain ⟨x,ex,X⟩:=h.bef
 obtain ⟨s,e,h1,h2⟩:=cJ (body:=gO o x) (fun p s=>s.2=(p:Int)∧s.1=dO (aAP n r p)) (2 ^ n) (by omega)
  (fun p s hp ⟨hs,hq⟩=>by
   obtain ⟨u,v⟩:=s
   simp only at hs hq
   subst hs hq
   have bl:=aAh p
   have sl:=aAW n r p
   have b8:∀ k,k<(eK p).length→(eK p).getD k default<8:=fun k hk=>List.mem_range.1 (List.mem_filter.1 (bZ hk)).1
   obtain ⟨s,e,_,w1⟩:=cJ (body:=gQ x (dO (eK p))) (fun i s=>s.2=(i:Int)∧(s.1=true↔∀ u v,u<i→v<(eK p).length→r ((eK p).getD u default) ((eK p).getD v default)=false)) (eK p).length (by omega)
    (fun i s hi ⟨hs,hq⟩=>by
     obtain ⟨w,i'⟩:=s
     simp only at hs hq
     subst hs
     obtain ⟨s,e,_,w1⟩:=cJ (body:=gM (w,(i:Int)) x (dO (eK p))) (fun k s=>s.2=(k:Int)∧(s.1=true↔w=true∧∀ v,v<k→r ((eK p).getD i default) ((eK p).getD v default)=false)) (eK p).length (by omega)
      (fun k s hk ⟨hs,hq⟩=>by
       obtain ⟨z,k'⟩:=s
       simp only at hs hq
       subst hs
       have:=b8 i hi
       have:=b8 k hk
       unfold gM
       simp only [aZ,rC,aX]
       rw [if_pos (by omega),iL,cE (by omega) (by omega)]
       have fin:∀ c:Bool,(c=true↔z=true∧r ((eK p).getD i default) ((eK p).getD k default)=false)→(c=true↔w=true∧∀ v,v<k+1→r ((eK p).getD i default) ((eK p).getD v default)=false):=fun c hc=>by
        rw [hc,hq,and_assoc]
        refine and_congr_right fun _=>⟨fun g y hy=>?_,fun g=>⟨fun y hy=>g y (by omega),g k (by omega)⟩⟩
        by_cases e:y=k
        ·subst e;exact g.2
        ·exact g.1 y (by omega)
       by_cases c:z=true
       ·rw [if_pos c,sV (by rw [aX];exact hi),cQ hi,sV (by rw [aX];exact hk),cQ hk,dC _ (by omega),dC _ (by omega),X _ _ (by omega) (by omega)]
        exact ⟨_,rfl,by simp only;omega,fin _ (by rw [Bool.not_eq_true'];exact ⟨fun g=>⟨c,g⟩,fun g=>g.2⟩)⟩
       ·rw [if_neg c]
        exact ⟨_,rfl,by simp only;omega,fin _ ⟨fun g=>(by cases g),fun g=>absurd g.1 c⟩⟩) (fun s ⟨hs,_⟩=>by
       unfold gM
       simp only [aZ,aX]
       rw [if_neg (by omega)]) (w,0) ⟨rfl,⟨fun g=>⟨g,fun y hy=>absurd hy (Nat.not_lt_zero _)⟩,fun g=>g.1⟩⟩
     unfold gQ
     simp only [aZ,aX]
     rw [if_pos (by omega),e,bU,dK,cE (by omega) (by omega)]
     refine ⟨_,rfl,by simp only;omega,?_⟩
     rw [w1,hq]
     refine ⟨fun g u v hu=>?_,fun g=>⟨fun u v hu=>g u v (by omega),fun v=>g i v (by omega)⟩⟩
     by_cases e:u=i
     ·subst e;exact g.2 v
     ·exact g.1 u v (by omega)) (fun s ⟨hs,_⟩=>by
     unfold gQ
     simp only [aZ,aX]
     rw [if_neg (by omega)]) (true,0) ⟨rfl,⟨fun _ u v hu=>absurd hu (Nat.not_lt_zero _),fun _=>rfl⟩⟩
   have key:s.1=aMf n r p:=by
    rw [Bool.eq_iff_iff,w1,aHF h.lt]
    have mb:∀ {z w},(r z w=true∨r w z=true)→p.testBit z=true→z∈eK p:=fun {z w} hr hz=>List.mem_filter.2 ⟨List.mem_range.2 (by
     rcases hr with hr | hr
     ·have:=(h.lt _ _ hr).1;omega
     ·have:=(h.lt _ _ hr).2;omega),hz⟩
    constructor
    ·intro g a b ha hb
     cases hr:r a b
     ·rfl
     ·obtain ⟨i,hi,ei⟩:=lA (mb (.inl hr) ha)
      obtain ⟨k,hk,ek⟩:=lA (mb (.inr hr) hb)
      have:=g i k hi hk
      rw [ei,ek,hr] at this;exact this
    ·intro g u v hu hv
     exact g _ _ (List.mem_filter.1 (bZ hu)).2 (List.mem_filter.1 (bZ hv)).2
   unfold gO
   simp only [aZ,rC]
   rw [hN,dC _ (by omega),aEo (by omega),if_pos (by omega),aHR (by omega),bU,e,bU,dK,key,iL,cE (x:=(p:Int)+1) (by omega) (by omega),aX,aX,aHP]
   by_cases c:aMf n r p=true
   ·rw [if_pos c,c,Bool.true_and]
    unfold btr
    by_cases c1:(aAP n r p).length<(eK p).length
    ·rw [if_pos (by omega),mH,decide_eq_true c1,Bool.true_or,if_pos rfl]
     exact ⟨_,rfl,by simp only;omega,rfl⟩
    ·rw [if_neg (by omega),decide_eq_false c1,Bool.false_or,pG]
     by_cases c2:(eK p).length=(aAP n r p).length
     ·rw [if_pos (by omega),aIJ _ _ c2 (by omega),bU,decide_eq_true c2,Bool.true_and,iL]
      by_cases c3:aE5 (eK p) (aAP n r p)=true
      ·rw [if_pos c3,if_pos c3];exact ⟨_,rfl,by simp only;omega,rfl⟩
      ·rw [if_neg c3,if_neg c3];exact ⟨_,rfl,by simp only;omega,rfl⟩
     ·rw [if_neg (by omega),mK,decide_eq_false c2,Bool.false_and,if_neg (by decide)]
      exact ⟨_,rfl,by simp only;omega,rfl⟩
   ·rw [if_neg c,mK,Bool.eq_false_iff.2 c,Bool.false_and,if_neg (by decide)]
    exact ⟨_,rfl,by simp only;omega,rfl⟩) (fun s ⟨hs,_⟩=>by
   unfold gO
   simp only [aZ]
   rw [hN,dC _ (by omega),aEo (by omega),if_neg (by omega)]) ([],0) ⟨rfl,rfl⟩
 unfold eE
 rw [h.rv,bU,cT,mH,ex,bU,e,bU,dK,h2]
end
section
variable {o:aE} {n len:Nat} {q:Nat→Nat→Bool}
theorem aFb (n8:n≤8) {x:Br 64} (X:RB x q) (hq:∀ a b:Nat,a<8→b<8→(q a b=true↔Ed o.Pairs a b)) (hl:len≤n) (hl0:0<len) :
  ∀ (k:Nat) (p:List Nat),Pth o.Pairs n p→p.length≤len→len-p.length<k→∃ y,fI k (n:Int) x (dO p) (len:Int)=some y∧Ext o.Pairs n len p y
 | 0,_,_,_,h=>absurd h (Nat.not_lt_zero _)
 | k+1,p,hp,h1,h2=>by
  show ∃ y,pM (fI k) (n:Int) x (dO p) (len:Int)=some y∧Ext o.Pairs n len p y
  unfold pM
  rw [pG,aX]
  by_cases c:p.length=len
  ·have lastlt:=hp.lt _ (bZ (show len-1<p.length by omega))
   have headlt:=hp.lt _ (bZ (show 0<p.length by omega))
   rw [if_pos (by omega),show wr ((len:Int)-1)=((len-1:Nat):Int) by rw [cE (by omega) (by omega)];omega,sV (by rw [aX];omega),cQ (by omega),show (0:Int)=((0:Nat):Int) from rfl,sV (by rw [aX];omega),cQ (by omega),dC _ (by omega),dC _ (by omega),X _ _ (by omega) (by omega),iL]
   have eqd:∀ d,wQ o.Pairs n len d→Px p d→d=p:=fun d hd hx=>by
    unfold Px at hx
    rw [List.take_of_length_le (by rw [hd.ln,c];exact Nat.le_refl _)] at hx;exact hx
   by_cases e:q (p.getD (len-1) default) (p.getD 0 default)=true
   ·rw [if_pos e]
    have he:=(hq _ _ (by omega) (by omega)).1 e
    refine ⟨_,rfl,p,rfl,⟨hp,c,hl0,he⟩,?_,fun d hd hx=>?_⟩
    ·unfold Px;rw [List.take_length]
    ·rw [eqd d hd hx];exact fun _ _ _=>Nat.le_refl _
   ·rw [if_neg e]
    refine ⟨_,rfl,fun d hd hx=>e ?_⟩
    have:=hd.cl
    rw [eqd d hd hx] at this
    exact (hq _ _ (by omega) (by omega)).2 this
  ·rw [if_neg (by omega)]
   have bnd:∀ d,wQ o.Pairs n len d→d.getD p.length default<n:=fun d hd=>hd.pt.lt _ (bZ (by rw [hd.ln];omega))
   obtain ⟨y,e,hy⟩:=lC (body:=jT (fI k) (n:Int) x (dO p) (len:Int)) (fun s=>∃ z:Nat,s=(z:Int)∧z≤n∧∀ w,w<z→∀ d,wQ o.Pairs n len d→¬Px (p++[w]) d) (fun s=>n-s.toNat)
    (fun y=>match y with | .inl _=>∀ d,wQ o.Pairs n len d→¬Px p d | .inr y=>∃ c,y=some c∧Ext o.Pairs n len p (some c))
    (fun s ⟨z,hs,hx,hz⟩=>by
     subst hs
     by_cases cx:z<n
     ·have nxt:(∀ d,wQ o.Pairs n len d→¬Px (p++[z]) d)→(∃ s',(some (.nx ((z:Int)+1)):Option (Ct Int (Option (List Int))))=some (.nx s')∧(∃ x:Nat,s'=(x:Int)∧x≤n∧∀ w,w<x→∀ d,wQ o.Pairs n len d→¬Px (p++[w]) d)∧n-s'.toNat<n-(z:Int).toNat):=fun g=>by
       refine ⟨_,rfl,⟨z+1,by omega,cx,fun w hw=>?_⟩,by omega⟩
       by_cases e:w<z
       ·exact hz w e
       ·rw [show w=z by omega];exact g
      have fin:z ∉ p→(0<p.length→Ed o.Pairs (p.getD (p.length-1) default) z)→∃ c,(slc (dO p) 0 ((dO p).length:Int) fun l10=>lt ([(z:Int)]:List Int) fun l11=>ap l10 l11 fun l12=>bd (fI k (n:Int) x l12 (len:Int)) fun y13=>gd (y13≠some []) (onK y13 (fun l14=>(some (.rt (some l14)):Option (Ct Int (Option (List Int))))) (some (.nx ((z:Int)+1)))))=some c ∧
        ((c=.nx ((z:Int)+1)∧∀ d,wQ o.Pairs n len d→¬Px (p++[z]) d)∨∃ c',c=.rt (some c')∧Ext o.Pairs n len p (some c')):=fun hno he=>by
       have hp':Pth o.Pairs n (p++[z]):=by
        by_cases p0:0<p.length
        ·exact aHg hp p0 cx hno (he p0)
        ·obtain rfl:p=[]:=List.length_eq_zero_iff.1 (by omega)
         exact ⟨fun w hw=>by rw [List.mem_singleton.1 hw];exact cx,List.pairwise_singleton _ _,fun i hi=>by simp at hi⟩
       have len':(p++[z]).length=p.length+1:=by simp
       obtain ⟨y,ey,hy⟩:=aFb n8 X hq hl hl0 k (p++[z]) hp' (by omega) (by omega)
       rw [aDb,aAy,aCe (by rw [aX];simp only [List.length_cons,List.length_nil];omega),show dO p++[(z:Int)]=dO (p++[z]) by rw [oW];rfl,ey,bU]
       cases y with
       | none=>exact ⟨_,dC _ (by simp),.inl ⟨rfl,hy⟩⟩
       | some c=>
        obtain ⟨cs,rfl,v1,v2,v3⟩:=hy
        refine ⟨_,dC _ (fun g=>?_),.inr ⟨_,rfl,cs,rfl,v1,aKr v2,fun d hd hpd=>?_⟩⟩
        ·have:=v1.ln
         have g':=Option.some.inj g
         rw [show cs=[] from List.map_eq_nil_iff.1 g'] at this
         simp at this;omega
        ·have hdn:=zM hd hpd (by omega)
         generalize hw:d.getD p.length default=w at hdn
         have hwx:¬w<z:=fun g=>hz w g d hd hdn
         by_cases ew:w=z
         ·subst ew;exact v3 d hd hdn
         ·intro i hi hj
          by_cases c1:i<p.length
          ·rw [xG (aKr v2) c1,xG hpd c1];exact Nat.le_refl _
          ·by_cases c2:i=p.length
           ·subst c2;rw [aIy v2,hw];omega
           ·have:=hj p.length (by omega)
            rw [aIy v2,hw] at this;omega
      unfold jT
      simp only [aZ,rC]
      rw [if_pos (by omega),aJU z (by omega),bU,aZ,cE (x:=(z:Int)+1) (by omega) (by omega)]
      by_cases ci:z∈p
      ·rw [if_pos ci,mH]
       refine .inl (nxt fun d hd hx=>?_)
       exact (aBD hd (List.length_pos_of_mem ci) hx).2.1 ci
      ·rw [if_neg ci]
       by_cases p0:0<p.length
       ·have lastlt:=hp.lt _ (bZ (show p.length-1<p.length by omega))
        rw [if_pos (by rw [aX];omega),show wr (((dO p).length:Int)-1)=((p.length-1:Nat):Int) by rw [aX,cE (by omega) (by omega)];omega,sV (by rw [aX];omega),cQ (by omega),dC _ (by omega),dC _ (by omega),X _ _ (by omega) (by omega),cT,iL]
        by_cases e:q (p.getD (p.length-1) default) z=true
        ·rw [if_pos e]
         obtain ⟨c,ec,hc⟩:=fin ci fun _=>(hq _ _ (by omega) (by omega)).1 e
         rw [ec]
         rcases hc with ⟨rfl,g⟩ | ⟨c',rfl,g⟩
         ·exact .inl (nxt g)
         ·exact .inr (.inr ⟨_,rfl,c',rfl,g⟩)
        ·rw [if_neg e]
         exact .inl (nxt fun d hd hx=>e ((hq _ _ (by omega) (by omega)).2 (aBD hd p0 hx).2.2))
       ·rw [if_neg (by rw [aX];omega),mK]
        obtain ⟨c,ec,hc⟩:=fin ci fun g=>absurd g p0
        rw [ec]
        rcases hc with ⟨rfl,g⟩ | ⟨c',rfl,g⟩
        ·exact .inl (nxt g)
        ·exact .inr (.inr ⟨_,rfl,c',rfl,g⟩)
     ·unfold jT
      simp only [aZ]
      rw [if_neg (by omega)]
      refine .inr (.inl ⟨_,rfl,fun d hd hpd=>?_⟩)
      have hdn:=zM hd hpd (by omega)
      have:=bnd d hd
      exact hz _ (by omega) d hd hdn) 0 ⟨0,rfl,Nat.zero_le _,fun z h=>absurd h (Nat.not_lt_zero _)⟩ (by omega)
   rw [e,bU]
   cases y with
   | inl s=>rw [dK];exact ⟨_,rfl,hy⟩
   | inr y=>
    obtain ⟨c,rfl,hy⟩:=hy
    rw [sZ];exact ⟨_,rfl,hy⟩
theorem aKx (hf:Fm o) (hN:o.N=(n:Int)):∃ c b,gZ o=some (c,b)∧aOt o.Pairs n c b:=by
 have n8:n≤8:=by have:=hf.N;omega
 obtain ⟨v,ev,hv⟩:=wL o (by have:=hf.len;omega)
 obtain ⟨x,q,ex,X,hq⟩:=aHH hf
 obtain ⟨y,e2,hy⟩:=lC (body:=nU o) (fun s=>∃ l:Nat,s=(l:Int)∧2≤l∧l≤n+2∧∀ len' d,2≤len'→len'<l→¬wQ o.Pairs n len' d) (fun s=>n+2-s.toNat)
  (fun y=>match y with | .inl _=>∀ len d,2≤len→¬wQ o.Pairs n len d | .inr y=>y.2=true∧aOt o.Pairs n y.1 true)
  (fun s ⟨l,hs,hl2,hln,hno⟩=>by
   subst hs
   unfold nU
   simp only [aZ]
   by_cases c:l≤n
   ·obtain ⟨y,ey,hy⟩:=aFb (len:=l) n8 X hq c (by omega) 12 [] ⟨fun z hz=>(by cases hz),List.Pairwise.nil,fun i hi=>by simp at hi⟩ (Nat.zero_le _) (by simp only [List.length_nil];omega)
    have ey':fI 12 (n:Int) x [] (l:Int)=_:=ey
    rw [if_pos (by omega),ex,bU,hN,ey',bU,cE (by omega) (by omega)]
    cases y with
    | none=>
     rw [dC _ (by simp)]
     refine .inl ⟨_,rfl,⟨l+1,by omega,by omega,by omega,fun len' d h1 h2=>?_⟩,by omega⟩
     by_cases e:len'<l
     ·exact hno len' d h1 e
     ·rw [show len'=l by omega];exact fun hd=>hy d hd rfl
    | some c=>
     obtain ⟨cs,rfl,v1,v2,v3⟩:=hy
     have nn:some (dO cs)≠some []:=fun g=>by
      have:=v1.ln
      have g':=Option.some.inj g
      rw [show cs=[] from List.map_eq_nil_iff.1 g'] at this
      simp at this;omega
     unfold gd
     rw [if_pos nn]
     exact .inr (.inr ⟨_,rfl,rfl,.inr ⟨rfl,cs,l,rfl,hl2,v1,hno,fun d hd=>v3 d hd rfl⟩⟩)
   ·rw [if_neg (by omega)]
    refine .inr (.inl ⟨_,rfl,fun len d h1 hd=>?_⟩)
    have:=hd.le
    exact hno len d h1 (by omega) hd) 2 ⟨2,rfl,by omega,by omega,fun len' d h1 h2=>by omega⟩ (by omega)
 unfold gZ
 rw [ev,bU,hv.2 hf,cT,mH,e2,bU]
 cases y with
 | inl s=>rw [dK];exact ⟨_,_,rfl,.inl ⟨rfl,rfl,hy⟩⟩
 | inr y=>
  obtain ⟨c,b⟩:=y
  obtain ⟨y1,y2⟩:=hy
  simp only at y1 y2
  subst y1
  rw [sZ]
  exact ⟨_,_,rfl,y2⟩
theorem aIC (hl:o.Pairs.length≤9223372036854775807) (hf:¬Fm o):gZ o=some ([],false):=by
 obtain ⟨v,ev,hv⟩:=wL o hl
 unfold gZ
 rw [ev,bU,Bool.eq_false_iff.2 fun g=>hf (hv.1 g),cT,mK]
theorem aHS {c d:List Nat} (hl:c.length=d.length) (h1:aKg c d) (h2:aKg d c):c=d:=by
 have key:∀ i,i≤c.length→∀ j,j<i→c.getD j default=d.getD j default:=by
  intro i
  induction i with
  | zero=>exact fun _ j hj=>absurd hj (Nat.not_lt_zero _)
  | succ i ih=>
   intro hi j hj
   have ih':=ih (by omega)
   by_cases e:j<i
   ·exact ih' j e
   ·obtain rfl:j=i:=by omega
    exact Nat.le_antisymm (h1 j (by omega) ih') (h2 j (by omega) fun k hk=>(ih' k hk).symm)
 exact yP hl fun j hj=>key c.length (Nat.le_refl _) j hj
theorem aGh {P:List (Int×Int)} {c c':List Int} {b b':Bool} (h:aOt P n c b) (h':aOt P n c' b'):c=c'∧b=b':=by
 rcases h with ⟨rfl,rfl,h⟩ | ⟨rfl,cs,len,rfl,h1,h2,h3,h4⟩
 ·rcases h' with ⟨rfl,rfl,_⟩ | ⟨rfl,cs,len,rfl,h1,h2,_⟩
  ·exact ⟨rfl,rfl⟩
  ·exact absurd h2 (h len cs h1)
 ·rcases h' with ⟨rfl,rfl,h'⟩ | ⟨rfl,ds,len',rfl,g1,g2,g3,g4⟩
  ·exact absurd h2 (h' len cs h1)
  ·have e:len=len':=by
    by_cases c1:len<len'
    ·exact absurd h2 (g3 len cs h1 c1)
    ·by_cases c2:len'<len
     ·exact absurd g2 (h3 len' ds g1 c2)
     ·omega
   subst e
   rw [aHS (by rw [h2.ln,g2.ln]) (h4 ds g2) (g4 cs h2)]
   exact ⟨rfl,rfl⟩
theorem aJV (o:aE) (hl:o.Pairs.length≤9223372036854775807):∃ c b,fK o=some (c,b)∧gZ o=some (c,b)∧c.length≤8:=by
 by_cases hf:Fm o
 ·obtain ⟨n,hN⟩:∃ n:Nat,o.N=(n:Int):=⟨o.N.toNat,by have:=hf.N;omega⟩
  obtain ⟨c,b,e,h⟩:=aK1 hf hN
  obtain ⟨c',b',e',h'⟩:=aKx hf hN
  obtain ⟨rfl,rfl⟩:=aGh h h'
  refine ⟨c,b,e,e',?_⟩
  rcases h with ⟨_,rfl,_⟩ | ⟨_,cs,len,rfl,_,h2,_⟩
  ·exact Nat.zero_le _
  ·have:=h2.le
   have:=hf.N
   rw [aX,h2.ln];omega
 ·exact ⟨_,_,aMa hl hf,aIC hl hf,Nat.zero_le _⟩
end
theorem pwr {r:Nat→Nat→Bool} {l:List Nat} (hp:l.Pairwise fun x y=>r x y=true) {i j:Nat} (hij:i<j) (hj:j<l.length):r (l.getD i default) (l.getD j default)=true:=by
 rw [dN (by omega),dN hj]
 exact List.pairwise_iff_getElem.1 hp i j (by omega) hj hij
theorem aMX {C:List (List Nat)} {i:Nat} (hi:i<C.length):(C.take (i+1)).flatten=(C.take i).flatten++C.getD i default:=by
 rw [gW hi,List.flatten_append];simp
theorem aN6 (C:List (List Nat)) (i:Nat):(C.take i).flatten.length≤C.flatten.length:=by
 have:=congrArg (fun l=>l.flatten.length) (List.take_append_drop i C)
 simp only [List.flatten_append,List.length_append] at this
 omega
section
variable {o:aE} {n:Nat} {t:Ar 8} {r:Nat→Nat→Bool}
theorem aNp.len {C:List (List Nat)} (h:aNp r n C):C.flatten.length=n:=by
 have h1:=uC (l:=C.flatten) (m:=List.range n) h.nd fun x hx=>List.mem_range.2 ((h.al x).1 hx)
 have h2:=uC (l:=List.range n) (m:=C.flatten) List.nodup_range fun x hx=>(h.al x).2 (List.mem_range.1 hx)
 rw [List.length_range] at h1 h2;omega
theorem aGv (h:OV o n t r) {C:List (List Nat)} (hC:aNp r n C):iN o (kF C)=some true:=by
 have n8:=h.n8
 have hN:=h.N
 have p8:=fO n8
 have pp:=Nat.two_pow_pos n
 obtain ⟨x,ex,X⟩:=h.bef
 have fl:=hC.len
 have cl:=aIY hC.ne
 obtain ⟨s,e,i1,i2,S,i3,i4,i5⟩:=cJ (body:=iS o (kF C) x) (fun i s=>s.2.2=(i:Int)∧s.1=(((C.take i).flatten.length:Nat):Int)∧∃ S:Nat,s.2.1=(S:Int)∧S<2 ^ n∧∀ z,S.testBit z=decide (z∈(C.take i).flatten)) C.length (by omega)
  (fun i s hi ⟨hs,h1,S,h2,h3,h4⟩=>by
   obtain ⟨u,v,w⟩:=s
   simp only at hs h1 h2
   subst hs h1 h2
   have ft:=aMX hi
   have fl1:=aN6 C (i+1)
   rw [ft,List.length_append] at fl1
   have cin:C.getD i default∈C:=bZ hi
   have cne:=List.length_pos_iff.2 (hC.ne _ cin)
   have cch:=hC.ch _ cin
   have cal:∀ k,k<(C.getD i default).length→(C.getD i default).getD k default<n:=fun k hk=>(hC.al _).1 (List.mem_flatten.2 ⟨_,cin,bZ hk⟩)
   generalize hc:C.getD i default=c at *
   have ixC:∀ {γ:Type} (f:List Int→Option γ),ix (kF C) default (i:Int) f=f (dO c):=fun f=>by
    rw [sV (by rw [dT];exact hi),sB hi,hc]
   obtain ⟨s,e,j1,j2,S',j3,j4,j5⟩:=cJ (body:=iT o (kF C) ((((C.take i).flatten.length:Nat):Int),(S:Int),(i:Int)) x) (fun k s=>s.2.2=(k:Int)∧s.1=(((C.take i).flatten.length+k:Nat):Int)∧∃ S:Nat,s.2.1=(S:Int)∧S<2 ^ n∧∀ z,S.testBit z=decide (z∈(C.take i).flatten++c.take k)) c.length (by omega)
    (fun k s hk ⟨hs,g1,S,g2,g3,g4⟩=>by
     obtain ⟨u,v,w⟩:=s
     simp only at hs g1 g2
     subst hs g1 g2
     have ck:=cal k hk
     have tk:=gW hk
     have fin:∃ s',(some (.nx ((((C.take i).flatten.length+k:Nat):Int)+1,bor .i64 (S:Int) (aDv .i64 1 ((c.getD k default:Nat):Int)),(k:Int)+1)):Option (Ct (Int×Int×Int) Bool))=some (.nx s')∧s'.2.2=((k+1:Nat):Int)∧s'.1=(((C.take i).flatten.length+(k+1):Nat):Int)∧∃ S:Nat,s'.2.1=(S:Int)∧S<2 ^ n∧∀ z,S.testBit z=decide (z∈(C.take i).flatten++c.take (k+1)):=by
      have pk:=fO (k:=c.getD k default) (by omega)
      refine ⟨_,rfl,by simp only;omega,by simp only;omega,S|||2 ^ c.getD k default,?_,Nat.or_lt_two_pow g3 (Nat.pow_lt_pow_right (by omega) ck),fun z=>?_⟩
      ·simp only;rw [aEo (by omega),aNl (by omega) (by omega)]
      ·rw [Nat.testBit_or,g4,wH,tk,← List.append_assoc,Bool.eq_iff_iff]
       simp only [Bool.or_eq_true,decide_eq_true_eq,List.mem_append,List.mem_singleton]
     unfold iT
     simp only [aZ,rC,ixC,aX]
     rw [if_pos (by omega),sV (by rw [aX];exact hk),cQ hk,if_neg (by omega),if_neg (by omega)]
     by_cases c0:k=0
     ·rw [if_neg (by omega),mK,dC _ (by omega),cE (x:=(k:Int)+1) (by omega) (by omega),cE (x:=(((C.take i).flatten.length+k:Nat):Int)+1) (by omega) (by omega)]
      exact fin
     ·have em:aH4 (wr ((k:Int)-1)) 0=((k-1:Nat):Int):=by
       rw [cE (by omega) (by omega)];unfold aH4;split<;>omega
      have cp:=cal (k-1) (by omega)
      rw [if_pos (by omega),em,sV (by rw [aX];omega),cQ (by omega),dC _ (by omega),dC _ (by omega),X _ _ (by omega) (by omega),pwr cch (by omega) hk,Bool.not_true,mK,dC _ (by omega),cE (x:=(k:Int)+1) (by omega) (by omega),cE (x:=(((C.take i).flatten.length+k:Nat):Int)+1) (by omega) (by omega)]
      exact fin) (fun s ⟨hs,_⟩=>by
     unfold iT
     simp only [aZ,ixC,aX]
     rw [if_neg (by omega)]) ((((C.take i).flatten.length:Nat):Int),(S:Int),0) ⟨rfl,rfl,S,rfl,h3,fun z=>by rw [h4,List.take_zero,List.append_nil]⟩
   unfold iS
   simp only [aZ,dT,ixC,aX]
   rw [if_pos (by omega),pG,if_neg (by omega),e,bU,dK,cE (by omega) (by omega)]
   refine ⟨_,rfl,by simp only;omega,?_,S',j3,j4,fun z=>by rw [j5,List.take_length,ft]⟩
   simp only;rw [j2,ft,List.length_append]) (fun s ⟨hs,_⟩=>by
   unfold iS
   simp only [aZ,dT]
   rw [if_neg (by omega)]) (0,0,0) ⟨rfl,rfl,0,rfl,pp,fun z=>by simp⟩
 rw [List.take_length] at i2 i5
 have eS:S=2 ^ n-1:=xQ fun i=>by rw [i5,Nat.testBit_two_pow_sub_one,decide_eq_decide];exact hC.al i
 unfold iN
 simp only [rC]
 rw [ex,bU,e,bU,dK,pG,if_pos (by omega),hN,dC _ (by omega),aEo (by omega),cE (by omega) (by omega),i3,eS,show ((2 ^ n-1:Nat):Int)=((2 ^ n:Nat):Int)-1 by omega]
 simp
end
structure CvI (r:Nat→Nat→Bool) (sm:List (List Nat)) (line:List Nat):Prop where
 ne:∀ c,c∈sm→c≠[]
 ch:∀ c,c∈sm→c.Pairwise fun x y=>r x y=true
 sep:∀ l,l∈sm.flatten→∀ z,z∈line→l≠z∧r z l=false
 pw:line.Pairwise fun x y=>x≠y∧r y x=false
 lt:∀ z,z∈sm.flatten∨z∈line→z<8
 len:sm.flatten.length+line.length≤8
structure CvA (r:Nat→Nat→Bool) (sm:List (List Nat)) (line:List Nat) (y:List (List Nat)):Prop where
 ne:∀ c,c∈y→c≠[]
 ch:∀ c,c∈y→c.Pairwise fun x y=>r x y=true
 pm:y.flatten.Perm (sm.flatten++line)
def CvB (r:Nat→Nat→Bool) (sm:List (List Nat)) (line:List Nat) (L:Nat):Prop:=∀ (K:Nat) (f:Nat→Nat) (g:List Nat),(∀ z,z∈sm.flatten∨z∈line→f z<K) →
 (∀ u v,(u∈sm.flatten∨u∈line)→(v∈sm.flatten∨v∈line)→u≠v→f u=f v→r u v=true∨r v u=true)→g.length=sm.length→g.Nodup→(∀ i,i<sm.length→∀ z,z∈sm.getD i default→f z=g.getD i default)→L≤K
def nxC (sm:List (List Nat)) (z j:Nat):List (List Nat):=if j=sm.length then sm++[[z]] else sm.set j (sm.getD j default++[z])
theorem aDt {sm:List (List Nat)} {j:Nat} (z:Nat) (hj:j≤sm.length):(nxC sm z j).flatten.Perm (sm.flatten++[z]):=by
 unfold nxC
 by_cases e:j=sm.length
 ·rw [if_pos e,List.flatten_append];exact List.Perm.refl _
 ·rw [if_neg e];exact aG5 (by omega) z
theorem xJ {sm:List (List Nat)} {j z:Nat} (hj:j≤sm.length) {u:Nat} {line:List Nat}:(u∈(nxC sm z j).flatten∨u∈line)↔(u∈sm.flatten∨u∈z::line):=by
 rw [(aDt z hj).mem_iff,List.mem_append,List.mem_singleton,List.mem_cons,or_assoc]
def Vb (r:Nat→Nat→Bool) (sm:List (List Nat)) (z j:Nat):Prop:=j=sm.length∨(j<sm.length∧r ((sm.getD j default).getD ((sm.getD j default).length-1) default) z=true)
section
variable {o:aE} {n:Nat} {t:Ar 8} {r:Nat→Nat→Bool}
theorem aOq (tr:∀ a b c,r a b=true→r b c=true→r a c=true) {c:List Nat} {z:Nat} (hp:c.Pairwise fun x y=>r x y=true) (hl:c≠[]→r (c.getD (c.length-1) default) z=true):(c++[z]).Pairwise fun x y=>r x y=true:=by
 refine List.pairwise_append.2 ⟨hp,List.pairwise_singleton _ _,fun a ha b hb=>?_⟩
 rw [List.mem_singleton.1 hb]
 have hl:=hl fun q=>by rw [q] at ha;cases ha
 obtain ⟨i,hi,rfl⟩:=lA ha
 by_cases e:i=c.length-1
 ·rw [e];exact hl
 ·exact tr _ _ _ (pwr hp (i:=i) (j:=c.length-1) (by omega) (by omega)) hl
theorem CvI.next (tr:∀ a b c,r a b=true→r b c=true→r a c=true) {sm:List (List Nat)} {z:Nat} {line:List Nat} (h:CvI r sm (z::line)) {j:Nat} (hv:Vb r sm z j):CvI r (nxC sm z j) line:=by
 have hj:j≤sm.length:=by rcases hv with hv | hv<;>omega
 have hpw:=List.pairwise_cons.1 h.pw
 have pm:=aDt z hj
 refine ⟨fun c hc=>?_,fun c hc=>?_,fun l hl w hw=>?_,hpw.2,fun w hw=>h.lt w ((xJ hj).1 hw),?_⟩
 ·unfold nxC at hc
  by_cases e:j=sm.length
  ·rw [if_pos e] at hc
   rcases List.mem_append.1 hc with hc | hc
   ·exact h.ne c hc
   ·rw [List.mem_singleton.1 hc];simp
  ·rw [if_neg e] at hc
   rcases List.mem_or_eq_of_mem_set hc with hc | hc
   ·exact h.ne c hc
   ·rw [hc];simp
 ·unfold nxC at hc
  by_cases e:j=sm.length
  ·rw [if_pos e] at hc
   rcases List.mem_append.1 hc with hc | hc
   ·exact h.ch c hc
   ·rw [List.mem_singleton.1 hc];exact List.pairwise_singleton _ _
  ·rw [if_neg e] at hc
   rcases List.mem_or_eq_of_mem_set hc with hc | hc
   ·exact h.ch c hc
   ·rw [hc]
    exact aOq tr (h.ch _ (bZ (by omega))) fun _=>(hv.resolve_left e).2
 ·rw [pm.mem_iff,List.mem_append,List.mem_singleton] at hl
  rcases hl with hl | rfl
  ·exact h.sep l hl w (List.mem_cons_of_mem _ hw)
  ·exact hpw.1 w hw
 ·have:=pm.length_eq
  rw [List.length_append] at this
  have:=h.len
  simp only [List.length_cons,List.length_nil] at *
  omega
theorem aLP {sm:List (List Nat)} {z:Nat} {line:List Nat} {L:Nat} (h:CvI r sm (z::line)) (hb:∀ j,Vb r sm z j→CvB r (nxC sm z j) line L):CvB r sm (z::line) L:=by
 intro K f g h1 h2 h3 h4 h5
 by_cases c:f z∈g
 ·obtain ⟨j,hj,e⟩:=lA c
  have hjs:j<sm.length:=by omega
  have cin:sm.getD j default∈sm:=bZ hjs
  have cne:=List.length_pos_iff.2 (h.ne _ cin)
  have lin:(sm.getD j default).getD ((sm.getD j default).length-1) default∈sm.getD j default:=bZ (by omega)
  generalize hl:(sm.getD j default).getD ((sm.getD j default).length-1) default=l at lin
  have lfl:l∈sm.flatten:=List.mem_flatten.2 ⟨_,cin,lin⟩
  have hs:=h.sep l lfl z (List.mem_cons_self ..)
  have fl:=h5 j hjs l lin
  have hr:r l z=true:=by
   rcases h2 l z (.inl lfl) (.inr (List.mem_cons_self ..)) hs.1 (by rw [fl,e]) with q | q
   ·exact q
   ·rw [hs.2] at q;cases q
  have hv:Vb r sm z j:=.inr ⟨hjs,by rw [hl];exact hr⟩
  have en:nxC sm z j=sm.set j (sm.getD j default++[z]):=if_neg (by omega)
  refine hb j hv K f g (fun w hw=>h1 w ((xJ (by omega)).1 hw)) (fun u v hu hv'=>h2 u v ((xJ (by omega)).1 hu) ((xJ (by omega)).1 hv')) (by rw [en,List.length_set];exact h3) h4 fun i hi w hw=>?_
  rw [en,List.length_set] at hi
  rw [en,wJ hjs] at hw
  by_cases ei:i=j
  ·subst ei
   rw [if_pos rfl,List.mem_append,List.mem_singleton] at hw
   rcases hw with hw | rfl
   ·exact h5 i hi w hw
   ·exact e.symm
  ·rw [if_neg ei] at hw
   exact h5 i hi w hw
 ·have en:nxC sm z sm.length=sm++[[z]]:=if_pos rfl
  refine hb sm.length (.inl rfl) K f (g++[f z]) (fun w hw=>h1 w ((xJ (Nat.le_refl _)).1 hw)) (fun u v hu hv'=>h2 u v ((xJ (Nat.le_refl _)).1 hu) ((xJ (Nat.le_refl _)).1 hv')) (by rw [en,List.length_append,List.length_append,h3];rfl) ?_ fun i hi w hw=>?_
  ·refine List.nodup_append.2 ⟨h4,List.pairwise_singleton _ _,fun a ha b hb=>?_⟩
   rw [List.mem_singleton.1 hb]
   exact fun q=>c (q ▸ ha)
  ·rw [en,List.length_append] at hi
   rw [en] at hw
   by_cases ei:i<sm.length
   ·rw [List.getD_eq_getElem?_getD,List.getElem?_append_left ei,← List.getD_eq_getElem?_getD] at hw
    rw [List.getD_eq_getElem?_getD,List.getElem?_append_left (by omega),← List.getD_eq_getElem?_getD]
    exact h5 i ei w hw
   ·have ei':i=sm.length:=by simp only [List.length_cons,List.length_nil] at hi;omega
    subst ei'
    rw [List.getD_eq_getElem?_getD,List.getElem?_append_right (Nat.le_refl _),Nat.sub_self] at hw
    rw [List.getD_eq_getElem?_getD,List.getElem?_append_right (by omega),h3,Nat.sub_self]
    exact congrArg f (List.mem_singleton.1 hw)
theorem aFq (tr:∀ a b c,r a b=true→r b c=true→r a c=true) {x:Br 64} (X:RB x r):∀ (k:Nat) (line:List Nat) (sm:List (List Nat)),line.length<k→CvI r sm line→∃ y,fG k x (dO line) (kF sm)=some (kF y)∧CvA r sm line y∧CvB r sm line y.length
 | 0,_,_,h,_=>absurd h (Nat.not_lt_zero _)
 | k+1,line,sm,hk,h=>by
  show ∃ y,pV (fG k) x (dO line) (kF sm)=some (kF y)∧_
  unfold pV
  rw [pG,aX]
  have smf:=aIY h.ne
  cases line with
  | nil=>
   rw [if_pos (show ((([]:List Nat).length:Nat):Int)=0 from rfl)]
   refine ⟨sm,rfl,⟨h.ne,h.ch,by rw [List.append_nil]⟩,fun K f g h1 h2 h3 h4 h5=>?_⟩
   have:=uC (l:=g) (m:=List.range K) h4 fun w hw=>by
    obtain ⟨i,hi,rfl⟩:=lA hw
    have cin:sm.getD i default∈sm:=bZ (by omega)
    obtain ⟨u,hu⟩:=List.exists_mem_of_ne_nil _ (h.ne _ cin)
    rw [← h5 i (by omega) u hu]
    exact List.mem_range.2 (h1 u (.inl (List.mem_flatten.2 ⟨_,cin,hu⟩)))
   rw [List.length_range] at this;omega
  | cons z line=>
   have hlen:=h.len
   rw [List.length_cons] at hlen hk
   have z8:=h.lt z (.inr (List.mem_cons_self ..))
   rw [if_neg (by rw [List.length_cons];omega),dC _ (by rw [dT];omega)]
   obtain ⟨s,e,i1,i2⟩:=cJ (body:=jZ (fG k) x (dO (z::line)) (kF sm)) (fun i s=>s.1=(i:Int)∧((s.2=none∧∀ j,j<i→¬Vb r sm z j)∨∃ y,s.2=some (kF y)∧y≠[]∧CvA r sm (z::line) y∧∀ j,j<i→Vb r sm z j→CvB r (nxC sm z j) line y.length)) (sm.length+1) (by omega)
    (fun i s hi ⟨hs,hq⟩=>by
     obtain ⟨u,best⟩:=s
     simp only at hs hq
     subst hs
     obtain ⟨s9,e9,_,c9⟩:=cJ (body:=iE (kF sm)) (fun k s=>s.1=(k:Int)∧s.2=kF (sm.take k)) sm.length (by omega)
      (fun k s hk ⟨hs,hq⟩=>by
       obtain ⟨u,v⟩:=s
       simp only at hs hq
       subst hs hq
       have cl:(sm.getD k default).length≤sm.flatten.length:=by
        have:=List.Sublist.length_le (List.sublist_flatten_of_mem (bZ hk:sm.getD k default∈sm))
        exact this
       unfold iE
       simp only [aZ,dT]
       rw [if_pos (by omega),aAy,sV (by rw [dT];exact hk),sB hk,aCe (by rw [aX,List.length_nil];omega),dC _ (by rw [List.length_take];omega),cE (by omega) (by omega)]
       refine ⟨_,rfl,by simp only;omega,?_⟩
       simp only
       rw [gW hk,List.nil_append]
       unfold kF
       rw [List.map_append];rfl) (fun s ⟨hs,_⟩=>by
       unfold iE
       simp only [aZ,dT]
       rw [if_neg (by omega)]) (0,[]) ⟨rfl,by simp [kF]⟩
     rw [List.take_length] at c9
     have fin:Vb r sm z i→∃ s',nY (fG k) x (dO (z::line)) ((i:Int),best) (kF (nxC sm z i))=some (.nx s')∧s'.1=((i+1:Nat):Int)∧((s'.2=none∧∀ j,j<i+1→¬Vb r sm z j)∨∃ y,s'.2=some (kF y)∧y≠[]∧CvA r sm (z::line) y∧∀ j,j<i+1→Vb r sm z j→CvB r (nxC sm z j) line y.length):=fun hv=>by
      have hn:=h.next tr hv
      obtain ⟨y,ey,yA,yB⟩:=aFq tr X k line (nxC sm z i) (by omega) hn
      have yA':CvA r sm (z::line) y:=⟨yA.ne,yA.ch,yA.pm.trans (by
       have:=(aDt z (show i≤sm.length by omega)).append_right line
       rwa [List.append_assoc] at this)⟩
      have yne:y≠[]:=fun q=>by
       have:=yA'.pm.length_eq
       rw [q] at this
       simp at this
      unfold nY slc
      rw [dC _ (by rw [aX,List.length_cons];omega)]
      have esub:sub (dO (z::line)) 1 ((dO (z::line)).length:Int)=dO line:=aDN (dO (z::line)) 1
      rw [esub]
      simp only [ey,bU]
      rw [cE (by omega) (by omega)]
      rcases hq with ⟨rfl,hq⟩ | ⟨yb,rfl,q1,q2,q3⟩
      ·unfold gd
       rw [if_pos (by simp)]
       refine ⟨_,rfl,by simp only;omega,.inr ⟨y,rfl,yne,yA',fun j hj hvj=>?_⟩⟩
       by_cases e:j=i
       ·subst e;exact yB
       ·exact absurd hvj (hq j (by omega))
      ·have nn:some (kF yb)≠some []:=fun g=>q1 (List.map_eq_nil_iff.1 (Option.some.inj g))
       unfold gd
       rw [if_pos nn]
       show ∃ s',cn (decide (((kF y).length:Int)<((kF yb).length:Int))) _ _=_∧_
       rw [aZ,dT,dT]
       by_cases c:y.length<yb.length
       ·rw [if_pos (by omega)]
        refine ⟨_,rfl,by simp only;omega,.inr ⟨y,rfl,yne,yA',fun j hj hvj=>?_⟩⟩
        by_cases e:j=i
        ·subst e;exact yB
        ·exact fun K f g a1 a2 a3 a4 a5=>Nat.le_trans (Nat.le_of_lt c) (q3 j (by omega) hvj K f g a1 a2 a3 a4 a5)
       ·rw [if_neg (by omega)]
        refine ⟨_,rfl,by simp only;omega,.inr ⟨yb,rfl,q1,q2,fun j hj hvj=>?_⟩⟩
        by_cases e:j=i
        ·subst e;exact fun K f g a1 a2 a3 a4 a5=>Nat.le_trans (by omega) (yB K f g a1 a2 a3 a4 a5)
        ·exact q3 j (by omega) hvj
     unfold jZ
     simp only [aZ,rC]
     have hz0:(dO (z::line)).getD 0 default=(z:Int):=rfl
     rw [if_pos (by rw [dT];omega),e9,bU,dK,c9,dC _ (by rw [dT];omega),pG,dT,show (0:Int)=((0:Nat):Int) from rfl]
     by_cases ci:i=sm.length
     ·rw [if_pos (by omega),dC _ (by omega),sV (by rw [aX,List.length_cons];omega),hz0,aAy]
      have en:kF sm++[[(z:Int)]]=kF (nxC sm z i):=by
       unfold nxC kF
       rw [if_pos ci,List.map_append];rfl
      rw [en]
      exact fin (.inl ci)
     ·have hi':i<sm.length:=by omega
      have cin:sm.getD i default∈sm:=bZ hi'
      have cne:=List.length_pos_iff.2 (h.ne _ cin)
      have cl:(sm.getD i default).length≤sm.flatten.length:=List.Sublist.length_le (List.sublist_flatten_of_mem cin)
      have l8:=h.lt _ (.inl (List.mem_flatten.2 ⟨_,cin,bZ (show (sm.getD i default).length-1<(sm.getD i default).length by omega)⟩))
      rw [if_neg (by omega),sV (by rw [dT];exact hi'),sB hi',sV (by rw [dT];exact hi'),sB hi',show wr (((dO (sm.getD i default)).length:Int)-1)=(((sm.getD i default).length-1:Nat):Int) by rw [aX,cE (by omega) (by omega)];omega,sV (by rw [aX];omega),cQ (by omega),sV (by rw [aX,List.length_cons];omega),hz0,dC _ (by omega),dC _ (by omega),X _ _ l8 z8,cT,iL]
      by_cases cr:r ((sm.getD i default).getD ((sm.getD i default).length-1) default) z=true
      ·rw [if_pos cr,dC _ (by omega),sV (by rw [aX,List.length_cons];omega),hz0,aAy,Int.toNat_natCast,sB hi',aCe (by rw [aX];simp only [List.length_cons,List.length_nil];omega)]
       have en:(kF sm).set i (dO (sm.getD i default)++[(z:Int)])=kF (nxC sm z i):=by
        unfold nxC kF
        rw [if_neg ci,List.map_set,oW];rfl
       rw [en]
       exact fin (.inr ⟨hi',cr⟩)
      ·rw [if_neg cr,cE (by omega) (by omega)]
       have nv:¬Vb r sm z i:=fun q=>by
        rcases q with q | q
        ·exact ci q
        ·exact cr q.2
       refine ⟨_,rfl,by simp only;omega,?_⟩
       rcases hq with ⟨q0,hq⟩ | ⟨yb,q0,q1,q2,q3⟩
       ·refine .inl ⟨q0,fun j hj=>?_⟩
        by_cases e:j=i
        ·subst e;exact nv
        ·exact hq j (by omega)
       ·refine .inr ⟨yb,q0,q1,q2,fun j hj hvj=>?_⟩
        by_cases e:j=i
        ·subst e;exact absurd hvj nv
        ·exact q3 j (by omega) hvj) (fun s ⟨hs,_⟩=>by
     unfold jZ
     simp only [aZ,dT]
     rw [if_neg (by omega)]) (0,none) ⟨rfl,.inl ⟨rfl,fun j hj=>absurd hj (Nat.not_lt_zero _)⟩⟩
   rw [e,bU,dK]
   rcases i2 with ⟨_,q⟩ | ⟨y,q0,q1,q2,q3⟩
   ·exact absurd (.inl rfl) (q sm.length (by omega))
   ·rw [q0]
    refine ⟨y,rfl,q2,aLP h fun j hv=>q3 j ?_ hv⟩
    rcases hv with hv | hv<;>omega
theorem aID (hv:bR o=some false):hZ o=some ([],70):=by
 unfold hZ
 rw [aEP hv,bU]
 simp only
 rw [show ((70:Int) != 0)=true from rfl,mH]
theorem aJa (h:OV o n t r):∃ C D,fJ o=some (kF C,0)∧hZ o=some (kF D,0)∧aNp r n C∧D.length=C.length:=by
 have n8:=h.n8
 obtain ⟨C,m,eC,hC,hM,hCl⟩:=aLJ h
 obtain ⟨ls,el,l1,l2,_⟩:=aAX h
 obtain ⟨x,ex,X⟩:=h.bef
 have hpw:=aED _ rfl l1
 have hlt:=aGI l1
 obtain ⟨D,eD,A,B⟩:=aFq h.tr X 12 ls [] (by omega) ⟨fun c hc=>(by cases hc),fun c hc=>(by cases hc),fun l hl=>(by cases hl),hpw,fun z hz=>by
  rcases hz with hz | hz
  ·cases hz
  ·have:=hlt z hz;omega,by rw [l2];simpa using n8⟩
 have hD:aNp r n D:=by
  have pm:=A.pm
  rw [List.flatten_nil,List.nil_append] at pm
  refine ⟨A.ne,A.ch,pm.nodup_iff.2 (hpw.imp fun q=>q.1),fun z=>?_⟩
  rw [pm.mem_iff]
  exact ⟨hlt z,fun hz=>aBj l1 l2 hz⟩
 refine ⟨C,D,eC,?_,hC,Nat.le_antisymm ?_ ?_⟩
 ·unfold hZ
  have eD':fG 12 x (dO ls) []=_:=eD
  rw [el,bU]
  simp only
  rw [show ((0:Int) != 0)=false from rfl,mK,ex,bU,eD',bU]
 ·-- the chain of each thing
  have aCR:∀ z,∃ i,z<n→i<C.length∧z∈C.getD i default:=fun z=>by
   by_cases hz:z<n
   ·obtain ⟨c,hc,hzc⟩:=List.mem_flatten.1 ((hC.al z).2 hz)
    obtain ⟨i,hi,rfl⟩:=lA hc
    exact ⟨i,fun _=>⟨hi,hzc⟩⟩
   ·exact ⟨0,fun g=>absurd g hz⟩
  refine B C.length (fun z=>Classical.choose (aCR z)) [] (fun z hz=>?_) (fun u v hu hv hne he=>?_) rfl List.nodup_nil (fun i hi=>absurd hi (Nat.not_lt_zero _))
  ·rcases hz with hz | hz
   ·cases hz
   ·exact (Classical.choose_spec (aCR z) (hlt z hz)).1
  ·have hu':u<n:=by rcases hu with hu | hu;(cases hu);exact hlt u hu
   have hv':v<n:=by rcases hv with hv | hv;(cases hv);exact hlt v hv
   have s1:=Classical.choose_spec (aCR u) hu'
   have s2:=Classical.choose_spec (aCR v) hv'
   have he:Classical.choose (aCR u)=Classical.choose (aCR v):=he
   rw [he] at s1
   generalize Classical.choose (aCR v)=i at s1 s2
   have hp:=hC.ch _ (bZ s2.1)
   obtain ⟨a,ha,rfl⟩:=lA s1.2
   obtain ⟨b,hb,rfl⟩:=lA s2.2
   rcases Nat.lt_trichotomy a b with g | g | g
   ·exact .inl (pwr hp g hb)
   ·subst g;exact absurd rfl hne
   ·exact .inr (pwr hp g ha)
 ·obtain ⟨s,s1,s2,s3⟩:=aNH h hM
  have:=aL1 hD s2
  omega
end
theorem aN5:qS=some true:=by kernel_rfl
end Go.Proofs.YtlmboonbfhkfnaaDoor
