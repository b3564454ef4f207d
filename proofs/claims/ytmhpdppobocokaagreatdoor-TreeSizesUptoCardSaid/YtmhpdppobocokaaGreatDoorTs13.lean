import Derived.Test.YtmhpdppobocokaaGreatDoorTs12
set_option linter.unusedSimpArgs false
set_option linter.unusedVariables false
set_option linter.defProp false
set_option maxRecDepth 100000
namespace Go.Proofs.YtmhpdppobocokaaGreatDoor
open Go.Aw Go.Aw.D Go.Proofs Ty
namespace Nu
open Go.Proofs.Tryz
open Go.Nu Go.So Go.Sb
def EH(s:Nat):Cut:=⟨1,s,1⟩
def qR(x:Instance)(d:Nat)(s:Nat):Option Cut:=if mR x d s>0 then some ⟨2,s,mR x d s⟩else none
def wW(x:Instance)(d:Nat):List Cut:=(oJ (oO x)).map EH++(nT (jZ x)).filterMap (qR x d)
abbrev E8(l:List Cut):Row:=⟨82,3,l.map cU⟩
def tR{s n:Nat}(E:s<2^n):∀w,pop w s<=n:=by
 intro w;rcases Xbd w n with h|h
 . exact Xan (FG w s) (by omega)
 . have : pop w s = pop n s := by
     induction w with
     | zero => have : n = 0 := by omega
               subst this;rfl
     | succ w ih=>
       rcases(by omega:n<=w\/n=w+1)with u|u
       . rw[vT (Xaz E (Xam (by decide) u)),ih u]
       . rw[u]
   rw[this];exact FG n s
def E9(x:Instance):oO x<2^x.orders.length:=oT _ _
def Ba(x:Instance):jZ x<2^x.orders.length:=oT _ _
def JT(x:Instance)(d:Nat)(h:LoadsOk x d)(ht:x.types≠[])(hx:x.orders.length<=10):PC prog 39 [.agg (aH x)] (.sl ((wW x d).map cU)):=by
 have af:2^x.orders.length<=2^10:=Xam (by decide) hx;have ha:=E9 x;have hm:=Ba x;have ac:2^pop 64 (jZ x)<=2^10:=Xam (by decide) (Xan (tR hm 64) hx);have ai:(oJ (oO x)).length<=1024:=by unfold oJ;rw[Xaa];refine Xan (Xbe _ _) ?_;rw[Xbr];exact Xam (by decide) (Xan (tR ha 64) hx)
 have ah:(nT (jZ x)).length<=1024:=by unfold nT;rw[Xaa,Xbr];exact ac
 unfold wW;refine pcb (fun t=>t == 3) func39 rfl rfl ?_;simp only[go_sem];refine aL fun j hj=>?_
 simp only[go_sem];refine aN (zD x (by omega)) ?_;simp only[go_sem];refine aN (SZ (oO x) (by omega)) ?_;simp only[go_sem];generalize oJ (oO x)=T at *;refine⟨fun ρ H=>∃(k:Nat) (j:Nat),k<=T.length/\ρ 1=.rp (aH x) 0/\ρ 19=.sl (T.map fun x:Nat=>aP (x:Int))/\ρ 20=int (T.length:Nat)/\ρ 21=int k/\ρ 3=.os j/\H j=some (E8 ((T.take k).map EH)),fun ρ _=>T.length-aW (ρ 21),⟨0,j,Xab _,by simp only[go_sem],by simp only[go_sem],by simp only[go_sem,Xaa],(by simp only[go_sem];rfl),by simp only[go_sem],aB _ _ _⟩,?_⟩;rintro ρ H ⟨k,j,hk,M,F,E,J,L,R⟩;simp only[go_sem,M,F,E,J,L];refine aA (fun u=>?_) (fun ab=>?_)
 ·have u:=ltB u;obtain⟨s,hs⟩:=bG u;have b1:=inB u;simp only[go_sem,M,F,E,J,L,aJ (f:=fun x:Nat=>aP (x:Int)) hs,b1];refine cD R ⟨rfl,rfl⟩ ⟨rfl,trivial⟩ (by simp;omega) (fun j' ae=>?_);simp only[go_sem,M,F,E,J,L,aY k];refine⟨⟨k+1,j',u,rfl,rfl,?_⟩,by simp only[aF];omega⟩;rw[bK hs,Xak];exact iU rfl
 have ab:=geB hk ab;subst ab;rw[Xai]at R;simp only[go_sem,M,F,E,J,L];refine aN (JV x (by omega)) ?_;simp only[go_sem,M,F,E,J,L];refine aN (Ow (jZ x) (by omega) (by omega)) ?_;simp only[go_sem,M,F,E,J,L];generalize nT (jZ x)=U at *;refine⟨fun ρ H=>∃(k:Nat) (j:Nat),k<=U.length/\ρ 1=.rp (aH x) 0/\ρ 37=.sl (U.map fun x:Nat=>aP (x:Int))/\ρ 38=int (U.length:Nat)/\ρ 39=int k/\ρ 3=.os j/\H j=some (E8 (T.map EH++(U.take k).filterMap (qR x d))),fun ρ _=>U.length-aW (ρ 39),⟨0,j,Xab _,by simp only[go_sem,M,F,E,J,L],by simp only[go_sem,M,F,E,J,L],by simp only[go_sem,Xaa,M,F,E,J,L],(by simp only[go_sem,M,F,E,J,L];rfl),by simp only[go_sem,L],by simpa using R⟩,?_⟩;rintro ρ H ⟨k,j,hk,M,aa,O,Z,L,R⟩;simp only[go_sem,M,aa,O,Z,L];refine aA (fun u=>?_) (fun ab=>?_)
 ·have u:=ltB u;obtain⟨s,hs⟩:=bG u;have b1:=inB u;have ag:((U.take k).filterMap (qR x d)).length<=k:=Xan (List.length_filterMap_le _ _) (by rw[Xaj];omega);simp only[go_sem,M,aa,O,Z,L,aJ (f:=fun x:Nat=>aP (x:Int)) hs,b1];refine aN (Ig x d s h ht) ?_;simp only[go_sem,M,aa,O,Z,L];refine aA (fun hb=>?_) (fun hb=>?_)
  ·have hc:qR x d s=some ⟨2,s,mR x d s⟩:=if_pos (by simpa using hb);simp only[go_sem,M,aa,O,Z,L];refine cD R ⟨rfl,rfl⟩ ⟨rfl,trivial⟩ (by simp only[Xaa,Xac,Xae,List.length_nil];omega) (fun j' ae=>?_);simp only[go_sem,M,aa,O,Z,L,aY k];refine⟨⟨k+1,j',u,rfl,rfl,?_⟩,by simp only[aF];omega⟩;have e:(U.take (k+1)).filterMap (qR x d)=(U.take k).filterMap (qR x d)++[⟨2,s,mR x d s⟩]:=by rw[bK hs,List.filterMap_append];simp only[List.filterMap_cons,hc,List.filterMap_nil]
   rw[e,<-Xah];exact iU rfl
  ·have hc:qR x d s=none:=if_neg (by simpa using hb);simp only[go_sem,M,aa,O,Z,L,aY k];refine⟨⟨k+1,j,u,rfl,rfl,?_⟩,by simp only[aF];omega⟩;rw[R,bK hs,List.filterMap_append];simp only[List.filterMap_cons,hc,List.filterMap_nil,Xaq]
 ·have ab:=geB hk ab;subst ab;rw[Xai]at R;simp only[go_sem,M,aa,O,Z,L];exact .row _ _ _ R (ConvE.refl _)
def xL(a b:Broken):Bool:=
 if fL b.by_<fL a.by_ then true else if fL a.by_<fL b.by_ then false else
 if a.cut.kind<b.cut.kind then true else if b.cut.kind<a.cut.kind then false else decide (a.cut.set<b.cut.set)
def Su(x y:Rat):x<y\/x=y\/y<x:=by
 rcases(Rat.le_total:x<=y\/y<=x)with h|h
 ·by_cases e:x=y
  ·exact .inr (.inl e)
  ·exact .inl (Rat.lt_of_le_of_ne h e)
 ·by_cases e:x=y
  ·exact .inr (.inl e)
  ·exact .inr (.inr (Rat.lt_of_le_of_ne h fun u=>e u.symm))
def HE{a b:Broken}:xL a b=true↔fL b.by_<fL a.by_\/(fL a.by_=fL b.by_/\(a.cut.kind<b.cut.kind\/(a.cut.kind=b.cut.kind/\a.cut.set<b.cut.set))):=by
 unfold xL;rcases Su (fL a.by_) (fL b.by_)with h|h|h
 ·rw[if_neg (fun u=>absurd (Std.lt_trans h u) (Rat.lt_irrefl)),if_pos h];constructor
  ·intro u;cases u
  ·rintro(u|⟨u,_⟩)
   ·exact absurd (Std.lt_trans h u) Rat.lt_irrefl
   ·rw[u]at h;exact absurd h Rat.lt_irrefl
 ·rw[if_neg (by rw[h];exact Rat.lt_irrefl),if_neg (by rw[h];exact Rat.lt_irrefl)];constructor
  ·intro u;refine .inr ⟨h,?_⟩;split at u
   ·next E=>exact .inl E
   ·next E=>
    split at u
    ·cases u
    ·next F=>exact .inr ⟨by omega,of_decide_eq_true u⟩
  ·rintro(u|⟨_,u⟩)
   ·rw[h]at u;exact absurd u Rat.lt_irrefl
   ·rcases u with u|⟨u,E⟩
    ·rw[if_pos u]
    ·rw[if_neg (by omega),if_neg (by omega)];simpa using E
 ·rw[if_pos h];exact⟨fun _=>.inl h,fun _=>rfl⟩
def OW:SWO xL where
 asym a b h:=by
  cases u:xL b a with
  | false=>rfl
  | true=>
   exfalso;rw[HE]at h u;rcases h with h|⟨e,h⟩ <;> rcases u with u|⟨Z,u⟩
   ·exact absurd (Std.lt_trans h u) Rat.lt_irrefl
   ·rw[Z]at h;exact absurd h Rat.lt_irrefl
   ·rw[e]at u;exact absurd u Rat.lt_irrefl
   ·omega
 neg a b c h1 h2:=by
  cases J:xL a c with
  | false=>rfl
  | true=>
   exfalso;have E:¬xL a b=true:=by rw[h1];simp
   have F:¬xL b c=true:=by rw[h2];simp
   rw[HE]at J E F;have n1:¬fL b.by_<fL a.by_:=fun h=>E (.inl h)
   have n2:¬fL c.by_<fL b.by_:=fun h=>F (.inl h)
   have M:fL a.by_<=fL b.by_:=Rat.not_lt.1 n1;have O:fL b.by_<=fL c.by_:=Rat.not_lt.1 n2;rcases J with J|⟨e,J⟩
   ·exact absurd J (Rat.not_lt.2 (Rat.le_trans M O))
   ·have L:fL a.by_=fL b.by_:=Rat.le_antisymm M (e▸O);have e2:fL b.by_=fL c.by_:=L.symm.trans e;have m1:¬(a.cut.kind<b.cut.kind\/(a.cut.kind=b.cut.kind/\a.cut.set<b.cut.set)):=fun h=>E (.inr ⟨L,h⟩)
    have m2:¬(b.cut.kind<c.cut.kind\/(b.cut.kind=c.cut.kind/\b.cut.set<c.cut.set)):=fun h=>F (.inr ⟨e2,h⟩)
    omega
def orI:List Int->Int
 | []=>0
 | a::l=>if a=0 then orI l else a
def VK(l:List Int)(hl:l.length<=1048576):PC prog 43 [.sl (l.map aP)] (int (orI l)):=by
 refine pcd func43 rfl rfl ?_;simp only[go_sem];refine⟨fun ρ H=>∃(k:Nat),k<=l.length/\ρ 3=int 0/\ρ 6=.sl (l.map aP)/\ρ 7=int (l.length:Nat)/\ρ 8=int k/\orI l=orI (l.drop k),fun ρ _=>l.length-aW (ρ 8),⟨0,Xab _,by simp only[go_sem],by simp only[go_sem],by simp only[go_sem,Xaa],(by simp only[go_sem];rfl),rfl⟩,?_⟩;rintro ρ H ⟨k,hk,L,M,J,Z,O⟩;simp only[go_sem,L,M,J,Z];refine aA (fun E=>?_) (fun F=>?_)
 ·have E:=ltB E;obtain⟨u,hu⟩:=bG E;have b1:=inB E;rw[qT hu,orI]at O;simp only[go_sem,L,M,J,Z,aJ hu,b1];refine aA (fun hb=>?_) (fun hb=>?_)
  ·simp only[go_sem,L,M,J,Z];exact cI (by rw[O,if_neg (by simpa using hb)])
  ·rw[if_pos (by simpa using hb)]at O;simp only[go_sem,L,M,J,Z,aY k];exact⟨⟨k+1,E,rfl,O⟩,by simp only[aF];omega⟩
 ·have F:=geB hk F;subst F;simp only[go_sem,L,M,J,Z];exact cI (by rw[O,List.drop_length];rfl)
def QS(b:Broken):Prop:=bP b.by_=true
def Sx(a b:Broken)(E:QS a)(u:QS b):∃n:Int,decide (n<0)=xL a b/\PC prog 42 [.agg (bB a),.agg (bB b)] (int n):=by
 have O:=eW E;have Z:=eW u;refine⟨orI [EV b.by_ a.by_,fV a.cut.kind b.cut.kind,fV a.cut.set b.cut.set],?_,?_⟩
 ·unfold QS at E u;have e:EV b.by_ a.by_=NT (fL b.by_) (fL a.by_):=by unfold EV;rw[E,u];rfl
  rw[e];unfold xL NT fV;simp only[orI];by_cases h1:fL b.by_<fL a.by_
  ·simp[h1]
  ·by_cases L:fL a.by_<fL b.by_
   ·simp[h1,L]
   ·simp only[h1,L,if_false];by_cases F:a.cut.kind<b.cut.kind
    ·simp[F]
    ·by_cases J:b.cut.kind<a.cut.kind
     ·simp[F,J]
     ·simp only[F,J,if_false];by_cases h5:a.cut.set<b.cut.set
      ·simp[h5]
      ·by_cases M:b.cut.set<a.cut.set
       ·simp[h5,M]
       ·simp[h5,M]
 ·
  refine pcd func42 rfl rfl ?_;simp only[go_sem];refine RH (by kernel_rfl) ?_;simp only[go_sem];refine⟨_,(dW b.by_ a.by_ (by omega) (by omega)).q rfl,?_⟩;simp only[go_sem];refine⟨_,(Fh a.cut.kind b.cut.kind).q rfl,?_⟩;simp only[go_sem];refine⟨_,(Fh a.cut.set b.cut.set).q rfl,?_⟩;simp only[go_sem];refine aN (VK [EV b.by_ a.by_,fV a.cut.kind b.cut.kind,fV a.cut.set b.cut.set] (by simp)) ?_;simp only[go_sem];exact .refl _
def Vb:CmpOk 42 xL QS:=⟨by kernel_rfl,Sx⟩
def jA(cols:List Column)(rates:List ByteArray)(l:List Cut):List Broken:=(l.filter fun c=>decide (rO (dM c cols rates).1>0)).map fun c=>⟨c,(dM c cols rates).1⟩
def Qf(cols:List Column)(rates:List ByteArray)(l:List Cut):Option Int:=(l.map fun c=>(dM c cols rates).2).find? fun e=>e != 0
def Ix(x:Instance)(d:Nat)(cols:List Column)(rates:List ByteArray):List Cut×Int:=
 if((dM ⟨1,0,0⟩ cols rates).2 == 2||(dM ⟨1,0,0⟩ cols rates).2 == 3)=true then([],(dM ⟨1,0,0⟩ cols rates).2)else
 match Qf cols rates (wW x d)with
 | some e=>([],e)
 | none=>(((zT xL (jA cols rates (wW x d))).take 24).map Broken.cut,0)
def RU(x:Instance)(d:Nat)(h:LoadsOk x d)(Z:x.orders.length<=10):∀c∈wW x d,DQ c/\c.set<1024:=by
 intro c u;have L:2^x.orders.length<=2^10:=Xam (by decide) Z;have ha:=E9 x;have hm:=Ba x;unfold wW at u;rcases Xbj.1 u with u|u
 ·obtain⟨s,E,rfl⟩:=List.mem_map.1 u;unfold oJ at E;obtain⟨p,_,rfl⟩:=List.mem_map.1 E;have:=lJ 64 (oO x) p;unfold EH DQ;simp only;omega
 ·obtain⟨s,E,F⟩:=List.mem_filterMap.1 u;unfold nT at E;obtain⟨p,_,rfl⟩:=List.mem_map.1 E;have:=lJ 64 (jZ x) p;unfold qR at F;split at F
  ·next hp=>
   cases F;have M:mR x d (dep 64 (jZ x) p:Nat)<=63001:=by
    unfold mR;split
    ·omega
    ·next O=>
     split
     ·omega
     ·have J:(dep 64 (jZ x) p)<2^x.orders.length:=by omega
      exact(MD h (E1 J (by omega)) (oW _ _) d (Xad _)).2
   unfold DQ;simp only;omega
  ·cases F
def HC(cols:List Column)(rates:List ByteArray)(l:List Cut)(c:Cut):jA cols rates (l++[c])=jA cols rates l++if rO (dM c cols rates).1>0 then[⟨c,(dM c cols rates).1⟩]else[]:=by
 unfold jA;rw[List.filter_append,Xak]
 congr 1
 by_cases h:rO (dM c cols rates).1>0
 ·simp[h]
 ·simp[h]
def wK{c:Cut}{cols:List Column}{rates:List ByteArray}(h:(dM c cols rates).2=0):bP (dM c cols rates).1=true:=by
 unfold dM at h |-;split at h
 ·cases h
 ·next h1=>
  rw[if_neg h1];split at h
  ·next u=>exact absurd h u
  ·next u=>
   rw[if_neg u];split at h
   ·next E=>exact absurd h E
   ·next E=>
    rw[if_neg E];split
    ·exact vL
    ·exact AS (zU (by simpa using u)) (by simpa using E)
structure ColsOk(cols:List Column)(rates:List ByteArray):Prop where
 set:∀c∈cols,0<=c.set/\c.set<=9223372036854775807
 cl:cols.length<=1048576
 rl:rates.length<=1048576
 rs:∀s∈rates,s.size<=1048576
def Hh{c:Cut}{cols:List Column}{rates:List ByteArray}(h:ColsOk cols rates)(u:DQ c):PC prog 38 [.agg (cU c),.sl (cols.map bF),.sl (rates.map Go.Aw.D.cQ)] (.tup [str (dM c cols rates).1,int (dM c cols rates).2]):=
 Qi c cols rates u h.set h.cl h.rl h.rs
def Pz(x:Instance)(d:Nat)(u:x.orders.length<=10):(wW x d).length<=2048:=by
 have E:2^x.orders.length<=2^10:=Xam (by decide) u;have J:(oJ (oO x)).length<=1024:=by unfold oJ;rw[Xaa];refine Xan (Xbe _ _) ?_;rw[Xbr];exact Xam (by decide) (Xan (tR (E9 x) 64) u)
 have F:(nT (jZ x)).length<=1024:=by unfold nT;rw[Xaa,Xbr];exact Xam (by decide) (Xan (tR (Ba x) 64) u)
 have:=List.length_filterMap_le (qR x d) (nT (jZ x));unfold wW;rw[Xac,Xaa];omega
def Oq{α:Type}(lt:α->α->Bool)(l:List α):(zT lt l).length=l.length:=by
 have:∀(l u:List α),(l.foldl (fun a x=>ins lt x a) u).length=u.length+l.length:=by
  intro l;induction l with
  | nil=>intro u;simp
  | cons x l ih=>intro u;rw[List.foldl_cons,ih,(wE lt x u).length_eq,Xae,Xae];omega
 unfold zT;rw[this l []];simp
set_option maxHeartbeats 2000000 in
theorem Pg (x:Instance) (d:Nat) (cols:List Column) (rates:List ByteArray) (h:LoadsOk x d) (ht:x.types≠[]) (hx:x.orders.length<=10) (hc:ColsOk cols rates):
    PC prog 18 [.agg (aH x),.sl (cols.map bF),.sl (rates.map Go.Aw.D.cQ)] (.tup [.sl ((Ix x d cols rates).1.map cU),int (Ix x d cols rates).2]):=by
  have a5:=Pz x d hx
  have ar:=RU x d h hx
  refine pcb (fun t=>t == 10||t == 15||t == 61) func18 rfl rfl ?_
  simp only[go_sem]
  refine aN (Hh hc (c:=⟨1,0,0⟩) (by unfold DQ;simp)) ?_
  unfold Ix
  generalize dM ⟨1,0,0⟩ cols rates=B0
  simp only[go_sem]
  refine aA (fun O=>?_) (fun O=>?_)
  . rw[if_pos O]
    simp only[go_sem]
    exact .refl _
  rw[if_neg (by rw[O];simp)]
  simp only[go_sem]
  refine aL fun j hj=>?_
  simp only[go_sem]
  refine aN (JT x d h ht hx) ?_
  simp only[go_sem]
  generalize wW x d=l at *
  refine⟨fun ρ H=>∃(k:Nat) (j:Nat),k<=l.length/\ρ 1=.sl (cols.map bF)/\ρ 2=.sl (rates.map Go.Aw.D.cQ)/\ρ 33=.sl (l.map cU)/\ρ 34=int (l.length:Nat)/\ρ 35=int k/\ρ 10=.os j/\H j=some (dO (jA cols rates (l.take k)))/\(∀c∈l.take k,(dM c cols rates).2=0),fun ρ _=>l.length-aW (ρ 35),⟨0,j,Xab _,by simp only[go_sem],by simp only[go_sem],by simp only[go_sem],by simp only[go_sem,Xaa],(by simp only[go_sem];rfl),by simp only[go_sem],aB _ _ _,by simp⟩,?_⟩
  rintro ρ H ⟨k,j,hk,M,e2,F,E,J,u,R,hz⟩
  simp only[go_sem,M,e2,F,E,J,u]
  refine aA (fun L=>?_) (fun Z=>?_)
  . have L:=ltB L
    obtain⟨c,ac⟩:=bG L
    have b1:=inB L
    have ax:=ar c (Xaf ac)
    have ao:(jA cols rates (l.take k)).length<=k:=by
      unfold jA
      rw[Xaa]
      refine Xan (Xbe _ _) ?_
      rw[Xaj];omega
    simp only[go_sem,M,e2,F,E,J,u,aJ ac,b1]
    refine aL fun i aj=>?_
    simp only[go_sem,M,e2,F,E,J,u,R]
    refine iI aj (by simp[nE]) fun a0 (Ri:a0 i=some (⟨82,3,[cU c]⟩)) N=>?_
    replace R:=N R
    obtain⟨am,R⟩:=R
    clear N aj
    simp only[go_sem,M,e2,F,E,J,u,Ri,R]
    refine aN (Hh hc ax.1) ?_
    simp only[go_sem,M,e2,F,E,J,u]
    refine aA (fun O=>?_) (fun O=>?_)
    . have he : Qf cols rates l = some (dM c cols rates).2 := by
        unfold Qf
        have O:(dM c cols rates).2≠0:=by simpa using O
        have au:l=l.take k++c::l.drop (k+1):=by rw[<-qT ac,List.take_append_drop]
        rw[au,Xak,List.find?_append,Xar,List.find?_cons]
        have h0:((l.take k).map fun c=>(dM c cols rates).2).find? (fun e=>e != 0)=none:=by
          rw[List.find?_eq_none]
          intro e hm
          obtain⟨c',ap,rfl⟩:=List.mem_map.1 hm
          rw[hz c' ap];simp
        rw[h0,bne_iff_ne.2 O]
        rfl
      simp only[go_sem,M,e2,F,E,J,u]
      rw[he]
      exact .refl _
    have ah:(dM c cols rates).2=0:=by simpa using O
    have hr:=wK ah
    have a6:=eW hr
    have ag:=HC cols rates (l.take k) c
    rw[<-bK ac]at ag
    simp only[go_sem,M,e2,F,E,J,u]
    refine aN (fS _ (by omega)) ?_
    simp only[go_sem,M,e2,F,E,J,u]
    refine aA (fun hp=>?_) (fun hp=>?_)
    . rw[if_pos (by simpa using hp)]at ag
      simp only[go_sem,M,e2,F,E,J,u,Ri]
      change bD (some (bB ⟨c,(dM c cols rates).1⟩)) _
      simp only[go_sem,M,e2,F,E,J,u]
      refine cD R ⟨rfl,rfl⟩ ⟨rfl,trivial⟩ (by simp only[Xaa,Xae,List.length_nil];omega) (fun j' aw=>?_)
      simp only[go_sem,M,e2,F,E,J,u,aY k]
      refine⟨⟨k+1,j',L,rfl,rfl,?_,fU ac ah hz⟩,by simp only[aF];omega⟩
      rw[ag]
      exact iU rfl
    . rw[if_neg (by simpa using hp),Xaq]at ag
      simp only[go_sem,M,e2,F,E,J,u,aY k]
      refine⟨⟨k+1,j,L,rfl,rfl,?_,fU ac ah hz⟩,by simp only[aF];omega⟩
      rw[ag];exact R
  have Z:=geB hk Z
  subst Z
  rw[Xai]at R hz
  have he:Qf cols rates l=none:=by
    unfold Qf
    rw[List.find?_eq_none]
    intro e hm
    obtain⟨c,hc,rfl⟩:=List.mem_map.1 hm
    rw[hz c hc];simp
  rw[he]
  have ao:(jA cols rates l).length<=l.length:=by
    unfold jA
    rw[Xaa]
    exact Xbe _ _
  have az:∀b∈jA cols rates l,QS b:=by
    intro b O
    unfold jA at O
    obtain⟨c,hc,rfl⟩:=List.mem_map.1 O
    exact wK (hz c (List.mem_filter.1 hc).1)
  have a7:(zT xL (jA cols rates l)).length=(jA cols rates l).length:=Oq _ _
  simp only[go_sem,M,e2,F,E,J,u]
  refine FW OW Vb (jA cols rates l) j H _ (by omega) az R fun r=>?_
  generalize zT xL (jA cols rates l)=S at *
  simp only[go_sem,M,e2,F,E,J,u]
  refine aL fun i hi=>?_
  have al:j≠i:=fun e=>by rw[<-e,aB]at hi;cases hi
  simp only[go_sem,M,e2,F,E,J,u]
  refine N4 (j:=j) (r:=dO S) (by simp only[go_sem,M,e2,F,E,J,u]) (by rw[aC _ _ _ _ al];exact aB _ _ _) fun Hr a8 av=>?_
  have Ri:Hr i=some (E8 []):=by rw[av i al.symm,aB];rfl
  have ai:O0 ((S.length:Nat):Int) 24=((min S.length 24:Nat):Int):=by unfold O0;split <;> omega
  have ay:(S.map bB).take (min S.length 24)=(S.take 24).map bB:=by
    rw[<-List.map_take]
    congr 1
    rcases Nat.le_total S.length 24 with h|h
    . rw[Xbu h,Xba (Xad _),Xba h]
    . rw[Nat.min_eq_right h]
  have a4:(S.take 24).length<=24:=by rw[Xaj];omega
  simp only[go_sem,M,e2,F,E,J,u,Xaa,ai,ay]
  generalize S.take 24=X at *
  refine⟨by omega,?_⟩
  refine⟨fun ρ H=>∃(k:Nat) (i:Nat),k<=X.length/\ρ 65=.sl (X.map bB)/\ρ 66=int (X.length:Nat)/\ρ 67=int k/\ρ 15=.os i/\H i=some (E8 ((X.take k).map Broken.cut)),fun ρ _=>X.length-aW (ρ 67),⟨0,i,Xab _,by simp only[go_sem],by simp only[go_sem,Xaa],(by simp only[go_sem];rfl),by simp only[go_sem],Ri⟩,?_⟩
  rintro ρ H ⟨k,i,hk,ab,af,aa,ae,Rs⟩
  simp only[go_sem,ab,af,aa,ae]
  refine aA (fun L=>?_) (fun Z=>?_)
  . have L:=ltB L
    obtain⟨b,O⟩:=bG L
    have b1:=inB L
    simp only[go_sem,ab,af,aa,ae,aJ O,b1]
    refine aL fun m ak=>?_
    simp only[go_sem,ab,af,aa,ae,Rs]
    refine iI ak (by simp[bU]) fun aq (Rm:aq m=some (dO [b])) N=>?_
    replace Rs:=N Rs
    obtain⟨an,Rs⟩:=Rs
    clear N ak
    simp only[go_sem,ab,af,aa,ae,Rm,Rs]
    refine cD Rs ⟨rfl,rfl⟩ ⟨rfl,trivial⟩ (by simp only[Xaa,Xaj,Xae,List.length_nil];omega) (fun j' aw=>?_)
    simp only[go_sem,ab,af,aa,ae,aY k]
    refine⟨⟨k+1,j',L,rfl,rfl,?_⟩,by simp only[aF];omega⟩
    rw[bK O,Xak]
    exact iU rfl
  . have Z:=geB hk Z
    subst Z
    rw[Xai]at Rs
    simp only[go_sem,ab,af,aa,ae]
    exact .tup _ _ (.cons _ _ _ _ (.row _ _ _ Rs (ConvE.refl _)) (.cons _ _ _ _ (.refl _) .nil))
end Nu
namespace Nu
open Go.Nu Go.So Go.Sb
end Nu
namespace Nu
open Go.Proofs.Tryz
open Go.Nu Go.So Go.Sb
def RV(c:Cut)(E:Nat)(h:0<=c.set)(u:c.set<9223372036854775808)(F:E<2^63):PC prog 81 [.agg (cU c),int E] (int (BO c.kind (c.set.toNat &&& E))):=by obtain⟨k,s,n⟩:=c;obtain⟨m,rfl⟩:=Int.eq_ofNat_of_zero_le h;have u:(m:Int)<9223372036854775808:=u;exact QK k n m E (by omega) F
end Nu
namespace Nu
open Go.Nu
open Dec (yH lH iV)
def U3(x:Instance):List Nat:=(List.range x.orders.length).filter (nO (fun _=>true) x.orders)
def gR(x:Instance):List Int:=(U3 x).map fun i:Nat=>(i:Int)
def TO(x:Instance)(k:Nat):List Int:=((List.range k).filter (nO (fun _=>true) x.orders)).map fun i:Nat=>(i:Int)
def NS(x:Instance)(k:Nat):(TO x k).length<=k:=by unfold TO;rw[Xaa];exact Xan (Xbe _ _) (by rw[Xbr];exact Xad _)
def AQ(x:Instance):(gR x).length<=x.orders.length:=NS x _
def vN{p q:Nat->Bool}{n:Nat}(h1:∀i,i<n->p i=q i)(u:∀i,n<=i->p i=false):∀m,(List.range (n+m)).filter p=(List.range n).filter q
 | 0=>List.filter_congr fun i hi=>h1 i (Xbi.1 hi)
 | m+1=>by rw[<-Xbn,List.range_succ,List.filter_append,vN h1 u m];simp[u (n+m) (by omega)]
def F4(x:Instance)(h:x.orders.length<=62):jO (oO x:Nat)=gR x:=by
 unfold jO sG gR U3
 congr 1
 obtain⟨m,hm⟩:∃m,63=x.orders.length+m:=⟨63-x.orders.length,by omega⟩;have E:∀i,(oO x).testBit i=(decide (i<x.orders.length)&&nO (fun _=>true) x.orders i):=fun i=>qI _ _ _
 have u:∀i:Nat,kM ((oO x:Nat):Int) (i:Int)=(decide (i<x.orders.length)&&nO (fun _=>true) x.orders i):=by
  intro i;by_cases hi:i<=62
  ·rw[sN hi,E]
  ·unfold kM;rw[decide_eq_false (show ¬((i:Int)<=62)by omega),decide_eq_false (show ¬i<x.orders.length by omega)];simp
 rw[hm];refine vN (fun i hi=>?_) (fun i hi=>?_) m
 ·rw[u,decide_eq_true hi,Xbm]
 ·rw[u,decide_eq_false (by omega),Bool.false_and]
def vI(b:Bool):Int:=if b=true then 1 else 0
def Ai(d:Decision):Bool:=d.kind == 3||d.kind == 4
def Ga(l:List Decision)(k:Nat):((l.take k).filter Ai).length<=k:=Xan (Xbe _ _) (by rw[Xaj];omega)
def sS{α:Type}{p:α->Bool}{l:List α}{k:Nat}{a:α}(h:l[k]?=some a):(l.take (k+1)).filter p=(l.take k).filter p++(if p a=true then[a]else[]):=by
 rw[bK h,List.filter_append];by_cases u:p a=true
 ·simp[u]
 ·simp[u]
abbrev fC(l:List Int):Row:=⟨3,1,l.map aP⟩
def iQ(x:Instance)(cuts:List Cut)(ds:List Decision):Nat:=(gR x).length+x.types.length+cuts.length+(ds.filter Ai).length
structure MIn(x:Instance)(cuts:List Cut)(ds:List Decision):Prop where
 orders:x.orders.length<=62
 types:x.types.length<=1048576
 cl:cuts.length<=1048576
 dl:ds.length<=1048576
def ED(ds:List Decision)(i:Int):Bool:=ds.any fun d=>d.kind == 5&&d.a == i
def IC(x:Instance)(i:Int):Int:=(lS x.orders i).penalty
def pE(x:Instance)(ds:List Decision)(i:Int):Bool:=decide (IC x i>=0)&& !ED ds i
def qA(x:Instance)(ds:List Decision):List Int:=(gR x).filter (pE x ds)
def Ej{α:Type}(p:α->Bool)(l:List α)(k:Nat):((l.take k).filter p).length<=k:=Xan (Xbe _ _) (by rw[Xaj];omega)
def rN(x:Instance)(c:Column):List Int:=(gR x).map fun i=>vI (kM c.set i)
def mT(x:Instance)(c:Column)(k:Nat):List Int:=(List.range k).map fun t:Nat=>vI (c.type == (t:Int))
def rR(c:Column)(cuts:List Cut):List Int:=cuts.map fun q=>BO q.kind (q.set.toNat &&& c.set.toNat)
def rT(c:Column)(ds:List Decision):List Int:=(ds.filter Ai).map fun d=>vI (c.type == d.a)
def xV(x:Instance)(c:Column)(cuts:List Cut)(ds:List Decision):List Int:=rN x c++mT x c x.types.length++rR c cuts++rT c ds
structure ColB(c:Column):Prop where
 set:0<=c.set/\c.set<=9223372036854775807
structure CutsB(cuts:List Cut):Prop where
 set:∀q∈cuts,0<=q.set/\q.set<=9223372036854775807
def AI(x:Instance)(c:Column)(cuts:List Cut)(ds:List Decision):(xV x c cuts ds).length=iQ x cuts ds:=by unfold xV rN mT rR rT iQ;simp only[Xac,Xaa,Xbr]
end Nu
namespace Nu
open Go.Proofs.Tryz
open Go.Nu
open Dec (yH lH iV)
def Q5(m:List (Int×Int))(o v q:Int):Ac (NF m o v) q=if q=o then v else Ac m q:=by
 unfold Ac NF Cn;induction m with
 | nil=>
  by_cases h:q=o
  ·subst h;simp
  ·have E:(o == q)=false:=by simpa using fun e=>h e.symm
   simp[h,E]
 | cons p m ih=>
  rw[List.findIdx?_cons];cases J:p.1 == o with
  | true=>
   have u:p.1=o:=by simpa using J
   simp only[if_true,List.set_cons_zero,List.find?_cons];by_cases h:q=o
   ·subst h;simp
   ·have E:(o == q)=false:=by simpa using fun e=>h e.symm
    have L:(p.1 == q)=false:=by rw[u];exact E
    simp[h,E,L]
  | false=>
   have u:p.1≠o:=by simpa using J
   cases hi:m.findIdx? (fun p=>p.1 == o)with
   | none=>
    rw[hi]at ih;simp only[Xax,if_false,Option.map_none,Xaw,List.find?_cons];cases F:p.1 == q with
    | true=>
     have:q≠o:=fun e=>u ((by simpa using F:p.1=q).trans e)
     simp[this]
    | false=>simpa using ih
   | some j=>
    rw[hi]at ih;simp only[Xax,if_false,Option.map_some,List.set_cons_succ,List.find?_cons];cases F:p.1 == q with
    | true=>
     have:q≠o:=fun e=>u ((by simpa using F:p.1=q).trans e)
     simp[this]
    | false=>simpa using ih
def Ux(d:Decision):PC prog 196 [.agg (aT d)] (boo (Ai d)):=by refine pcd func196 rfl rfl ?_;simp only[go_sem];exact .refl _
def LM(b:Bool):PC prog 127 [boo b] (int (vI b)):=by
 refine pcd func127 rfl rfl ?_;simp only[go_sem];refine aA (fun u=>?_) (fun u=>?_)
 ·simp only[go_sem];subst u;exact .refl _
 ·simp only[go_sem];subst u;exact .refl _
def TC(x:Instance)(c:Column)(cuts:List Cut)(ds:List Decision)(h:MIn x cuts ds)(hc:ColB c)(hq:CutsB cuts):
  PC prog 125 [.agg (aH x),.agg (bF c),.sl (cuts.map cU),.sl (ds.map aT)] (.sl ((xV x c cuts ds).map aP)):=by
 have h1:=h.orders;have h2:=h.types;have h3:=h.cl;have h4:=h.dl;have a5:=AQ x;obtain⟨sn,av⟩:=Int.eq_ofNat_of_zero_le hc.set.1;have an:sn<2^63:=by have:=hc.set.2;omega
 refine pcb (fun t=>t == 9) func125 rfl rfl ?_;simp only[go_sem];refine FU fun j ax aw (R:ax j=some (fC [])) N=>?_
 clear N aw;simp only[go_sem,R];refine aN (zD x h1) ?_;simp only[go_sem];refine aN (iG _) ?_;rw[F4 x h1];simp only[go_sem];refine⟨fun ρ H=>∃(k:Nat) (j:Nat),k<=(gR x).length/\ρ 2=.sl (cuts.map cU)/\ρ 3=.sl (ds.map aT)/\ρ 4=.rp (aH x) 0/\ρ 5=.rp (bF c) 0/\ρ 19=.sl ((gR x).map aP)/\ρ 20=int ((gR x).length:Nat)/\ρ 21=int k/\ρ 9=.os j/\H j=some (fC (((gR x).take k).map fun i=>vI (kM c.set i))),fun ρ _=>(gR x).length-aW (ρ 21),⟨0,j,Xab _,by simp only[go_sem],by simp only[go_sem],by simp only[go_sem],by simp only[go_sem],by simp only[go_sem],by simp only[go_sem,Xaa],(by simp only[go_sem];rfl),by simp only[go_sem],R⟩,?_⟩;rintro ρ H ⟨k,j,hk,e2,J,e4,e5,ae,ac,af,E,R⟩;simp only[go_sem,e2,J,e4,e5,ae,ac,af,E];refine aA (fun u=>?_) (fun F=>?_)
 ·have u:=ltB (by simpa using u);obtain⟨i,hi⟩:=bG u;have b1:=inB u;simp only[go_sem,e2,J,e4,e5,ae,ac,af,E,aJ hi,b1];refine aN (Cf _ i) ?_;simp only[go_sem,e2,J,e4,e5,ae,ac,af,E];refine aN (LM _) ?_;simp only[go_sem,e2,J,e4,e5,ae,ac,af,E];refine cD R ⟨rfl,rfl⟩ ⟨rfl,trivial⟩ (by simp only[Xaa,Xaj,Xae,List.length_nil];omega) (fun j' am=>?_);simp only[go_sem,e2,J,e4,e5,ae,ac,af,E,aY k];refine⟨⟨k+1,j',u,rfl,rfl,?_⟩,by simp only[aF];omega⟩;rw[bK hi,Xak];exact iU rfl
 have F:=geB hk (by simpa using F);subst F;rw[Xai]at R
 change H j=some (fC (rN x c))at R
 simp only[go_sem,e2,J,e4,e5,ae,ac,af,E,Xaa];refine⟨fun ρ H=>∃(k:Nat) (j:Nat),k<=x.types.length/\ρ 2=.sl (cuts.map cU)/\ρ 3=.sl (ds.map aT)/\ρ 5=.rp (bF c) 0/\ρ 36=int (x.types.length:Nat)/\ρ 37=int k/\ρ 9=.os j/\H j=some (fC (rN x c++mT x c k)),fun ρ _=>x.types.length-aW (ρ 37),⟨0,j,Xab _,by simp only[go_sem,e2,J,e5],by simp only[go_sem,e2,J,e5],by simp only[go_sem,e2,J,e5],by simp only[go_sem,Xaa,e2,J,e5],(by simp only[go_sem,e2,J,e5];rfl),by simp only[go_sem,E],by simpa[mT]using R⟩,?_⟩;rintro ρ H ⟨k,j,hk,e2,J,e5,ag,aj,E,R⟩;simp only[go_sem,e2,J,e5,ag,aj,E];refine aA (fun u=>?_) (fun F=>?_)
 ·have u:=ltB (by simpa using u);have ak:(rN x c++mT x c k).length<=62+k:=by unfold rN mT;simp only[Xac,Xaa,Xbr];omega
  simp only[go_sem,e2,J,e5,ag,aj,E];refine aN (LM _) ?_;simp only[go_sem,e2,J,e5,ag,aj,E];refine cD R ⟨rfl,rfl⟩ ⟨rfl,trivial⟩ (by simp only[Xaa,Xae,List.length_nil];omega) (fun j' am=>?_);simp only[go_sem,e2,J,e5,ag,aj,E,aY k];refine⟨⟨k+1,j',u,rfl,rfl,?_⟩,by simp only[aF];omega⟩;have:mT x c (k+1)=mT x c k++[vI (c.type == (k:Int))]:=by unfold mT;rw[List.range_succ,Xak];rfl
  rw[this,<-Xah];exact iU rfl
 have F:=geB hk (by simpa using F);subst F;simp only[go_sem,e2,J,e5,ag,aj,E,Xaa];refine⟨fun ρ H=>∃(k:Nat) (j:Nat),k<=cuts.length/\ρ 3=.sl (ds.map aT)/\ρ 5=.rp (bF c) 0/\ρ 49=.sl (cuts.map cU)/\ρ 50=int (cuts.length:Nat)/\ρ 51=int k/\ρ 9=.os j/\H j=some (fC (rN x c++mT x c x.types.length++rR c (cuts.take k))),fun ρ _=>cuts.length-aW (ρ 51),⟨0,j,Xab _,by simp only[go_sem,J,e5],by simp only[go_sem,J,e5],by simp only[go_sem,J,e5],by simp only[go_sem,Xaa,J,e5],(by simp only[go_sem,J,e5];rfl),by simp only[go_sem,E],by simpa[rR]using R⟩,?_⟩;rintro ρ H ⟨k,j,hk,J,e5,ab,Z,aa,E,R⟩;simp only[go_sem,J,e5,ab,Z,aa,E];refine aA (fun u=>?_) (fun F=>?_)
 ·have u:=ltB (by simpa using u);obtain⟨q,al⟩:=bG u;have b1:=inB u;have az:=hq.set q (Xaf al);have ak:(rN x c++mT x c x.types.length++rR c (cuts.take k)).length<=62+1048576+1048576:=by unfold rN mT rR;simp only[Xac,Xaa,Xbr,Xaj];omega
  simp only[go_sem,J,e5,ab,Z,aa,E,aJ al,b1];refine aL fun a0 ah=>?_
  simp only[go_sem,J,e5,ab,Z,aa,E,R];refine iI ah (by simp[nE]) fun ap (ay:ap a0=some (⟨82,3,[cU q]⟩)) N=>?_
  replace R:=N R;obtain⟨ar,R⟩:=R;clear N ah;simp only[go_sem,J,e5,ab,Z,aa,E,ay,R];rw[av];refine aN (RV q sn az.1 (by omega) an) ?_;simp only[go_sem,J,e5,ab,Z,aa,E];refine cD R ⟨rfl,rfl⟩ ⟨rfl,trivial⟩ (by simp only[Xaa,Xae,List.length_nil];omega) (fun j' am=>?_);simp only[go_sem,J,e5,ab,Z,aa,E,aY k];refine⟨⟨k+1,j',u,rfl,rfl,?_⟩,by simp only[aF];omega⟩;have:rR c (cuts.take (k+1))=rR c (cuts.take k)++[BO q.kind (q.set.toNat &&& sn)]:=by unfold rR;rw[bK al,Xak,av];rfl
  rw[this,<-Xah];exact iU rfl
 have F:=geB hk (by simpa using F);subst F;rw[Xai]at R;simp only[go_sem,J,e5,ab,Z,aa,E,Xaa];refine⟨fun ρ H=>∃(k:Nat) (j:Nat),k<=ds.length/\ρ 5=.rp (bF c) 0/\ρ 63=.sl (ds.map aT)/\ρ 64=int (ds.length:Nat)/\ρ 65=int k/\ρ 9=.os j/\H j=some (fC (rN x c++mT x c x.types.length++rR c cuts++rT c (ds.take k))),fun ρ _=>ds.length-aW (ρ 65),⟨0,j,Xab _,by simp only[go_sem,e5],by simp only[go_sem,e5],by simp only[go_sem,Xaa,e5],(by simp only[go_sem,e5];rfl),by simp only[go_sem,E],by simpa[rT]using R⟩,?_⟩;rintro ρ H ⟨k,j,hk,e5,O,L,M,E,R⟩;simp only[go_sem,e5,O,L,M,E];refine aA (fun u=>?_) (fun F=>?_)
 ·have u:=ltB (by simpa using u);obtain⟨d,hd⟩:=bG u;have b1:=inB u;have hs:=sS (p:=Ai) hd;have ak:(rN x c++mT x c x.types.length++rR c cuts++rT c (ds.take k)).length<=62+1048576+1048576+1048576:=by have:=Ga ds k;unfold rN mT rR rT;simp only[Xac,Xaa,Xbr];omega
  simp only[go_sem,e5,O,L,M,E,aJ hd,b1];refine aL fun a4 ai=>?_
  simp only[go_sem,e5,O,L,M,E,R];refine iI ai (by simp[fF]) fun ao (au:ao a4=some (⟨50,4,[aT d]⟩)) N=>?_
  replace R:=N R;obtain⟨aq,R⟩:=R;clear N ai;simp only[go_sem,e5,O,L,M,E,au,R];refine aN (Ux d) ?_;simp only[go_sem,e5,O,L,M,E];refine aA (fun hb=>?_) (fun hb=>?_)
  ·rw[if_pos hb]at hs;have:rT c (ds.take (k+1))=rT c (ds.take k)++[vI (c.type == d.a)]:=by unfold rT;rw[hs,Xak,Xar,Xay]
   simp only[go_sem,e5,O,L,M,E,au];refine aN (LM _) ?_;simp only[go_sem,e5,O,L,M,E];refine cD R ⟨rfl,rfl⟩ ⟨rfl,trivial⟩ (by simp only[Xaa,Xae,List.length_nil];omega) (fun j' am=>?_);simp only[go_sem,e5,O,L,M,E,aY k];refine⟨⟨k+1,j',u,rfl,rfl,?_⟩,by simp only[aF];omega⟩;rw[this,<-Xah];exact iU rfl
  ·rw[if_neg (by rw[hb];simp),Xaq]at hs;simp only[go_sem,e5,O,L,M,E,aY k];refine⟨⟨k+1,j,u,rfl,rfl,?_⟩,by simp only[aF];omega⟩;have:rT c (ds.take (k+1))=rT c (ds.take k):=by unfold rT;rw[hs]
   rw[this];exact R
 have F:=geB hk (by simpa using F);subst F;rw[Xai]at R;simp only[go_sem,e5,O,L,M,E];exact .row _ _ _ R (ConvE.refl _)
def inM(cols:List Column)(ds:List Decision):List Column:=cols.filter fun c=>ds.all fun d=>iV d c.set
abbrev Me(l:List Column):Row:=⟨90,7,l.map bF⟩
def NV(cols:List Column)(ds:List Decision)(hl:cols.length<=1048576)(hd:ds.length<=1048576):PC prog 122 [.sl (cols.map bF),.sl (ds.map aT)] (.sl ((inM cols ds).map bF)):=by
 refine pcb (fun t=>t == 5) func122 rfl rfl ?_;simp only[go_sem];refine FU fun j ac ab (R:ac j=some (Me [])) N=>?_
 clear N ab;simp only[go_sem,R];refine⟨fun ρ H=>∃(k:Nat) (j:Nat),k<=cols.length/\ρ 1=.sl (ds.map aT)/\ρ 8=.sl (cols.map bF)/\ρ 9=int (cols.length:Nat)/\ρ 10=int k/\ρ 5=.os j/\H j=some (Me (inM (cols.take k) ds)),fun ρ _=>cols.length-aW (ρ 10),⟨0,j,Xab _,by simp only[go_sem],by simp only[go_sem],by simp only[go_sem,Xaa],(by simp only[go_sem];rfl),by simp only[go_sem],R⟩,?_⟩;rintro ρ H ⟨k,j,hk,F,L,J,u,e5,R⟩;simp only[go_sem,F,L,J,u,e5];refine aA (fun E=>?_) (fun O=>?_)
 ·have E:=ltB (by simpa using E);obtain⟨c,hc⟩:=bG E;have b1:=inB E;have hs:inM (cols.take (k+1)) ds=inM (cols.take k) ds++(if(ds.all fun d=>iV d c.set)=true then[c]else[]):=sS (p:=fun c:Column=>ds.all fun d=>iV d c.set) hc;have af:(inM (cols.take k) ds).length<=k:=Ej _ _ _;simp only[go_sem,F,L,J,u,e5,aJ hc,b1];refine aL fun i7 M=>?_
  simp only[go_sem,F,L,J,u,e5,R];refine iI M (by simp[kZ]) fun Z (R7:Z i7=some (⟨90,7,[bF c]⟩)) N=>?_
  replace R:=N R;obtain⟨aa,R⟩:=R;clear N M;simp only[go_sem,F,L,J,u,e5,R7,R];refine aN (Dec.OM ds c hd) ?_;simp only[go_sem,F,L,J,u,e5];refine aA (fun hb=>?_) (fun hb=>?_)
  ·rw[if_pos hb]at hs;simp only[go_sem,F,L,J,u,e5,R7];refine cD R ⟨rfl,rfl⟩ ⟨rfl,trivial⟩ (by simp only[Xaa,Xae,List.length_nil];omega) (fun j' ae=>?_);simp only[go_sem,F,L,J,u,e5,aY k];refine⟨⟨k+1,j',E,rfl,rfl,?_⟩,by simp only[aF];omega⟩;rw[hs];exact iU rfl
  ·rw[if_neg (by rw[hb];simp),Xaq]at hs;simp only[go_sem,F,L,J,u,e5,aY k];exact⟨⟨k+1,j,E,rfl,rfl,by rw[hs];exact R⟩,by simp only[aF];omega⟩
 have O:=geB hk (by simpa using O);subst O;rw[Xai]at R;simp only[go_sem,F,L,J,u,e5];exact .row _ _ _ R (ConvE.refl _)
def JZ{a b:Nat}(F:a<2^63)(M:b<2^63):∃s:Nat,nK .andNot .i64 (a:Int) (b:Int)=(s:Int)/\s<=a/\∀i,s.testBit i=(a.testBit i&& !b.testBit i):=by
 have h1:((a:Int)%((2^64:Nat):Int)).toNat=a:=by omega
 have J:((b:Int)%((2^64:Nat):Int)).toNat=b:=by omega
 have L:BitVec.ofInt 64 (a:Int)=BitVec.ofNat 64 a:=by apply BitVec.eq_of_toNat_eq;rw[BitVec.toNat_ofInt,BitVec.toNat_ofNat,h1,Xbg (by omega)]
 have E:BitVec.ofInt 64 (b:Int)=BitVec.ofNat 64 b:=by apply BitVec.eq_of_toNat_eq;rw[BitVec.toNat_ofInt,BitVec.toNat_ofNat,J,Xbg (by omega)]
 have u:(BitVec.ofNat 64 a &&& ~~~BitVec.ofNat 64 b).toNat<=a:=by rw[BitVec.toNat_and,BitVec.toNat_ofNat,Xbg (by omega:a<2^64)];exact Nat.and_le_left
 refine⟨(BitVec.ofNat 64 a &&& ~~~BitVec.ofNat 64 b).toNat,?_,u,fun i=>?_⟩
 ·have h:((BitVec.ofInt 64 (a:Int) &&& ~~~(BitVec.ofInt 64 (b:Int))).toNat:Int)=(((BitVec.ofNat 64 a &&& ~~~BitVec.ofNat 64 b).toNat:Nat):Int):=by rw[L,E]
  refine Eq.trans (congrArg IntKind.i64.wrap h) ?_;exact aV (by omega)
 ·rw[BitVec.testBit_toNat];by_cases hi:i<64
  ·simp only[BitVec.getLsbD_and,BitVec.getLsbD_not,BitVec.getLsbD_ofNat,hi,decide_true,Xbm]
  ·rw[BitVec.getLsbD_of_ge _ _ (by omega),Nat.testBit_lt_two_pow (Xaz F (Xam (by decide) (by omega)))];rfl
def Pv(x:Instance)(h:x.orders.length<=62)(ds:List Decision){s:Nat}(O:∀i,s.testBit i=((oO x).testBit i&& !(jZ x).testBit i)):
  (jO (s:Int)).filter (pE x ds)=qA x ds/\(jO (s:Int)).length<=63/\∀i∈jO (s:Int),∃n o,i=((n:Nat):Int)/\n<x.orders.length/\x.orders[n]?=some o:=by
 have M:∀i,(oO x).testBit i=(decide (i<x.orders.length)&&nO (fun _=>true) x.orders i):=fun i=>qI _ _ _
 have hm:∀i,(jZ x).testBit i=(decide (i<x.orders.length)&&nO (fun o=>o.penalty == -1) x.orders i):=fun i=>qI _ _ _
 have F:∀i:Nat,kM ((s:Nat):Int) (i:Int)=(decide (i<x.orders.length)&&(nO (fun _=>true) x.orders i&& !nO (fun o=>o.penalty == -1) x.orders i)):=by
  intro i;by_cases hi:i<x.orders.length
  ·rw[sN (by omega),O,M,hm,decide_eq_true hi];simp
  ·rw[decide_eq_false hi,Bool.false_and];by_cases L:i<=62
   ·rw[sN L,O,M,decide_eq_false hi];simp
   ·unfold kM;rw[decide_eq_false (show ¬((i:Int)<=62)by omega)];simp
 have E:jO (s:Int)=((List.range x.orders.length).filter fun i=>nO (fun _=>true) x.orders i&& !nO (fun o=>o.penalty == -1) x.orders i).map fun i:Nat=>(i:Int):=by
  unfold jO sG
  congr 1
  obtain⟨m,hmm⟩:∃m,63=x.orders.length+m:=⟨63-x.orders.length,by omega⟩;rw[hmm];refine vN (fun i hi=>?_) (fun i hi=>?_) m
  ·rw[F,decide_eq_true hi,Xbm]
  ·rw[F,decide_eq_false (by omega),Bool.false_and]
 refine⟨?_,?_,?_⟩
 ·rw[E];unfold qA gR U3;rw[List.filter_map,List.filter_map,List.filter_filter,List.filter_filter]
  congr 1
  refine List.filter_congr fun i hi=>?_
  have u:=Xbi.1 hi;obtain⟨o,J⟩:=bG u;rw[BR J,BR J];have hp:IC x (i:Int)=o.penalty:=by unfold IC;rw[lF J]
  show(pE x ds (i:Int)&&_)=(pE x ds (i:Int)&&_);by_cases Z:o.penalty= -1
  ·have:pE x ds (i:Int)=false:=by unfold pE;rw[hp,Z];rfl
   rw[this];rfl
  ·have:(o.penalty == -1)=false:=by simpa using Z
   rw[this];simp
 ·exact oW _ 63
 ·intro i hi;rw[E]at hi;obtain⟨n,hn,rfl⟩:=List.mem_map.1 hi;have u:=Xbi.1 (List.mem_filter.1 hn).1;obtain⟨o,J⟩:=bG u;exact⟨n,o,rfl,u,J⟩
def F0(ds:List Decision)(i:Int):Nat:=ds.countP fun d=>d.kind == 5&&d.a == i
def CS{ds:List Decision}{k:Nat}{d:Decision}{i:Int}(h:ds[k]?=some d):F0 (ds.take (k+1)) i=F0 (ds.take k) i+(if(d.kind == 5&&d.a == i)=true then 1 else 0):=by unfold F0;rw[bK h,List.countP_append,List.countP_cons,List.countP_nil,Nat.zero_add]
def Tf(ds:List Decision)(k:Nat)(i:Int):F0 (ds.take k) i<=k:=Xan List.countP_le_length (by rw[Xaj];omega)
def NL(ds:List Decision)(i:Int):((F0 ds i:Int) == 0)= !ED ds i:=by
 unfold F0 ED;rw[Xbf];simp only[beq_iff_eq,Xbs,List.any_eq_false];constructor
 ·intro h d E u;have:0<ds.countP fun d=>d.kind == 5&&d.a == i:=List.countP_pos_iff.2 ⟨d,E,u⟩
  omega
 ·intro h;have:(ds.countP fun d=>d.kind == 5&&d.a == i)=0:=List.countP_eq_zero.2 h;omega
def Tn(x:Instance)(ds:List Decision)(hx:x.orders.length<=62)(hd:ds.length<=1048576):PC prog 123 [.agg (aH x),.sl (ds.map aT)] (.sl ((qA x ds).map aP)):=by
 refine pcb (fun t=>t == 8) func123 rfl rfl ?_;simp only[go_sem];refine FU fun jm an ao (J:an jm=some (uZ [])) N=>?_
 clear N ao;simp only[go_sem,Xaa,J];refine⟨fun ρ H=>∃(k:Nat) (m:List (Int×Int)),k<=ds.length/\ρ 2=.rp (aH x) 0/\ρ 5=.om jm/\ρ 12=.sl (ds.map aT)/\ρ 13=int (ds.length:Nat)/\ρ 14=int k/\H jm=some (uZ m)/\(∀i,Ac m i=(F0 (ds.take k) i:Nat)),fun ρ _=>ds.length-aW (ρ 14),⟨0,[],Xab _,by simp only[go_sem],by simp only[go_sem],by simp only[go_sem],by simp only[go_sem,Xaa],(by simp only[go_sem];rfl),J,fun _=>rfl⟩,?_⟩;rintro ρ H ⟨k,m,hk,e2,e5,F,u,E,J,hm⟩;simp only[go_sem,e2,e5,F,u,E];refine aA (fun L=>?_) (fun ac=>?_)
 ·have L:=ltB (by simpa using L);obtain⟨d,aj⟩:=bG L;have b1:=inB L;simp only[go_sem,e2,e5,F,u,E,aJ aj,b1];refine aL fun i7 ah=>?_
  simp only[go_sem,e2,e5,F,u,E,J];refine iI ah (by simp[fF]) fun am (R7:am i7=some (⟨50,4,[aT d]⟩)) N=>?_
  replace J:=N J;obtain⟨al,J⟩:=J;clear N ah;simp only[go_sem,e2,e5,F,u,E,R7,J];refine aA (fun hb=>?_) (fun hb=>?_)
  ·have ak:d.kind=5:=by simpa using hb
   have a4:=Tf ds k d.a;have az:=hm d.a;have wm:IntKind.i64.wrap (Ac m d.a+1)=Ac m d.a+1:=aV (by omega);simp only[go_sem,e2,e5,F,u,E,R7];refine xR J Bf (mC _) (kT _ _) zv3 ?_;rw[AW];simp only[go_sem,e2,e5,F,u,E,wm];refine Fc J Bf (mC _) (kT _ _) ?_;rw[AE];generalize hP:aE _ jm _=HP;replace J:HP jm=some (uZ (NF m d.a (Ac m d.a+1))):=by rw[<-hP,aB];skip
   clear hP;simp only[go_sem,e2,e5,F,u,E,J];simp only[aY k];refine⟨⟨k+1,NF m d.a (Ac m d.a+1),L,rfl,rfl,fun o=>?_⟩,by simp only[aF];omega⟩;rw[Q5,CS aj,hm o,hm d.a];by_cases e:o=d.a
   ·subst e;rw[ak];simp
   ·have e2:(d.kind == 5&&d.a == o)=false:=by simp;exact fun _ h=>e h.symm
    rw[if_neg e,e2];simp
  ·have ak:d.kind≠5:=by simpa using hb
   simp only[go_sem,e2,e5,F,u,E,aY k];refine⟨⟨k+1,m,L,rfl,J,fun o=>?_⟩,by simp only[aF];omega⟩;have e2:(d.kind == 5&&d.a == o)=false:=by simp;exact fun h=>absurd h ak
   rw[CS aj,hm o,e2];simp
 have ac:=geB hk (by simpa using ac);subst ac;rw[Xai]at hm;simp only[go_sem,e2,e5,F,u,E];refine FU fun j av au (R:av j=some (fC [])) N=>?_
 replace J:=N J;obtain⟨O,J⟩:=J;clear N au;simp only[go_sem,e2,e5,F,u,E,R,J];refine FL [(0,true),(1,true),(2,true),(3,true),(4,true),(7,true),(5,false),(6,false)] (by kernel_rfl) ?_;have aq:oO x<2^63:=Xaz (oT _ _) (Xam (by decide) (by omega));have ap:jZ x<2^63:=Xaz (oT _ _) (Xam (by decide) (by omega));obtain⟨s,aw,a0,ax⟩:=JZ aq ap;obtain⟨q1,q2,q3⟩:=Pv x hx ds ax;rw[<-q1];clear q1;simp only[go_sem,e2,e5,F,u,E];refine⟨_,(zD x hx).q rfl,?_⟩;simp only[go_sem,e2,e5,F,u,E];refine⟨_,(JV x hx).q rfl,?_⟩;simp only[go_sem,e2,e5,F,u,E,aw];refine aN (iG _) ?_;generalize jO (s:Int)=M at *;simp only[go_sem,e2,e5,F,u,E,Xaa];refine⟨fun ρ H=>∃(k:Nat) (j:Nat),k<=M.length/\ρ 2=.rp (aH x) 0/\ρ 5=.om jm/\ρ 32=.sl (M.map aP)/\ρ 33=int (M.length:Nat)/\ρ 34=int k/\ρ 8=.os j/\H j=some (fC ((M.take k).filter (pE x ds)))/\H jm=some (uZ m),fun ρ _=>M.length-aW (ρ 34),⟨0,j,Xab _,by simp only[go_sem,e2,e5],by simp only[go_sem,e2,e5],by simp only[go_sem,e2,e5],by simp only[go_sem,Xaa,e2,e5],(by simp only[go_sem,e2,e5];rfl),by simp only[go_sem],R,J⟩,?_⟩;rintro ρ H ⟨k,j,hk,e2,e5,Z,ab,aa,e8,R,J⟩;simp only[go_sem,e2,e5,Z,ab,aa,e8];refine aA (fun L=>?_) (fun ac=>?_)
 ·have L:=ltB (by simpa using L);obtain⟨i,hi⟩:=bG L;have b1:=inB L;obtain⟨n,o,rfl,hn,ho⟩:=q3 i (Xaf hi);have b2:=inB hn;have ag:=sS (p:=pE x ds) hi;have ay:=Ej (pE x ds) M k;have ar:IC x (n:Int)=o.penalty:=by unfold IC;rw[lF ho]
  simp only[go_sem,e2,e5,Z,ab,aa,e8,aJ hi,b1,aJ ho,b2];refine xR J Bf (mC _) (kT _ _) zv3 ?_;rw[AW,hm];simp only[go_sem,e2,e5,Z,ab,aa,e8];have af:(decide (o.penalty>=0)&&((F0 ds (n:Int):Nat):Int) == 0)=pE x ds (n:Int):=by unfold pE;rw[ar,NL]
  refine aA (fun hb=>?_) (fun hb=>?_)
  ·rw[if_pos (by rw[<-af];exact hb)]at ag;have O:jm≠j:=fun e=>by subst e;rw[J]at R;cases R
   simp only[go_sem,e2,e5,Z,ab,aa,e8];refine cD R ⟨rfl,rfl⟩ ⟨rfl,trivial⟩ (by simp only[Xaa,Xae,List.length_nil];omega) (fun j' ai=>?_);have ae:jm≠j':=aO J ai;generalize hP:aE (aE _ j none) j' _=HP;replace J:=kpB hP ae (by first|exact O|exact ne_j_jm.symm) J;have Rn:HP j'=some (fC ((M.take (k+1)).filter (pE x ds))):=by rw[<-hP,aB];rw[ag];exact congrArg (fun l=>some (⟨3,1,l⟩:Row)) (Xak (f:=aP) (l₁:=(M.take k).filter (pE x ds)) (l₂:=[(n:Int)])).symm
   clear hP ai;simp only[go_sem,e2,e5,Z,ab,aa,e8,Rn,J];simp only[aY k];exact⟨⟨k+1,j',L,rfl,rfl,Rn⟩,by simp only[aF];omega⟩
  ·rw[if_neg (by rw[<-af,show(decide (o.penalty>=0)&&((F0 ds (n:Int):Nat):Int) == 0)=false from hb];simp),Xaq]at ag;simp only[go_sem,e2,e5,Z,ab,aa,e8,aY k];exact⟨⟨k+1,j,L,rfl,rfl,by rw[ag];exact R,J⟩,by simp only[aF];omega⟩
 have ac:=geB hk (by simpa using ac);subst ac;rw[Xai]at R;simp only[go_sem,e2,e5,Z,ab,aa,e8];exact .row _ _ _ R (ConvE.refl _)
def Bg(x:Instance)(c:Column):Bool:=decide (c.type<0)||decide (c.type>=(x.types.length:Int))||decide (c.set<=0)|| !decide (c.set.toNat &&& oO x=c.set.toNat)
def vD(x:Instance)(d:Nat)(cols:List Column)(cuts:List Cut)(ds:List Decision):Int:=
 if yH x ds≠0 then yH x ds else if Dec.gL (cuts.map (oR x d))≠0 then Dec.gL (cuts.map (oR x d))else if cols.any (Bg x)=true then 2 else 0
def Td(x:Instance)(d:Nat)(cols:List Column)(cuts:List Cut)(ds:List Decision)(aq:LoadsOk x d)(ap:x.types≠[])(h:MIn x cuts ds)(hl:cols.length<=1048576)(hs:∀c∈cols,c.set<=9223372036854775807):
  PC prog 120 [.agg (aH x),.sl (cols.map bF),.sl (cuts.map cU),.sl (ds.map aT)] (int (vD x d cols cuts ds)):=by
 have h1:=h.orders;have h2:=h.types;have h3:=h.cl;have h4:=h.dl;unfold vD;refine pcd func120 rfl rfl ?_;simp only[go_sem];refine aN (Dec.TU x ds h4) ?_;simp only[go_sem];refine aA (fun M=>?_) (fun M=>?_)
 ·rw[if_pos (by simpa using M)];simp only[go_sem];exact .refl _
 rw[if_neg (by simpa using M)];simp only[go_sem,Xaa];refine⟨fun ρ H=>∃(k:Nat),k<=cuts.length/\ρ 1=.sl (cols.map bF)/\ρ 4=.rp (aH x) 0/\ρ 22=.sl (cuts.map cU)/\ρ 23=int (cuts.length:Nat)/\ρ 24=int k/\(∀e∈(cuts.map (oR x d)).take k,e=0),fun ρ _=>cuts.length-aW (ρ 24),⟨0,Xab _,by simp only[go_sem],by simp only[go_sem],by simp only[go_sem],by simp only[go_sem,Xaa],(by simp only[go_sem];rfl),by simp⟩,?_⟩;rintro ρ H ⟨k,hk,e1,E,F,L,J,hz⟩;simp only[go_sem,e1,E,F,L,J];refine aA (fun u=>?_) (fun O=>?_)
 ·have u:=ltB (by simpa using u);obtain⟨q,hq⟩:=bG u;have b1:=inB u;have hm:(cuts.map (oR x d))[k]?=some (oR x d q):=by rw[List.getElem?_map,hq];rfl
  simp only[go_sem,e1,E,F,L,J,aJ hq,b1];refine aL fun i11 af=>?_
  simp only[go_sem,e1,E,F,L,J];refine iI af (by simp[nE]) fun ai (ao:ai i11=some (⟨82,3,[cU q]⟩)) N=>?_
  clear N af;simp only[go_sem,e1,E,F,L,J,ao];refine aN (O7 x d q aq ap) ?_;simp only[go_sem,e1,E,F,L,J];refine aA (fun M=>?_) (fun M=>?_)
  ·have he:=Dec.wC hz hm M;rw[if_pos (by rw[he];simpa using M),he];simp only[go_sem];exact .refl _
  ·simp only[go_sem,e1,E,F,L,J,aY k];exact⟨⟨k+1,u,rfl,fU (p:=fun e:Int=>e=0) hm (by simpa using M) hz⟩,by simp only[aF];omega⟩
 have O:=geB hk (by simpa using O);subst O;rw[Xba (by rw[Xaa];exact Xad _)]at hz;rw[if_neg (by rw[Dec.uO hz];simp)];simp only[go_sem,e1,E,F,L,J];refine aN (zD x h1) ?_;simp only[go_sem,e1,E,F,L,J,Xaa];refine⟨fun ρ H=>∃(k:Nat),k<=cols.length/\ρ 4=.rp (aH x) 0/\ρ 13=int (oO x:Nat)/\ρ 37=.sl (cols.map bF)/\ρ 38=int (cols.length:Nat)/\ρ 39=int k/\(∀c∈cols.take k,Bg x c=false),fun ρ _=>cols.length-aW (ρ 39),⟨0,Xab _,by simp only[go_sem,E],by simp only[go_sem,E],by simp only[go_sem,E],by simp only[go_sem,Xaa,E],(by simp only[go_sem,E];rfl),by simp⟩,?_⟩;rintro ρ H ⟨k,hk,E,Z,ac,aa,ab,hz⟩;simp only[go_sem,E,Z,ac,aa,ab];refine aA (fun u=>?_) (fun O=>?_)
 ·have u:=ltB (by simpa using u);obtain⟨c,hc⟩:=bG u;have b1:=inB u;have av:=hs c (Xaf hc);simp only[go_sem,E,Z,ac,aa,ab,aJ hc,b1];refine aL fun au ae=>?_
  simp only[go_sem,E,Z,ac,aa,ab];refine iI ae (by simp[kZ]) fun ah (am:ah au=some (⟨90,7,[bF c]⟩)) N=>?_
  clear N ae;simp only[go_sem,E,Z,ac,aa,ab,am];have ag:(decide (c.type<0)||decide (c.type>=(x.types.length:Int))||decide (c.set<=0)||(nK .andNot .i64 c.set ((oO x:Nat):Int) != 0))=Bg x c:=by
   unfold Bg;by_cases h0:c.set<=0
   ·rw[decide_eq_true h0];simp
   ·obtain⟨s,ar⟩:=Int.eq_ofNat_of_zero_le (show 0<=c.set by omega);have ak:oO x<2^63:=Xaz (oT _ _) (Xam (by decide) (by omega));rw[ar,bne,Bh (by omega) ak,Xbb]
  refine aA (fun M=>?_) (fun M=>?_)
  ·have M:Bg x c=true:=by rw[<-ag];exact M
   rw[if_pos (List.any_eq_true.2 ⟨c,Xaf hc,M⟩)];simp only[go_sem];exact .refl _
  ·have M:Bg x c=false:=by rw[<-ag];exact M
   simp only[go_sem,E,Z,ac,aa,ab,aY k];exact⟨⟨k+1,u,rfl,fU (p:=fun c=>Bg x c=false) hc M hz⟩,by simp only[aF];omega⟩
 have O:=geB hk (by simpa using O);subst O;rw[Xai]at hz;have aj:¬cols.any (Bg x)=true:=by intro hc;obtain⟨c,an,al⟩:=List.any_eq_true.1 hc;rw[hz c an]at al;cases al
 rw[if_neg aj];simp only[go_sem,E,Z,ac,aa,ab];exact .refl _
end Nu
namespace Nu
open Go.Nu
def pP(n:Int):Prop:= -9223372036854775808<=n/\n<=9223372036854775807
structure LinB(p:PLin):Prop where
 rows:p.rows.length<=1048576
 cost:p.cost.length<=1048576
 coef:∀r∈p.rows,∀n∈r.coef,pP n
 right:∀r∈p.rows,pP r.right
structure VarB(v:List ByteArray):Prop where
 len:v.length<=1048576
 size:∀s∈v,s.size<=1048576
end Nu
namespace Si
open Go.Proofs.Tryz
open Go.Nu
open Go.Proofs.YtmhpdppobocokaaGreatDoor.Nu (ltB geB cB gI lE kK iZ jM jT fS dW LinB pP)
abbrev one:ByteArray:=⟨#[49]⟩
def eqR(r:PRow):Bool:=r.kind != 2
def slk(l:PLin):Nat:=(l.rows.filter eqR).length
def sgn(r:PRow):Int:=if r.right<0 then -1 else 1
def Bp(sg:Int)(c:List Int)(s:List ByteArray×Int)(k:Nat):List ByteArray×Int:=(s.1.set k (iN sg (c.getD k 0)).1,bI s.2 (iN sg (c.getD k 0)).2)
def HV(r:PRow)(w:Nat)(e:Int):List ByteArray×Int:=aS (Bp (sgn r) r.coef) r.coef.length (List.replicate w z0,e)
def uY(r:PRow)(nx:Nat)(s:List ByteArray):List ByteArray:=if eqR r=true then s.set nx (zed (if r.kind=3 then -sgn r else sgn r))else s
def Ff(r:PRow)(w nx u:Nat)(e:Int):List ByteArray×Int:=
 ((((uY r nx (HV r w e).1).set u one).set (w-1) (iN (sgn r) r.right).1),bI (HV r w e).2 (iN (sgn r) r.right).2)
def rL(l:PLin)(w c0:Nat)(s:Tab×Nat)(i:Nat):Tab×Nat:=
 match l.rows[i]? with
 | none=>s
 | some r=>({ s.1 with rows:=s.1.rows++[(Ff r w s.2 (c0+i) s.1.err).1],base:=s.1.base++[((c0+i:Nat):Int)],unit:=s.1.unit++[((c0+i:Nat):Int)],turned:=s.1.turned++[decide (sgn r<0)],err:=(Ff r w s.2 (c0+i) s.1.err).2 },if eqR r=true then s.2+1 else s.2)
def oN(l:PLin):Tab:=(aS (rL l (l.cost.length+slk l+l.rows.length+1) (l.cost.length+slk l)) l.rows.length (⟨[],[],[],[],[],((l.cost.length+slk l:Nat):Int),(l.cost.length:Nat),0⟩,l.cost.length)).1
def vJ(l:PLin)(k:Nat):Nat:=((l.rows.take k).filter eqR).length
def En{l:PLin}{k:Nat}{r:PRow}(h:l.rows[k]?=some r):vJ l (k+1)=if eqR r=true then vJ l k+1 else vJ l k:=by
 unfold vJ;rw[List.take_add_one,h,Option.toList_some,List.filter_append,Xac];by_cases e:eqR r=true
 ·simp[e]
 ·simp[e]
def SP(l:PLin)(k:Nat):vJ l k<=k:=by unfold vJ;exact Xan (Xbe ..) (by rw[Xaj];exact Nat.min_le_left ..)
def Eh(l:PLin):vJ l l.rows.length=slk l:=by unfold vJ slk;rw[Xai]
def Ng(l:PLin){i k:Nat}(h:i<=k):vJ l i<=vJ l k:=by unfold vJ;exact List.Sublist.length_le (List.Sublist.filter _ (List.take_sublist_take_left h))
def aU.none{H H':aD}(h:aU H H'){i:Nat}(hi:H' i=none):H i=none:=by
 cases e:H i with
 | none=>rfl
 | some r=>rw[h i r e]at hi;cases hi
structure Fr(H:aD)(p:Pts)(j n:Nat):Prop where
 all:∀x∈p.all j,H x=none
 f:∀x,x<n->H (p.f x)=none
structure BldB(l:PLin)(c0 k:Nat)(s:Tab×Nat):Prop where
 rows:s.1.rows.length=k
 base:s.1.base.length=k
 unit:s.1.unit.length=k
 turn:s.1.turned.length=k
 price:s.1.price=[]
 nx:s.2=l.cost.length+vJ l k
 cols:s.1.cols=(c0:Nat)
 vars:s.1.vars=(l.cost.length:Nat)
def BldB.step{l:PLin}{w c0 k:Nat}{s:Tab×Nat}(h:BldB l c0 k s){r:PRow}(E:l.rows[k]?=some r):BldB l c0 (k+1) (rL l w c0 s k):=by have u:=En E;unfold rL;rw[E];refine⟨by simp[h.rows],by simp[h.base],by simp[h.unit],by simp[h.turn],h.price,?_,h.cols,h.vars⟩;show(if eqR r=true then s.2+1 else s.2)=_;rw[u,h.nx];split <;> rfl
def uS(l:PLin)(c0:Nat):Tab×Nat:=(⟨[],[],[],[],[],(c0:Nat),(l.cost.length:Nat),0⟩,l.cost.length)
def vE(l:PLin)(w c0:Nat):∀k,k<=l.rows.length->BldB l c0 k (aS (rL l w c0) k (uS l c0))
 | 0,_=>⟨rfl,rfl,rfl,rfl,rfl,by simp[vJ,aS,uS],rfl,rfl⟩
 | k+1,h=>by rw[bV];obtain⟨r,u⟩:=bG (show k<l.rows.length by omega);exact(vE l w c0 k (by omega)).step u
def Tl{H0 H:aD}(L:aU H0 H){cols vars:Int}{K:Nat->Nat->Nat->Nat->Nat->Nat->aD->Prop}(h:∀j p H',TabH H' j p ⟨[],[],[],[],[],cols,vars,0⟩->aU H0 H'->(∀x∈p.all j,H0 x=none)->K p.jr p.jp p.jb p.ju p.jt j H'):
  iJ H ⟨48,1,[]⟩ fun k H'=>iJ H' ⟨59,1,[]⟩ fun F H'=>iJ H' ⟨3,1,[]⟩ fun J H'=>iJ H' ⟨3,1,[]⟩ fun E H'=>iJ H' ⟨4,1,[]⟩ fun u H'=>iJ H' ⟨251,8,[[.os k,.os F,.os J,.os E,.os u,.v (.int .i64 cols),.v (.int .i64 vars),.v (.int .i64 0)]]⟩ (K k F J E u):=by
 intro jr g1;intro jp g2;intro jb g3;intro ju g4;intro jt g5;intro j M;generalize e1:aE H jr _=G1 at *;generalize e2:aE G1 jp _=G2 at *;generalize e3:aE G2 jb _=G3 at *;generalize e4:aE G3 ju _=G4 at *;generalize e5:aE G4 jt _=G5 at *;generalize e6:aE G5 j _=G6 at *;have F:aU H G1:=by rw[<-e1];exact(aU.refl H).new g1 _
 have J:aU G1 G2:=by rw[<-e2];exact(aU.refl G1).new g2 _
 have E:aU G2 G3:=by rw[<-e3];exact(aU.refl G2).new g3 _
 have u:aU G3 G4:=by rw[<-e4];exact(aU.refl G3).new g4 _
 have O:aU G4 G5:=by rw[<-e5];exact(aU.refl G4).new g5 _
 have Z:aU G5 G6:=by rw[<-e6];exact(aU.refl G5).new M _
 have r1:G1 jr=some ⟨48,1,[]⟩:=by rw[<-e1,aB]
 have r2:G2 jp=some ⟨59,1,[]⟩:=by rw[<-e2,aB]
 have r3:G3 jb=some ⟨3,1,[]⟩:=by rw[<-e3,aB]
 have r4:G4 ju=some ⟨3,1,[]⟩:=by rw[<-e4,aB]
 have r5:G5 jt=some ⟨4,1,[]⟩:=by rw[<-e5,aB]
 have r6:G6 j=some ⟨251,8,[[.os jr,.os jp,.os jb,.os ju,.os jt,.v (.int .i64 cols),.v (.int .i64 vars),.v (.int .i64 0)]]⟩:=by rw[<-e6,aB]
 have a1:=J _ _ r1;have a2:=E _ _ a1;have a3:=u _ _ a2;have a4:=O _ _ a3;have b2:=E _ _ r2;have b3:=u _ _ b2;have b4:=O _ _ b3;have c3:=u _ _ r3;have c4:=O _ _ c3;have d4:=O _ _ r4;refine h j ⟨jr,jp,jb,ju,jt,fun _=>0⟩ G6 ⟨r6,Z _ _ a4,Z _ _ b4,Z _ _ c4,Z _ _ d4,Z _ _ r5,fun i r hr=>?_,?_,fun i hi=>?_,fun i k hi=>?_⟩ (L.trans (F.trans (J.trans (E.trans (u.trans (O.trans Z)))))) ?_
 ·cases hr
 ·have ai:=aO r1 g2;have af:=aO a1 g3;have ap:=aO a2 g4;have ae:=aO a3 g5;have al:=aO a4 M;have am:=aO r2 g3;have ab:=aO b2 g4;have ak:=aO b3 g5;have an:=aO b4 M;have ah:=aO r3 g4;have aj:=aO c3 g5;have ac:=aO c4 M;have ao:=aO r4 g5;have ag:=aO d4 M;have aa:=aO r5 M;show[j,jr,jp,jb,ju,jt].Nodup;simp only[List.nodup_cons,Xao,List.not_mem_nil,or_false,not_or,List.nodup_nil,and_true,not_false_eq_true];omega
 ·exact absurd hi (Nat.not_lt_zero _)
 ·exact absurd hi (Nat.not_lt_zero _)
 ·intro x hx;have hx:x∈[j,jr,jp,jb,ju,jt]:=hx;simp only[Xao,List.not_mem_nil,or_false]at hx;rcases hx with rfl|rfl|rfl|rfl|rfl|rfl
  ·exact L.none (F.none (J.none (E.none (u.none (O.none M)))))
  ·exact L.none g1
  ·exact L.none (F.none g2)
  ·exact L.none (F.none (J.none g3))
  ·exact L.none (F.none (J.none (E.none g4)))
  ·exact L.none (F.none (J.none (E.none (u.none g5))))
section
variable{H0:aD}{K:AV->aD->Prop}
set_option maxHeartbeats 1000000 in
theorem O5 {l:PLin} (hl:LinB l) (ct:∀r∈l.rows,r.coef.length=l.cost.length) (hw:l.cost.length+slk l+l.rows.length+1<=1048576)
    (hK:∀j p H',Fr H0 p j l.rows.length->TabH H' j p (oN l)->aU H0 H'->K (.op j 0 0) H'):aI prog 129 [.agg (eS l)] H0 K:=by
  have da:=hl.rows
  have dc:=hl.cost
  refine aI.body (c:=f129.body.getD .skip) (fun t=>t == 43||t == 44) mixed func129 rfl (by kernel_rfl) ?_
  unfold f129
  simp only[Xag]
  simp only[go_sem]
  refine eZ (by rfl) (by kernel_rfl) ?_
  simp only[go_sem,Xaa]
  refine⟨fun ρ H=>∃(k:Nat),k<=l.rows.length/\ρ 1=.rp (eS l) 0/\ρ 3=int (l.cost.length:Nat)/\ρ 4=int (l.rows.length:Nat)/\ρ 27=.sl (l.rows.map cR)/\ρ 28=int (l.rows.length:Nat)/\ρ 29=int k/\ρ 5=int (vJ l k:Nat)/\aU H0 H,fun ρ _=>l.rows.length-aW (ρ 29),⟨0,Xab _,by simp only[go_sem],by simp only[go_sem],by simp only[go_sem],by simp only[go_sem],by simp only[go_sem,Xaa],(by simp only[go_sem];rfl),(by simp only[go_sem];rfl),aU.refl H0⟩,?_⟩
  rintro ρ H ⟨k,hk,e1,e3,e4,ap,au,ar,e5,ae⟩
  simp only[go_sem,e1,e3,e4,ap,au,ar,e5]
  refine aA (fun ag=>?_) (fun ai=>?_)
  . have ag:=ltB (by simpa using ag)
    obtain⟨r,hr⟩:=bG ag
    have b1:=inB ag
    have aj:=En hr
    have de:=SP l k
    simp only[go_sem,e1,e3,e4,ap,au,ar,e5,aJ hr,b1]
    refine aL fun i7 h7=>?_
    simp only[go_sem,e1,e3,e4,ap,au,ar,e5]
    refine iI h7 (by simp[nR]) fun HG (R7:HG i7=some ⟨235,3,[cR r]⟩) N=>?_
    have a9:aU H0 HG:=fun k b hk=>(N (ae k b hk)).2
    simp only[go_sem,e1,e3,e4,ap,au,ar,e5,R7]
    refine aA (fun hb=>?_) (fun hb=>?_)
    . have hb:eqR r=true:=hb
      rw[if_pos hb]at aj
      simp only[go_sem,e1,e3,e4,ap,au,ar,e5,aY k,nN (show vJ l k<=4611686018427387904 by omega)]
      exact⟨⟨k+1,ag,rfl,by rw[aj],a9⟩,by simp only[aF];omega⟩
    . have hb:¬eqR r=true:=by have hb:eqR r=false:=hb;rw[hb];simp
      rw[if_neg hb]at aj
      simp only[go_sem,e1,e3,e4,ap,au,ar,e5,aY k]
      exact⟨⟨k+1,ag,rfl,by rw[aj],a9⟩,by simp only[aF];omega⟩
  have ai:=geB hk (by simpa using ai)
  subst ai
  rw[Eh]at e5
  simp only[go_sem,e1,e3,e4,ap,au,ar,e5]
  obtain⟨c0,hc0e⟩:∃c0,c0=l.cost.length+slk l:=⟨_,rfl⟩
  obtain⟨w,hwe⟩:∃w,w=c0+l.rows.length+1:=⟨_,rfl⟩
  have ay:IntKind.i64.wrap ((l.cost.length:Int)+(slk l:Int))=(c0:Int):=by rw[aV (by omega)];omega
  rw[show oN l=(aS (rL l w c0) l.rows.length (uS l c0)).1 by unfold oN uS;rw[<-hc0e,<-hwe]]at hK
  rw[ay]
  refine Tl ae fun j p H' hT a9 hf=>?_
  have ww:IntKind.i64.wrap ((c0:Int)+(l.rows.length:Int))=((c0+l.rows.length:Nat):Int):=by rw[aV (by omega)];omega
  have ck:IntKind.i64.wrap (((c0+l.rows.length:Nat):Int)+1)=(w:Int):=by rw[aV (by omega)];omega
  have b9:IntKind.i64.wrap ((w:Int)+1)=((w+1:Nat):Int):=by rw[aV (by omega)];omega
  simp only[go_sem,e1,e3,e4,ap,au,ar,e5,ay,ww,ck,Xaa]
  clear e4 ap au ar ai hk
  refine⟨fun ρ H=>∃(k:Nat) (p:Pts),k<=l.rows.length/\ρ 3=int (l.cost.length:Nat)/\ρ 5=int (slk l:Nat)/\ρ 8=.op j 0 0/\ρ 9=int w/\ρ 53=.sl (l.rows.map cR)/\ρ 54=int (l.rows.length:Nat)/\ρ 55=int k/\ρ 10=int (aS (rL l w c0) k (uS l c0)).2/\TabH H j p (aS (rL l w c0) k (uS l c0)).1/\(∀x∈p.all j,H0 x=none)/\(∀x,x<k->H0 (p.f x)=none)/\aU H0 H,fun ρ _=>l.rows.length-aW (ρ 55),⟨0,p,Xab _,by simp only[go_sem,e1,e3,e5],by simp only[go_sem,e1,e3,e5],by simp only[go_sem,e1,e3,e5],by simp only[go_sem,e1,e3,e5],by simp only[go_sem,e1,e3,e5],by simp only[go_sem,Xaa,e1,e3,e5],(by simp only[go_sem,e1,e3,e5];rfl),(by simp only[go_sem];rfl),hT,hf,(by omega),a9⟩,?_⟩
  rintro ρ H ⟨k,p,hk,e3,e5,e8,e9,J,E,F,u,hT,hf,b2,ae⟩
  simp only[go_sem,e3,e5,e8,e9,J,E,F,u]
  refine aA (fun ag=>?_) (fun ai=>?_)
  . have ag:=ltB (by simpa using ag)
    obtain⟨y,hy⟩:∃y,y=k:=⟨k,rfl⟩
    subst hy
    have c5:=ag
    obtain⟨r,hr⟩:=bG ag
    have b1:=inB ag
    have hB:=vE l w c0 y (by omega)
    have aj:=bV (rL l w c0) y (uS l c0)
    generalize aS (rL l w c0) y (uS l c0)=s at *
    obtain⟨T,nx⟩:=s
    obtain⟨am,aq,ch,cp,ci,cf,c7,cg⟩:=hB
    simp only at u hT am aq ch cp ci cf c7 cg
    have cq:rL l w c0 (T,nx) y=({ T with rows:=T.rows++[(Ff r w nx (c0+y) T.err).1],base:=T.base++[((c0+y:Nat):Int)],unit:=T.unit++[((c0+y:Nat):Int)],turned:=T.turned++[decide (sgn r<0)],err:=(Ff r w nx (c0+y) T.err).2 },if eqR r=true then nx+1 else nx):=by unfold rL;rw[hr]
    rw[cq]at aj
    simp only[go_sem,e3,e5,e8,e9,J,E,F,u,aJ hr,b1]
    refine aL fun ak ce=>?_
    simp only[go_sem,e3,e5,e8,e9,J,E,F,u]
    refine iI ce (by simp[nR]) fun HG (ah:HG ak=some ⟨235,3,[cR r]⟩) N=>?_
    have bk:aU H HG:=fun _ b hk=>(N hk).2
    replace hT:=hT.keep bk
    replace ae:=ae.trans bk
    have c9:=ae.none (i:=ak)
    simp only[go_sem,e3,e5,e8,e9,J,E,F,u,b9]
    refine⟨⟨⟨by omega,by omega⟩,by omega⟩,?_⟩
    rw[wH]
    refine aL fun fi bh=>?_
    have an:NoT p j y fi:=hT.noT am bh
    have al:H0 fi=none:=ae.none bh
    have ao:ak≠fi:=aO ah bh
    have Rf:aE HG fi (some (aQ (List.replicate w emp))) fi=some (aQ (List.replicate w emp)):=aB _ _ _
    replace ah:aE HG fi (some (aQ (List.replicate w emp))) ak=some ⟨235,3,[cR r]⟩:=by rw[aC _ _ _ _ ao];exact ah
    replace hT:=hT.off am an (some (aQ (List.replicate w emp)))
    replace ae:=ae.new al (some (aQ (List.replicate w emp)))
    simp only[go_sem,e3,e5,e8,e9,J,E,F,u,Rf,ah,Xaa,Xas]
    refine⟨⟨by omega,Int.le_refl _⟩,?_⟩
    generalize db:aE HG fi (some (aQ (List.replicate w emp)))=G at *
    refine gC (fun af H'=>af 3=int (l.cost.length:Nat)/\af 5=int (slk l:Nat)/\af 8=.op j 0 0/\af 9=int w/\af 10=int nx/\af 11=int y/\af 12=.op ak 0 0/\af 14=.oz fi 0 w/\af 15=int (sgn r)/\af 53=.sl (l.rows.map cR)/\af 54=int (l.rows.length:Nat)/\af 55=int y/\H'=G) ?_ fun K hK=>aA (fun hb=>?_) (fun hb=>?_)
    rotate_left
    . have hs:sgn r= -1:=if_pos (by simpa using hb)
      simp only[go_sem]
      exact hK _ _ ⟨by simp only[go_sem,e3,e5,e8,e9,J,E,F,u],by simp only[go_sem,e3,e5,e8,e9,J,E,F,u],by simp only[go_sem,e3,e5,e8,e9,J,E,F,u],by simp only[go_sem,e3,e5,e8,e9,J,E,F,u],by simp only[go_sem,e3,e5,e8,e9,J,E,F,u],by simp only[go_sem,e3,e5,e8,e9,J,E,F,u],by simp only[go_sem,e3,e5,e8,e9,J,E,F,u],by simp only[go_sem,e3,e5,e8,e9,J,E,F,u],by simp only[go_sem,hs],by simp only[go_sem,e3,e5,e8,e9,J,E,F,u],by simp only[go_sem,e3,e5,e8,e9,J,E,F,u],by simp only[go_sem,e3,e5,e8,e9,J,E,F,u],rfl⟩
    . have hs:sgn r=1:=if_neg (by simpa using hb)
      simp only[go_sem]
      exact hK _ _ ⟨by simp only[go_sem,e3,e5,e8,e9,J,E,F,u],by simp only[go_sem,e3,e5,e8,e9,J,E,F,u],by simp only[go_sem,e3,e5,e8,e9,J,E,F,u],by simp only[go_sem,e3,e5,e8,e9,J,E,F,u],by simp only[go_sem,e3,e5,e8,e9,J,E,F,u],by simp only[go_sem,e3,e5,e8,e9,J,E,F,u],by simp only[go_sem,e3,e5,e8,e9,J,E,F,u],by simp only[go_sem,e3,e5,e8,e9,J,E,F,u],by simp only[go_sem,hs],by simp only[go_sem,e3,e5,e8,e9,J,E,F,u],by simp only[go_sem,e3,e5,e8,e9,J,E,F,u],by simp only[go_sem,e3,e5,e8,e9,J,E,F,u],rfl⟩
    rintro ρ H ⟨e3,e5,e8,e9,u,M,Z,L,O,J,E,F,rfl⟩
    simp only[go_sem,L]
    refine⟨fun ρ H=>∃(k:Nat),k<=w/\ρ 3=int (l.cost.length:Nat)/\ρ 5=int (slk l:Nat)/\ρ 8=.op j 0 0/\ρ 9=int w/\ρ 10=int nx/\ρ 11=int (y:Nat)/\ρ 12=.op ak 0 0/\ρ 14=.oz fi 0 w/\ρ 15=int (sgn r)/\ρ 53=.sl (l.rows.map cR)/\ρ 54=int (l.rows.length:Nat)/\ρ 55=int (y:Nat)/\ρ 72=int (w:Nat)/\ρ 73=int k/\H fi=some (aQ (aS (fun s k=>s.set k z0) k (List.replicate w emp)))/\H ak=some ⟨235,3,[cR r]⟩/\TabH H j p T/\aU H0 H,fun ρ _=>w-aW (ρ 73),⟨0,Xab _,by simp only[go_sem,e3,e5,e8,e9,u,M,Z,L,O,J,E,F],by simp only[go_sem,e3,e5,e8,e9,u,M,Z,L,O,J,E,F],by simp only[go_sem,e3,e5,e8,e9,u,M,Z,L,O,J,E,F],by simp only[go_sem,e3,e5,e8,e9,u,M,Z,L,O,J,E,F],by simp only[go_sem,e3,e5,e8,e9,u,M,Z,L,O,J,E,F],by simp only[go_sem,e3,e5,e8,e9,u,M,Z,L,O,J,E,F],by simp only[go_sem,e3,e5,e8,e9,u,M,Z,L,O,J,E,F],by simp only[go_sem,e3,e5,e8,e9,u,M,Z,L,O,J,E,F],by simp only[go_sem,e3,e5,e8,e9,u,M,Z,L,O,J,E,F],by simp only[go_sem,e3,e5,e8,e9,u,M,Z,L,O,J,E,F],by simp only[go_sem,e3,e5,e8,e9,u,M,Z,L,O,J,E,F],by simp only[go_sem,e3,e5,e8,e9,u,M,Z,L,O,J,E,F],by simp only[go_sem,Xaa,e3,e5,e8,e9,u,M,Z,L,O,J,E,F],(by simp only[go_sem,e3,e5,e8,e9,u,M,Z,L,O,J,E,F];rfl),Rf,ah,hT,ae⟩,?_⟩
    rintro ρ H ⟨k,hk,e3,e5,e8,e9,u,M,Z,L,O,J,E,F,a7,be,Rf,ah,hT,ae⟩
    simp only[go_sem,e3,e5,e8,e9,u,M,Z,L,O,J,E,F,a7,be]
    refine aA (fun ag=>?_) (fun ai=>?_)
    . have ag:=ltB (by simpa using ag)
      have br:(aS (fun s k=>s.set k z0) k (List.replicate w emp)).length=w:=cJ (I:=fun s:List ByteArray=>s.length=w) (fun s k h=>by rw[Xal];exact h) _ _ (Xas ..)
      have aj:=bV (fun s k=>s.set k z0) k (List.replicate w emp)
      generalize aS (fun s k=>s.set k z0) k (List.replicate w emp)=s at *
      have bi:k<s.length:=by omega
      simp only[go_sem,e3,e5,e8,e9,u,M,Z,L,O,J,E,F,a7,be,Rf]
      refine⟨⟨by omega,by omega⟩,?_⟩
      refine cC rZ Rf (by simp;omega) ?_
      rw[fK (v:=z0) bi]
      simp only[go_sem,e3,e5,e8,e9,u,M,Z,L,O,J,E,F,a7,be,aY k]
      exact⟨⟨k+1,ag,rfl,by simp only[aj,aB],by rw[aC _ _ _ _ ao];exact ah,hT.off am an _,ae.new al _⟩,by simp only[aF];omega⟩
    have ai:=geB hk (by simpa using ai)
    obtain rfl:=ai.symm
    rw[DP]at Rf
    clear ai hk
    have dd:=ct r (Xaf hr)
    have cz:=hl.coef r (Xaf hr)
    simp only[go_sem,e3,e5,e8,e9,u,M,Z,L,O,J,E,F,a7,be,ah,cR,Xaa]
    refine⟨fun ρ H=>∃(k:Nat),k<=r.coef.length/\ρ 3=int (l.cost.length:Nat)/\ρ 5=int (slk l:Nat)/\ρ 8=.op j 0 0/\ρ 9=int w/\ρ 10=int nx/\ρ 11=int (y:Nat)/\ρ 12=.op ak 0 0/\ρ 14=.oz fi 0 w/\ρ 15=int (sgn r)/\ρ 53=.sl (l.rows.map cR)/\ρ 54=int (l.rows.length:Nat)/\ρ 55=int (y:Nat)/\ρ 81=.sl (r.coef.map aP)/\ρ 82=int (r.coef.length:Nat)/\ρ 83=int k/\H fi=some (aQ (aS (Bp (sgn r) r.coef) k (List.replicate w z0,T.err)).1)/\H ak=some ⟨235,3,[cR r]⟩/\TabH H j p { T with err:=(aS (Bp (sgn r) r.coef) k (List.replicate w z0,T.err)).2 }/\aU H0 H,fun ρ _=>r.coef.length-aW (ρ 83),⟨0,Xab _,by simp only[go_sem,e3,e5,e8,e9,u,M,Z,L,O,J,E,F],by simp only[go_sem,e3,e5,e8,e9,u,M,Z,L,O,J,E,F],by simp only[go_sem,e3,e5,e8,e9,u,M,Z,L,O,J,E,F],by simp only[go_sem,e3,e5,e8,e9,u,M,Z,L,O,J,E,F],by simp only[go_sem,e3,e5,e8,e9,u,M,Z,L,O,J,E,F],by simp only[go_sem,e3,e5,e8,e9,u,M,Z,L,O,J,E,F],by simp only[go_sem,e3,e5,e8,e9,u,M,Z,L,O,J,E,F],by simp only[go_sem,e3,e5,e8,e9,u,M,Z,L,O,J,E,F],by simp only[go_sem,e3,e5,e8,e9,u,M,Z,L,O,J,E,F],by simp only[go_sem,e3,e5,e8,e9,u,M,Z,L,O,J,E,F],by simp only[go_sem,e3,e5,e8,e9,u,M,Z,L,O,J,E,F],by simp only[go_sem,e3,e5,e8,e9,u,M,Z,L,O,J,E,F],by simp only[go_sem,e3,e5,e8,e9,u,M,Z,L,O,J,E,F],by simp only[go_sem,Xaa,e3,e5,e8,e9,u,M,Z,L,O,J,E,F],(by simp only[go_sem,e3,e5,e8,e9,u,M,Z,L,O,J,E,F];rfl),Rf,ah,hT,ae⟩,?_⟩
    rintro ρ H ⟨k,hk,e3,e5,e8,e9,u,M,Z,L,O,J,E,F,aa,ac,ab,Rf,ah,hT,ae⟩
    simp only[go_sem,e3,e5,e8,e9,u,M,Z,L,O,J,E,F,aa,ac,ab]
    refine aA (fun ag=>?_) (fun ai=>?_)
    . have ag:=ltB (by simpa using ag)
      have br:(aS (Bp (sgn r) r.coef) k (List.replicate w z0,T.err)).1.length=w:=cJ (I:=fun s:List ByteArray×Int=>s.1.length=w) (fun s k h=>by unfold Bp;rw[Xal];exact h) _ _ (Xas ..)
      have aj:=bV (Bp (sgn r) r.coef) k (List.replicate w z0,T.err)
      generalize aS (Bp (sgn r) r.coef) k (List.replicate w z0,T.err)=s at *
      obtain⟨s,e⟩:=s
      simp only at Rf hT br
      have cm:Bp (sgn r) r.coef (s,e) k=(s.set k (iN (sgn r) (r.coef.getD k 0)).1,bI e (iN (sgn r) (r.coef.getD k 0)).2):=rfl
      rw[cm]at aj
      have bi:k<s.length:=by omega
      obtain⟨x1,x2⟩:=cz (r.coef.getD k 0) (by rw[List.getD,List.getElem?_eq_getElem ag];exact List.getElem_mem ag)
      simp only[go_sem,e3,e5,e8,e9,u,M,Z,L,O,J,E,F,aa,ac,ab,Xaa,lD ag]
      refine⟨⟨by omega,by omega⟩,?_⟩
      refine pI _ _ x1 x2 hT.hT ?_
      have bg:fi≠j:=an.off.1
      have bj:=hT.setErr (bI e (iN (sgn r) (r.coef.getD k 0)).2)
      have av:H0 j=none:=hf j (by simp[Pts.all])
      have cc:=ae.new av (some (bC (.os p.jr) (.os p.jp) (.os p.jb) (.os p.ju) (.os p.jt) T.cols T.vars (bI e (iN (sgn r) (r.coef.getD k 0)).2)))
      have a0:aE H j (some (bC (.os p.jr) (.os p.jp) (.os p.jb) (.os p.ju) (.os p.jt) T.cols T.vars (bI e (iN (sgn r) (r.coef.getD k 0)).2))) fi=some (aQ s):=by rw[aC _ _ _ _ bg];exact Rf
      have bs:ak≠j:=fun e=>by subst e;rw[hT.hT]at ah;cases ah
      have b8:aE H j (some (bC (.os p.jr) (.os p.jp) (.os p.jb) (.os p.ju) (.os p.jt) T.cols T.vars (bI e (iN (sgn r) (r.coef.getD k 0)).2))) ak=some ⟨235,3,[cR r]⟩:=by rw[aC _ _ _ _ bs];exact ah
      generalize iN (sgn r) (r.coef.getD k 0)=q at *
      generalize aE H j _=G2 at *
      simp only[go_sem,e3,e5,e8,e9,u,M,Z,L,O,J,E,F,aa,ac,ab,a0]
      refine⟨⟨by omega,by omega⟩,?_⟩
      refine cC rZ a0 (by simp;omega) ?_
      rw[fK (v:=q.1) bi]
      simp only[go_sem,e3,e5,e8,e9,u,M,Z,L,O,J,E,F,aa,ac,ab,aY k]
      exact⟨⟨k+1,ag,rfl,by simp only[aj,aB],by rw[aC _ _ _ _ ao];exact b8,by rw[aj];exact bj.off am an _,cc.new al _⟩,by simp only[aF];omega⟩
    have ai:=geB hk (by simpa using ai)
    subst ai
    rw[show aS (Bp (sgn r) r.coef) r.coef.length (List.replicate w z0,T.err)=HV r w T.err from rfl]at Rf hT
    have bw:(HV r w T.err).1.length=w:=cJ (I:=fun s:List ByteArray×Int=>s.1.length=w) (fun s k h=>by unfold Bp;rw[Xal];exact h) _ _ (Xas ..)
    have c3:sgn r=1\/sgn r= -1:=by unfold sgn;split <;> simp
    have c8:nx<w:=by have:=Ng l (show y<=l.rows.length by omega);rw[Eh]at this;omega
    have b0:=ah
    generalize co:HV r w T.err=C at *
    obtain⟨sC,eC⟩:=C
    simp only at Rf hT bw
    simp only[go_sem,e3,e5,e8,e9,u,M,Z,L,O,J,E,F,aa,ac,ab,ah,cR]
    refine gC (fun af H'=>af 3=int (l.cost.length:Nat)/\af 5=int (slk l:Nat)/\af 8=.op j 0 0/\af 9=int w/\af 11=int y/\af 12=.op ak 0 0/\af 14=.oz fi 0 w/\af 15=int (sgn r)/\af 53=.sl (l.rows.map cR)/\af 54=int (l.rows.length:Nat)/\af 55=int y/\af 10=int ((if eqR r=true then nx+1 else nx:Nat):Nat)/\H' fi=some (aQ (uY r nx sC))/\H' ak=some ⟨235,3,[cR r]⟩/\TabH H' j p { T with err:=eC }/\aU H0 H') ?_ fun K hK=>aA (fun hb=>?_) (fun hb=>?_)
    rotate_left
    . have hb:eqR r=true:=hb
      simp only[go_sem,e3,e5,e8,e9,u,M,Z,L,O,J,E,F,aa,ac,ab,ah,cR]
      refine aA (fun aq=>?_) (fun aq=>?_)
      . have aq:r.kind=3:=by simpa using aq
        have az:uY r nx sC=sC.set nx (zed (-sgn r)):=by unfold uY;rw[if_pos hb,if_pos aq]
        have wn:IntKind.i64.wrap (0-sgn r)= -sgn r:=by rcases c3 with h|h <;> rw[h] <;> decide
        simp only[go_sem,e3,e5,e8,e9,u,M,Z,L,O,J,E,F,aa,ac,ab,wn]
        refine aN (jT (-sgn r) (by omega) (by omega)) ?_
        simp only[go_sem,e3,e5,e8,e9,u,M,Z,L,O,J,E,F,aa,ac,ab,Rf,Xaa]
        refine⟨⟨by omega,by omega⟩,?_⟩
        refine cC rZ Rf (by simp;omega) ?_
        rw[fK (v:=zed (-sgn r)) (by omega)]
        simp only[go_sem,e3,e5,e8,e9,u,M,Z,L,O,J,E,F,aa,ac,ab,aY nx]
        exact hK _ _ ⟨by simp only[go_sem,e3,e5,e8,e9,u,M,Z,L,O,J,E,F,aa,ac,ab],by simp only[go_sem,e3,e5,e8,e9,u,M,Z,L,O,J,E,F,aa,ac,ab],by simp only[go_sem,e3,e5,e8,e9,u,M,Z,L,O,J,E,F,aa,ac,ab],by simp only[go_sem,e3,e5,e8,e9,u,M,Z,L,O,J,E,F,aa,ac,ab],by simp only[go_sem,e3,e5,e8,e9,u,M,Z,L,O,J,E,F,aa,ac,ab],by simp only[go_sem,e3,e5,e8,e9,u,M,Z,L,O,J,E,F,aa,ac,ab],by simp only[go_sem,e3,e5,e8,e9,u,M,Z,L,O,J,E,F,aa,ac,ab],by simp only[go_sem,e3,e5,e8,e9,u,M,Z,L,O,J,E,F,aa,ac,ab],by simp only[go_sem,e3,e5,e8,e9,u,M,Z,L,O,J,E,F,aa,ac,ab],by simp only[go_sem,e3,e5,e8,e9,u,M,Z,L,O,J,E,F,aa,ac,ab],by simp only[go_sem,e3,e5,e8,e9,u,M,Z,L,O,J,E,F,aa,ac,ab],by simp only[go_sem,if_pos hb],by rw[az,aB],by rw[aC _ _ _ _ ao];exact ah,hT.off am an _,ae.new al _⟩
      . have aq:¬r.kind=3:=by simpa using aq
        have az:uY r nx sC=sC.set nx (zed (sgn r)):=by unfold uY;rw[if_pos hb,if_neg aq]
        simp only[go_sem,e3,e5,e8,e9,u,M,Z,L,O,J,E,F,aa,ac,ab]
        refine aN (jT (sgn r) (by omega) (by omega)) ?_
        simp only[go_sem,e3,e5,e8,e9,u,M,Z,L,O,J,E,F,aa,ac,ab,Rf,Xaa]
        refine⟨⟨by omega,by omega⟩,?_⟩
        refine cC rZ Rf (by simp;omega) ?_
        rw[fK (v:=zed (sgn r)) (by omega)]
        simp only[go_sem,e3,e5,e8,e9,u,M,Z,L,O,J,E,F,aa,ac,ab,aY nx]
        exact hK _ _ ⟨by simp only[go_sem,e3,e5,e8,e9,u,M,Z,L,O,J,E,F,aa,ac,ab],by simp only[go_sem,e3,e5,e8,e9,u,M,Z,L,O,J,E,F,aa,ac,ab],by simp only[go_sem,e3,e5,e8,e9,u,M,Z,L,O,J,E,F,aa,ac,ab],by simp only[go_sem,e3,e5,e8,e9,u,M,Z,L,O,J,E,F,aa,ac,ab],by simp only[go_sem,e3,e5,e8,e9,u,M,Z,L,O,J,E,F,aa,ac,ab],by simp only[go_sem,e3,e5,e8,e9,u,M,Z,L,O,J,E,F,aa,ac,ab],by simp only[go_sem,e3,e5,e8,e9,u,M,Z,L,O,J,E,F,aa,ac,ab],by simp only[go_sem,e3,e5,e8,e9,u,M,Z,L,O,J,E,F,aa,ac,ab],by simp only[go_sem,e3,e5,e8,e9,u,M,Z,L,O,J,E,F,aa,ac,ab],by simp only[go_sem,e3,e5,e8,e9,u,M,Z,L,O,J,E,F,aa,ac,ab],by simp only[go_sem,e3,e5,e8,e9,u,M,Z,L,O,J,E,F,aa,ac,ab],by simp only[go_sem,if_pos hb],by rw[az,aB],by rw[aC _ _ _ _ ao];exact ah,hT.off am an _,ae.new al _⟩
    . have hb:¬eqR r=true:=by have hb:eqR r=false:=hb;rw[hb];simp
      have az:uY r nx sC=sC:=if_neg hb
      simp only[go_sem,e3,e5,e8,e9,u,M,Z,L,O,J,E,F,aa,ac,ab]
      exact hK _ _ ⟨by simp only[go_sem,e3,e5,e8,e9,u,M,Z,L,O,J,E,F,aa,ac,ab],by simp only[go_sem,e3,e5,e8,e9,u,M,Z,L,O,J,E,F,aa,ac,ab],by simp only[go_sem,e3,e5,e8,e9,u,M,Z,L,O,J,E,F,aa,ac,ab],by simp only[go_sem,e3,e5,e8,e9,u,M,Z,L,O,J,E,F,aa,ac,ab],by simp only[go_sem,e3,e5,e8,e9,u,M,Z,L,O,J,E,F,aa,ac,ab],by simp only[go_sem,e3,e5,e8,e9,u,M,Z,L,O,J,E,F,aa,ac,ab],by simp only[go_sem,e3,e5,e8,e9,u,M,Z,L,O,J,E,F,aa,ac,ab],by simp only[go_sem,e3,e5,e8,e9,u,M,Z,L,O,J,E,F,aa,ac,ab],by simp only[go_sem,e3,e5,e8,e9,u,M,Z,L,O,J,E,F,aa,ac,ab],by simp only[go_sem,e3,e5,e8,e9,u,M,Z,L,O,J,E,F,aa,ac,ab],by simp only[go_sem,e3,e5,e8,e9,u,M,Z,L,O,J,E,F,aa,ac,ab],by simp only[go_sem,e3,e5,e8,e9,u,M,Z,L,O,J,E,F,aa,ac,ab,if_neg hb],by rw[az];exact Rf,b0,hT,ae⟩
    rintro ρ H ⟨e3,e5,e8,e9,M,Z,L,O,J,E,F,u,Rf,ah,hT,ae⟩
    have b6:(uY r nx sC).length=w:=by unfold uY;split <;> simp[bw]
    have ca:Ff r w nx (c0+y) T.err=((((uY r nx sC).set (c0+y) one).set (w-1) (iN (sgn r) r.right).1),bI eC (iN (sgn r) r.right).2):=by unfold Ff;rw[co]
    rw[ca]at aj
    generalize uY r nx sC=s1 at *
    have wy:IntKind.i64.wrap ((c0:Int)+(y:Int))=((c0+y:Nat):Int):=by rw[aV (by omega)];omega
    simp only[go_sem,e3,e5,e8,e9,M,Z,L,O,J,E,F,u,ay,wy,Rf,Xaa]
    refine⟨⟨by omega,by omega⟩,?_⟩
    refine cC rZ Rf (by simp;omega) ?_
    rw[fK (v:=one) (by omega)]
    replace hT:=hT.off am an (some (aQ (s1.set (c0+y) one)))
    replace ae:=ae.new al (some (aQ (s1.set (c0+y) one)))
    replace ah:aE H fi (some (aQ (s1.set (c0+y) one))) ak=some ⟨235,3,[cR r]⟩:=by rw[aC _ _ _ _ ao];exact ah
    replace Rf:aE H fi (some (aQ (s1.set (c0+y) one))) fi=some (aQ (s1.set (c0+y) one)):=aB _ _ _
    generalize aE H fi _=H at *
    have bu:(s1.set (c0+y) one).length=w:=by rw[Xal];exact b6
    generalize s1.set (c0+y) one=s2 at *
    have cw:IntKind.i64.wrap ((w:Int)-1)=((w-1:Nat):Int):=by rw[aV (by omega)];omega
    obtain⟨x1,x2⟩:=hl.right r (Xaf hr)
    simp only[go_sem,e3,e5,e8,e9,M,Z,L,O,J,E,F,u,ah,cR,cw]
    refine pI _ _ x1 x2 hT.hT ?_
    have bg:fi≠j:=an.off.1
    have bj:=hT.setErr (bI eC (iN (sgn r) r.right).2)
    have av:H0 j=none:=hf j (by simp[Pts.all])
    replace ae:=ae.new av (some (bC (.os p.jr) (.os p.jp) (.os p.jb) (.os p.ju) (.os p.jt) T.cols T.vars (bI eC (iN (sgn r) r.right).2)))
    have a0:aE H j (some (bC (.os p.jr) (.os p.jp) (.os p.jb) (.os p.ju) (.os p.jt) T.cols T.vars (bI eC (iN (sgn r) r.right).2))) fi=some (aQ s2):=by rw[aC _ _ _ _ bg];exact Rf
    generalize iN (sgn r) r.right=q at *
    generalize aE H j _=G2 at *
    simp only[go_sem,e3,e5,e8,e9,M,Z,L,O,J,E,F,u,a0,Xaa]
    refine⟨⟨by omega,by omega⟩,?_⟩
    refine cC rZ a0 (by simp;omega) ?_
    rw[fK (v:=q.1) (by omega)]
    replace hT:=bj.off am an (some (aQ (s2.set (w-1) q.1)))
    replace ae:=ae.new al (some (aQ (s2.set (w-1) q.1)))
    replace Rf:aE G2 fi (some (aQ (s2.set (w-1) q.1))) fi=some (aQ (s2.set (w-1) q.1)):=aB _ _ _
    generalize aE G2 fi _=G3 at *
    have b3:(s2.set (w-1) q.1).length=w:=by rw[Xal];exact bu
    generalize s2.set (w-1) q.1=s3 at *
    obtain⟨e,q1⟩:∃e,e=bI eC q.2:=⟨_,rfl⟩
    rw[<-q1]at hT aj
    have Rj:G3 j=some ⟨251,8,[[.os p.jr,.os p.jp,.os p.jb,.os p.ju,.os p.jt,int T.cols,int T.vars,int e]]⟩:=hT.hT
    have Rt:=hT.hR
    simp only[go_sem,e3,e5,e8,e9,M,Z,L,O,J,E,F,u,Rj]
    refine cD Rt ⟨rfl,rfl⟩ ⟨rfl,trivial⟩ (by simp only[dS,Xae,List.length_nil];omega) (fun a1 a8=>?_)
    have cx:j≠a1:=aO hT.hT a8
    have c1:j≠p.jr:=(mQ hT.nd).1.1
    have bo:aE (aE G3 p.jr none) a1 (some ⟨48,1,ozE p.f T.rows++[[.oz fi 0 w]]⟩) j=some ⟨251,8,[[.os p.jr,.os p.jp,.os p.jb,.os p.ju,.os p.jt,int T.cols,int T.vars,int e]]⟩:=by rw[aC _ _ _ _ cx,aC _ _ _ _ c1];exact Rj
    simp only[go_sem,e3,e5,e8,e9,M,Z,L,O,J,E,F,u,bo]
    refine cC TQ bo (by simp) ?_
    have ax:TabH (aE (aE (aE G3 p.jr none) a1 (some ⟨48,1,ozE p.f T.rows++[[.oz fi 0 w]]⟩)) j (some (bC (.os a1) (.os p.jp) (.os p.jb) (.os p.ju) (.os p.jt) T.cols T.vars e))) j { p with jr:=a1,f:=fun k=>if k=y then fi else p.f k } { T with rows:=T.rows++[s3],err:=e }:=by
      have:=hT.pushRow a8 Rf (by rw[show({ T with err:=e }:Tab).rows.length=y from am];exact an)
      rw[b3,show({ T with err:=e }:Tab).rows=T.rows from rfl,am]at this
      exact this
    have ba:=((ae.new (hf p.jr (by simp[Pts.all])) none).new (ae.none a8) (some ⟨48,1,ozE p.f T.rows++[[.oz fi 0 w]]⟩)).new av (some (bC (.os a1) (.os p.jp) (.os p.jb) (.os p.ju) (.os p.jt) T.cols T.vars e))
    have f1:=ae.none a8
    generalize hP:aE (aE (aE G3 p.jr none) a1 _) j _=G4
    rw[show aE (aE (aE G3 p.jr none) a1 (some ⟨48,1,ozE p.f T.rows++[[.oz fi 0 w]]⟩)) j (some (bC (.os a1) (.os p.jp) (.os p.jb) (.os p.ju) (.os p.jt) T.cols T.vars e))=G4 from by rw[<-hP];rfl]at ax ba
    clear hP
    have b7:G4 j=some ⟨251,8,[[.os a1,.os p.jp,.os p.jb,.os p.ju,.os p.jt,int T.cols,int T.vars,int e]]⟩:=ax.hT
    have cn:G4 p.jb=some (dB T.base):=ax.hB
    simp only[go_sem,e3,e5,e8,e9,M,Z,L,O,J,E,F,u,b7,ay,wy]
    refine cD cn ⟨rfl,rfl⟩ ⟨rfl,trivial⟩ (by simp only[Xaa,Xae,List.length_nil];omega) (fun a2 bb=>?_)
    have cu:j≠a2:=aO ax.hT bb
    have cy:j≠p.jb:=(mQ hT.nd).1.2.2.1
    have bq:∀x:Int,(⟨3,1,T.base.map aP++[[int x]]⟩:Row)=dB (T.base++[x]):=fun x=>by unfold dB;rw[Xak];rfl
    have b5:aE (aE G4 p.jb none) a2 (some ⟨3,1,T.base.map aP++[[int (c0+y:Nat)]]⟩) j=some ⟨251,8,[[.os a1,.os p.jp,.os p.jb,.os p.ju,.os p.jt,int T.cols,int T.vars,int e]]⟩:=by rw[aC _ _ _ _ cu,aC _ _ _ _ cy];exact b7
    simp only[go_sem,e3,e5,e8,e9,M,Z,L,O,J,E,F,u,b5]
    refine cC PZ b5 (by simp) ?_
    have a5:=ax.pushBase bb (T.base++[((c0+y:Nat):Int)])
    have bf:=((ba.new (hf p.jb (by simp[Pts.all])) none).new (ba.none bb) (some (dB (T.base++[((c0+y:Nat):Int)])))).new av (some (bC (.os a1) (.os p.jp) (.os a2) (.os p.ju) (.os p.jt) T.cols T.vars e))
    have f2:=ba.none bb
    generalize hP:aE (aE (aE G4 p.jb none) a2 _) j _=G5
    rw[show aE (aE (aE G4 p.jb none) a2 (some (dB (T.base++[((c0+y:Nat):Int)])))) j (some (bC (.os a1) (.os p.jp) (.os a2) (.os p.ju) (.os p.jt) T.cols T.vars e))=G5 from by rw[<-hP,<-bq];rfl]at a5 bf
    clear hP
    have b4:G5 j=some ⟨251,8,[[.os a1,.os p.jp,.os a2,.os p.ju,.os p.jt,int T.cols,int T.vars,int e]]⟩:=a5.hT
    have cr:G5 p.ju=some (dB T.unit):=a5.hU
    simp only[go_sem,e3,e5,e8,e9,M,Z,L,O,J,E,F,u,b4,ay,wy]
    refine cD cr ⟨rfl,rfl⟩ ⟨rfl,trivial⟩ (by simp only[Xaa,Xae,List.length_nil];omega) (fun a3 bc=>?_)
    have cj:j≠a3:=aO a5.hT bc
    have cv:j≠p.ju:=(mQ hT.nd).1.2.2.2.1
    have bp:∀x:Int,(⟨3,1,T.unit.map aP++[[int x]]⟩:Row)=dB (T.unit++[x]):=fun x=>by unfold dB;rw[Xak];rfl
    have bt:aE (aE G5 p.ju none) a3 (some ⟨3,1,T.unit.map aP++[[int (c0+y:Nat)]]⟩) j=some ⟨251,8,[[.os a1,.os p.jp,.os a2,.os p.ju,.os p.jt,int T.cols,int T.vars,int e]]⟩:=by rw[aC _ _ _ _ cj,aC _ _ _ _ cv];exact b4
    simp only[go_sem,e3,e5,e8,e9,M,Z,L,O,J,E,F,u,bt]
    refine cC PZ bt (by simp) ?_
    have aw:=a5.pushUnit bc (T.unit++[((c0+y:Nat):Int)])
    have a6:=((bf.new (hf p.ju (by simp[Pts.all])) none).new (bf.none bc) (some (dB (T.unit++[((c0+y:Nat):Int)])))).new av (some (bC (.os a1) (.os p.jp) (.os a2) (.os a3) (.os p.jt) T.cols T.vars e))
    have f3:=bf.none bc
    generalize hP:aE (aE (aE G5 p.ju none) a3 _) j _=G6
    rw[show aE (aE (aE G5 p.ju none) a3 (some (dB (T.unit++[((c0+y:Nat):Int)])))) j (some (bC (.os a1) (.os p.jp) (.os a2) (.os a3) (.os p.jt) T.cols T.vars e))=G6 from by rw[<-hP,<-bp];rfl]at aw a6
    clear hP
    have bz:G6 j=some ⟨251,8,[[.os a1,.os p.jp,.os a2,.os a3,.os p.jt,int T.cols,int T.vars,int e]]⟩:=aw.hT
    have cd:G6 p.jt=some (oI T.turned):=aw.hN
    simp only[go_sem,e3,e5,e8,e9,M,Z,L,O,J,E,F,u,bz]
    refine cD cd ⟨rfl,rfl⟩ ⟨rfl,trivial⟩ (by simp only[Xaa,Xae,List.length_nil];omega) (fun a4 bd=>?_)
    have c6:j≠a4:=aO aw.hT bd
    have c4:j≠p.jt:=(mQ hT.nd).1.2.2.2.2
    have bm:∀x:Bool,(⟨4,1,T.turned.map gU++[[boo x]]⟩:Row)=oI (T.turned++[x]):=fun x=>by unfold oI;rw[Xak];rfl
    have bx:aE (aE G6 p.jt none) a4 (some ⟨4,1,T.turned.map gU++[[boo (decide (sgn r<0))]]⟩) j=some ⟨251,8,[[.os a1,.os p.jp,.os a2,.os a3,.os p.jt,int T.cols,int T.vars,int e]]⟩:=by rw[aC _ _ _ _ c6,aC _ _ _ _ c4];exact bz
    simp only[go_sem,e3,e5,e8,e9,M,Z,L,O,J,E,F,u,bx]
    refine cC Vq bx (by simp) ?_
    have bn:=aw.pushTurn bd (T.turned++[decide (sgn r<0)])
    have bv:=((a6.new (hf p.jt (by simp[Pts.all])) none).new (a6.none bd) (some (oI (T.turned++[decide (sgn r<0)])))).new av (some (bC (.os a1) (.os p.jp) (.os a2) (.os a3) (.os a4) T.cols T.vars e))
    have f4:=a6.none bd
    generalize hP:aE (aE (aE G6 p.jt none) a4 _) j _=G7
    rw[show aE (aE (aE G6 p.jt none) a4 (some (oI (T.turned++[decide (sgn r<0)])))) j (some (bC (.os a1) (.os p.jp) (.os a2) (.os a3) (.os a4) T.cols T.vars e))=G7 from by rw[<-hP,<-bm];rfl]at bn bv
    clear hP
    simp only[go_sem,e3,e5,e8,e9,M,Z,L,O,J,E,F,u,aY y]
    refine⟨⟨y+1,_,c5,rfl,?_,by rw[aj];exact bn,?_,?_,bv⟩,by simp only[aF];omega⟩
    . rw[aj]
    . intro x hx
      have hx:x∈[j,a1,p.jp,a2,a3,a4]:=hx
      simp only[Xao,List.not_mem_nil,or_false]at hx
      rcases hx with rfl|rfl|rfl|rfl|rfl|rfl
      . exact av
      . exact f1
      . exact hf _ (by simp[Pts.all])
      . exact f2
      . exact f3
      . exact f4
    . intro x hx
      show H0 (if x=y then fi else p.f x)=none
      by_cases ex:x=y
      . rw[if_pos ex];exact al
      . rw[if_neg ex];exact b2 x (by omega)
  have ai:=geB hk (by simpa using ai)
  subst ai
  simp only[go_sem,e8]
  exact hK _ _ _ ⟨hf,b2⟩ hT ae
end
end Si
namespace Si
open Go.Nu
open Go.Proofs.YtmhpdppobocokaaGreatDoor.Nu (LinB pP)
def Bj(s n:Int)(h:pP n):(iN s n).1.size<=1048576:=by
 have u:(zed n).size<=4097:=Go.Nu.cX (sQ (k:=20) (by have:=h.1;have:=h.2;omega) (by omega));unfold iN;split
 ·exact mA _ _ (by decide)
 ·show(zed n).size<=_;omega
def SzL.rep(w:Nat):SzL (List.replicate w z0):=fun s u=>by rw[List.eq_of_mem_replicate u];decide
def Un{r:PRow}{w:Nat}{e:Int}(E:∀x∈r.coef,pP x):PrB w (HV r w e):=
 cJ (I:=PrB w) (fun s k h=>by
  unfold Bp;refine⟨by rw[Xal];exact h.1,h.2.set k (Bj _ _ ?_)⟩;by_cases u:k<r.coef.length
  ·exact E _ (by rw[List.getD,List.getElem?_eq_getElem u];exact List.getElem_mem u)
  ·rw[List.getD,List.getElem?_eq_none (by omega)];exact⟨by decide,by decide⟩) _ _ ⟨Xas ..,SzL.rep w⟩
def UR{r:PRow}{w nx u:Nat}{e:Int}(Z:∀x∈r.coef,pP x)(L:pP r.right):(Ff r w nx u e).1.length=w/\SzL (Ff r w nx u e).1:=by
 obtain⟨h1,J⟩:=Un (w:=w) (e:=e) Z;have E:pP (sgn r)/\pP (-sgn r):=by unfold sgn pP;split <;> omega
 have F:∀n,pP n->(zed n).size<=1048576:=fun n h=>by have F:(zed n).size<=4097:=Go.Nu.cX (sQ (k:=20) (by have:=h.1;have:=h.2;omega) (by omega));omega
 have M:(uY r nx (HV r w e).1).length=w:=by unfold uY;split <;> simp[h1]
 have O:SzL (uY r nx (HV r w e).1):=by
  unfold uY;split
  ·refine J.set nx (F _ ?_);split
   ·exact E.2
   ·exact E.1
  ·exact J
 unfold Ff;exact⟨by simp[M],(O.set u (by decide)).set (w-1) (Bj _ _ L)⟩
structure BldW(w c0 k:Nat)(s:Tab×Nat):Prop where
 row:∀r∈s.1.rows,r.length=w/\SzL r
 base:∀i,i<k->s.1.base.getD i 0=((c0+i:Nat):Int)
 unit:s.1.unit=s.1.base
def U8{l:PLin}(F:LinB l)(w c0:Nat):∀k,k<=l.rows.length->BldW w c0 k (aS (rL l w c0) k (uS l c0))
 | 0,_=>⟨fun r E=>absurd E (List.not_mem_nil),fun i hi=>absurd hi (Nat.not_lt_zero _),rfl⟩
 | k+1,h=>by
  rw[bV];obtain⟨r,E⟩:=bG (show k<l.rows.length by omega);have hB:=vE l w c0 k (by omega);obtain⟨a,b,c⟩:=U8 F w c0 k (by omega);unfold rL;rw[E];refine⟨fun x u=>?_,fun i hi=>?_,?_⟩
  ·rcases Xbj.1 u with u|u
   ·exact a x u
   ·obtain rfl:=Xap.1 u;exact UR (F.coef r (Xaf E)) (F.right r (Xaf E))
  ·show((aS (rL l w c0) k (uS l c0)).1.base++[((c0+k:Nat):Int)]).getD i 0=_;have J:=hB.base;generalize aS (rL l w c0) k (uS l c0)=s at *;by_cases e:i=k
   ·subst e;rw[List.getD,List.getElem?_append_right (by omega),J];simp
   ·rw[List.getD,List.getElem?_append_left (by omega)];exact b i (by omega)
  ·show(aS (rL l w c0) k (uS l c0)).1.unit++[_]=(aS (rL l w c0) k (uS l c0)).1.base++[_];rw[c]
def lM(l:PLin):Nat:=l.cost.length+slk l
def lB(l:PLin):Nat:=lM l+l.rows.length+1
def Tb(l:PLin):oN l=(aS (rL l (lB l) (lM l)) l.rows.length (uS l (lM l))).1:=rfl
def UE{l:PLin}(F:LinB l)(E:lB l<=1048576):OkT { oN l with price:=List.replicate (lB l) z0 } l.rows.length (lB l)/\UnT (oN l) l.rows.length (lB l)/\(oN l).cols=(lM l:Nat)/\(oN l).vars=(l.cost.length:Nat)/\(oN l).err=(oN l).err:=by
 have hB:=vE l (lB l) (lM l) l.rows.length (Xad _);have u:=U8 F (lB l) (lM l) l.rows.length (Xad _);rw[Tb];generalize aS (rL l (lB l) (lM l)) l.rows.length (uS l (lM l))=s at *;have J:lB l=lM l+l.rows.length+1:=rfl;refine⟨⟨⟨by omega,E,by omega,hB.rows,u.row,⟨Xas ..,SzL.rep _⟩,hB.base⟩,fun i hi=>?_,by show 0<=s.1.cols;rw[hB.cols];omega,by show s.1.cols+_+1=_;rw[hB.cols];omega⟩,⟨hB.unit,fun i hi=>?_,hB.turn⟩,hB.cols,hB.vars,rfl⟩
 ·have hi:i<s.1.base.length:=hi;show 0<=s.1.base.getD i 0/\s.1.base.getD i 0+1<_;rw[hB.base]at hi;rw[u.base i hi];omega
 ·rw[u.unit,u.base i hi];omega
end Si
namespace Si
open Go.Proofs.Tryz
open Go.Nu
open Go.Proofs.YtmhpdppobocokaaGreatDoor.Nu (ltB geB cB LinB VarB pP KD BX)
def M8(n:Int)(h0: -9223372036854775808<=n)(h1:n<=9223372036854775807):PC prog 197 [int n] (str (zed n)):=by refine pcd func197 rfl rfl ?_;simp only[go_sem];refine aN (KD n h0 h1) ?_;simp only[go_sem];exact .refl _
structure LinC(l:PLin):Prop where
 cost:l.cost.length<=8192
 rows:l.rows.length<=64
 coef:∀r∈l.rows,r.coef.length=l.cost.length
 kind:∀r∈l.rows,1<=r.kind/\r.kind<=3
def PA{l:PLin}(h:LinC l):PC prog 128 [.agg (eS l)] (.sl []):=by
 have hc:=h.cost;have Z:=h.rows;refine pcd func128 rfl rfl ?_;simp only[go_sem];refine aA (fun J=>absurd J (by simp;omega)) (fun J=>?_);simp only[go_sem,Xaa];refine aA (fun J=>absurd J (by simp;omega)) (fun J=>?_);simp only[go_sem,Xaa];refine⟨fun ρ H=>∃(k:Nat),k<=l.rows.length/\ρ 1=.rp (eS l) 0/\ρ 3=.sl []/\ρ 24=.sl (l.rows.map cR)/\ρ 25=int (l.rows.length:Nat)/\ρ 26=int k,fun ρ _=>l.rows.length-aW (ρ 26),⟨0,Xab _,by simp only[go_sem],by simp only[go_sem],by simp only[go_sem],by simp only[go_sem,Xaa],(by simp only[go_sem];rfl)⟩,?_⟩;rintro ρ H ⟨k,hk,M,O,F,u,E⟩;simp only[go_sem,M,O,F,u,E];refine aA (fun L=>?_) (fun ac=>?_)
 ·have L:=ltB (by simpa using L);obtain⟨r,Z⟩:=bG L;have b1:=inB L;have aa:=h.coef r (Xaf Z);have ab:=h.kind r (Xaf Z);simp only[go_sem,M,O,F,u,E,aJ Z,b1];refine aL fun i5 h5=>?_
  simp only[go_sem,M,O,F,u,E];refine aZ (aB _ _ _) (by simp[nR]) ?_;generalize hG:aE (aE H i5 _) i5 _=HG;have R5:HG i5=some (⟨235,3,[cR r]⟩:Row):=by rw[<-hG,aB];rfl
  clear hG h5;simp only[go_sem,M,O,F,u,E];refine aN (M8 k (by omega) (by omega)) ?_;simp only[go_sem,M,O,F,u,E,R5,cR,Xaa,aa];refine aA (fun J=>absurd J (by simp)) (fun J=>?_);simp only[go_sem,M,O,F,u,E,R5,cR];refine aA (fun J=>absurd J (by simp;omega)) (fun J=>?_);simp only[go_sem,M,O,F,u,E,aY k];exact⟨⟨k+1,L,rfl⟩,by simp only[aF];omega⟩
 simp only[go_sem,M,O,F,u,E];exact .refl _
def RF{l:PLin}{v:List ByteArray}(E:∀n∈l.cost,pP n)(u:VarB v):PC prog 138 [.agg (eS l),.sl (v.map Go.Aw.D.cQ)] (.tup [str (gE l.cost v).1,int (gE l.cost v).2]):=by refine pcd func138 rfl rfl ?_;simp only[go_sem];refine aN (BX l.cost v E u.len u.size) ?_;simp only[go_sem];exact .refl _
end Si
namespace Si
open Go.Proofs.Tryz
open Go.Nu
open Go.Proofs.YtmhpdppobocokaaGreatDoor.Nu (ltB geB cB LinB VarB pP)
def xW:∀{f:Nat} {T:Tab} {R:Tab×Int},EJ f T=some R->R.1.cols=T.cols/\R.1.vars=T.vars/\R.1.unit=T.unit/\R.1.turned=T.turned
 | f+1,T,R,h=>by
  unfold EJ at h;split at h
  ·cases h;exact⟨rfl,rfl,rfl,rfl⟩
  ·split at h
   ·cases h;exact⟨rfl,rfl,rfl,rfl⟩
   ·split at h
    ·cases h;exact⟨rfl,rfl,rfl,rfl⟩
    ·obtain⟨a,b,c,d⟩:=xW h;obtain⟨_,u,E,c',F⟩:=BB { T with err:=(lvT T _).err } (lvT T _).found.toNat _;exact⟨a.trans u,b.trans E,c.trans c',d.trans F⟩
def TE{T:Tab}{cost:List Int}{unit:ByteArray}{own:Bool}(E:unit.size<=1048576)(F:∀x∈cost,pP x)(k:Nat):(AU T cost unit own k).size<=1048576:=by
 unfold AU;split
 ·exact E
 ·split
  ·have h : pP (cost.getD k 0) := by
    by_cases u:k<cost.length
    ·exact F _ (by rw[List.getD,List.getElem?_eq_getElem u];exact List.getElem_mem u)
    ·rw[List.getD,List.getElem?_eq_none (by omega)];exact⟨by decide,by decide⟩
   have J:(zed (cost.getD k 0)).size<=4097:=Go.Nu.cX (sQ (k:=20) (by have:=h.1;have:=h.2;omega) (by omega));omega
  ·decide
def OJ{T:Tab}{cost:List Int}{unit:ByteArray}{own:Bool}(E:unit.size<=1048576)(F:∀x∈cost,pP x)(m:Nat):(Ir T cost unit own m).length=m/\SzL (Ir T cost unit own m):=
 cJ (I:=fun s:List ByteArray=>s.length=m/\SzL s) (fun s k h=>⟨by rw[Xal];exact h.1,h.2.set k (TE E F k)⟩) _ _ ⟨Xas ..,fun s u=>by rw[List.eq_of_mem_replicate u];decide⟩
def OkT.chg{T:Tab}{n w:Nat}{P0 cost:List ByteArray}(h:OkT { T with price:=P0 } n w)(E:cost.length+1=w)(u:SzL cost):OkT (chgT T cost) n w:=⟨h.wf.chgT E u,h.bas,h.cols,h.wid⟩
def Fr.keep{H0 H H':aD}{p:Pts}{j n:Nat}(h:Fr H0 p j n)(F:aU H0 H)(hT:eJ p j n H H'):aU H0 H':=fun k r E=>by
 have u:∀x,H0 x=none->k≠x:=fun x J e=>by subst e;rw[J]at E;cases E
 exact hT k r ⟨u _ (h.all j (by simp[Pts.all])),u _ (h.all p.jp (by simp[Pts.all])),u _ (h.all p.jb (by simp[Pts.all])),fun i hi=>u _ (h.f i hi)⟩ (F k r E)
def Fr.price{H0:aD}{p:Pts}{j n i:Nat}(h:Fr H0 p j n)(hi:H0 i=none):Fr H0 { p with jp:=i } j n:=⟨fun x u=>by
 have u:x∈[j,p.jr,i,p.jb,p.ju,p.jt]:=u;simp only[Xao,List.not_mem_nil,or_false]at u;rcases u with rfl|rfl|rfl|rfl|rfl|rfl
 ·exact h.all _ (by simp[Pts.all])
 ·exact h.all _ (by simp[Pts.all])
 ·exact hi
 ·exact h.all _ (by simp[Pts.all])
 ·exact h.all _ (by simp[Pts.all])
 ·exact h.all _ (by simp[Pts.all]),h.f⟩
def Uf{T:Tab}{n w:Nat}(h:WfT T n w):(dQ T).length=T.vars.toNat/\SzL (dQ T):=
 cJ (I:=fun s:List ByteArray=>s.length=T.vars.toNat/\SzL s) (fun s k u=>by
  unfold Ja;split
  ·refine⟨by rw[Xal];exact u.1,u.2.set _ ?_⟩;by_cases E:k<n
   ·exact(h.at E).2.at _
   ·rw[show T.rows.getD k []=[]by rw[List.getD,List.getElem?_eq_none (by rw[h.rows];omega)];rfl];decide
  ·exact u) _ _ ⟨Xas ..,SzL.rep _⟩
structure SolH(l:PLin)(f f':Nat)(T2 T5:Tab)(c2:Int):Prop where
 h1:EJ f (chgT (oN l) (Ir (oN l) l.cost one false (lM l+l.rows.length)))=some (T2,c2)
 e2:T2.err=0
 z2:is0 (T2.price.getD (lB l-1) z0)=true
 h5:EJ f' (chgT (nJ T2) (Ir (nJ T2) l.cost z0 true (lM l+l.rows.length)))=some (T5,-1)
 e5:T5.err=0
 ev:(gE l.cost (dQ T5)).2=0
 ed:(KO T5 z0).2=0
section
variable{H0:aD}{K:AV->aD->Prop}
set_option maxHeartbeats 1000000 in
theorem Tq {l:PLin} {f f':Nat} {T2 T5:Tab} {c2:Int} (hl:LinB l) (al:LinC l) (ae:∀x∈l.cost,pP x) (hS:SolH l f f' T2 T5 c2)
    (hK:∀ix id H',H0 ix=none->H0 id=none->H' ix=some (aQ (dQ T5))->H' id=some (aQ (KO T5 z0).1)->aU H0 H'->K (.tup [.agg [int 1,.os ix,.os id,.sl [],str (gE l.cost (dQ T5)).1],int 0]) H'):
    aI prog 74 [.agg (eS l)] H0 K:=by
  have ci:=al.cost
  have cg:=al.rows
  have cj:slk l<=l.rows.length:=Xbe ..
  have hw:lB l<=1048576:=by unfold lB lM;omega
  have hL:lB l=lM l+l.rows.length+1:=rfl
  obtain⟨hO,hU,u,F,_⟩:=UE hl hw
  refine aI.body (c:=f74.body.getD .skip) (fun _=>false) mixed func74 rfl (by kernel_rfl) ?_
  unfold f74
  simp only[Xag]
  simp only[go_sem]
  refine aL fun i2 bi=>?_
  have aw:=(aU.refl H0).new bi (some ⟨61,5,[[.v (.int .i64 0),.sl [],.sl [],.sl [],.v (.string ByteArray.empty)]]⟩)
  have R2:aE H0 i2 (some ⟨61,5,[[.v (.int .i64 0),.sl [],.sl [],.sl [],.v (.string ByteArray.empty)]]⟩) i2=some ⟨61,5,[[.v (.int .i64 0),.sl [],.sl [],.sl [],.v (.string ByteArray.empty)]]⟩:=aB _ _ _
  generalize ch:aE H0 i2 (some ⟨61,5,[[.v (.int .i64 0),.sl [],.sl [],.sl [],.v (.string ByteArray.empty)]]⟩)=H1 at *
  simp only[go_sem]
  refine aN (PA al) ?_
  simp only[go_sem]
  refine aA (fun h=>absurd h (by decide)) (fun _=>?_)
  simp only[go_sem]
  refine O5 hl al.coef hw fun j p H2 hF hT bh=>?_
  simp only[go_sem]
  have bg:(oN l).rows.length=l.rows.length:=hO.wf.rows
  refine Mz hT bg (m:=lM l+l.rows.length) (by rw[u];omega) (by omega) (by rw[u];omega) (by rw[F];omega) (by rw[u,F];unfold lM;omega) ae fun jc H3 bq Rc a6=>?_
  simp only[go_sem]
  obtain⟨a8,av⟩:=OJ (T:=oN l) (own:=false) (show one.size<=1048576 by decide) ae (lM l+l.rows.length)
  have ap:(Ir (oN l) l.cost one false (lM l+l.rows.length)).length+1=lB l:=by rw[a8];omega
  have br:=hO.chg ap av
  refine HT (P0:=List.replicate (lB l) z0) (hT.keep a6) hO.wf hO.bas Rc ap av (hT.noT bg bq).off fun q1 i3 H4 b2 bx bn=>?_
  simp only[go_sem]
  have cc:aU H1 H4:=hF.keep (bh.trans a6) bn
  have aj:=hF.price ((bh.trans a6).none b2)
  refine DC hS.h1 bx br fun H5 aa O bv=>?_
  have bz:aU H1 H5:=aj.keep cc bv
  simp only[go_sem]
  have a0:H5 j=some ⟨251,8,[[.os p.jr,.os i3,.os p.jb,.os p.ju,.os p.jt,int T2.cols,int T2.vars,int T2.err]]⟩:=aa.hT
  simp only[go_sem,a0]
  refine aA (fun h=>absurd hS.e2 (by simpa using h)) (fun _=>?_)
  simp only[go_sem]
  have a9:H5 i3=some (aQ T2.price):=aa.hP
  have cf:T2.price.length=lB l:=O.wf.price.1
  have ah:T2.cols=(oN l).cols/\T2.vars=(oN l).vars/\T2.unit=(oN l).unit/\T2.turned=(oN l).turned:=xW hS.h1
  have O:OkT T2 l.rows.length (lB l):=O
  have aa:TabH H5 j { p with jp:=i3 } T2:=aa
  have wl:IntKind.i64.wrap ((T2.price.length:Int)-1)=((lB l-1:Nat):Int):=by rw[aV (by omega)];omega
  have ar:lB l-1<T2.price.length:=by omega
  refine eN [j,i3] [(0,true),(1,true),(2,true),(3,true),(4,true),(5,true),(6,true),(7,true),(8,true),(9,true),(10,true),(11,true),(12,true)] (by simp[a0,a9]) (by kernel_rfl) fun Hp Hr hp hr _ b8=>?_
  have ac:=(hp j (by simp)).trans a0
  have af:=(hp i3 (by simp)).trans a9
  simp only[go_sem,wl,Xbb,ac,af]
  refine⟨⟨by omega,by omega⟩,ar,?_⟩
  simp only[go_sem,dN ar]
  refine nC hr ?_
  clear hp hr b8 ac af
  simp only[go_sem]
  refine aA (fun h=>absurd h ?_) (fun _=>?_)
  . have h2:is0 (T2.price.getD (lB l-1) z0)=true:=hS.z2
    show ¬(!is0 (T2.price.getD (lB l-1) z0))=true
    rw[h2];decide
  simp only[go_sem]
  refine Sk aa O fun q2 H6 a5 bs=>?_
  have bf:aU H1 H6:=aj.keep bz bs
  have Z:OkT (nJ T2) l.rows.length (lB l):=by
    have:=O.clns l.rows.length (Xad _)
    unfold nJ
    rw[O.wf.rows];exact this
  obtain⟨ck1,ck2,ck3,ck4⟩:(nJ T2).cols=T2.cols/\(nJ T2).vars=T2.vars/\(nJ T2).unit=T2.unit/\(nJ T2).turned=T2.turned:=Di T2 T2.rows.length
  have ai:(nJ T2).cols=(lM l:Nat):=ck1.trans (ah.1.trans u)
  have az:(nJ T2).vars=(l.cost.length:Nat):=ck2.trans (ah.2.1.trans F)
  simp only[go_sem]
  refine Mz a5 Z.wf.rows (m:=lM l+l.rows.length) (by rw[ai];omega) (by omega) (by rw[ai];omega) (by rw[az];omega) (by rw[ai,az];unfold lM;omega) ae fun jd H7 b4 Rd a4=>?_
  simp only[go_sem]
  obtain⟨be,au⟩:=OJ (T:=nJ T2) (own:=true) (show z0.size<=1048576 by decide) ae (lM l+l.rows.length)
  have an:(Ir (nJ T2) l.cost z0 true (lM l+l.rows.length)).length+1=lB l:=by rw[be];omega
  have bt:OkT (chgT (nJ T2) (Ir (nJ T2) l.cost z0 true (lM l+l.rows.length))) l.rows.length (lB l):=OkT.chg (P0:=(nJ T2).price) Z an au
  refine HT (P0:=(nJ T2).price) (a5.keep a4) Z.wf Z.bas Rd an au (a5.noT Z.wf.rows b4).off fun q3 i4 H8 bu bo b3=>?_
  simp only[go_sem]
  have b9:aU H1 H8:=aj.keep (bf.trans a4) b3
  have bd:=aj.price ((bf.trans a4).none bu)
  refine DC hS.h5 bo bt fun H9 L M bw=>?_
  have ab:aU H1 H9:=bd.keep b9 bw
  simp only[go_sem]
  have L:TabH H9 j { p with jp:=i4 } T5:=L
  have M:OkT T5 l.rows.length (lB l):=M
  have am:T5.cols=(nJ T2).cols/\T5.vars=(nJ T2).vars/\T5.unit=(nJ T2).unit/\T5.turned=(nJ T2).turned:=xW hS.h5
  have bm:H9 j=some ⟨251,8,[[.os p.jr,.os i4,.os p.jb,.os p.ju,.os p.jt,int T5.cols,int T5.vars,int T5.err]]⟩:=L.hT
  simp only[go_sem,bm]
  refine aA (fun h=>absurd hS.e5 (by simpa using h)) (fun _=>?_)
  simp only[go_sem]
  have b0:T5.cols=(lM l:Nat):=am.1.trans ai
  have ax:T5.vars=(l.cost.length:Nat):=am.2.1.trans az
  refine Q0 L M (by rw[ax];omega) (by rw[b0,ax];unfold lM;omega) fun ix ce ak Rx J=>?_
  simp only[go_sem]
  refine aA (fun h=>absurd h (by decide)) (fun _=>?_)
  simp only[go_sem]
  obtain⟨bk,b5⟩:=Uf M.wf
  rw[ax,Xbb]at bk
  have hV:VarB (dQ T5):=⟨by omega,b5⟩
  refine yP.use ⟨_,.cons _ _ _ _ (.refl _) (.cons _ _ _ _ (.row ix _ _ Rx (ConvE.refl _)) .nil),RF ae hV,rfl⟩ ?_
  have ag:=L.keep J
  simp only[go_sem,hS.ev]
  refine Et 0 ag.hT fun q4=>?_
  rw[pW,cY ag.hT]
  simp only[go_sem]
  have bj:T5.unit=(oN l).unit:=am.2.2.1.trans (ck3.trans ah.2.2.1)
  have b6:T5.turned=(oN l).turned:=am.2.2.2.trans (ck4.trans ah.2.2.2)
  have ca:UnT T5 l.rows.length (lB l):=⟨by rw[bj];exact hU.len,by rw[bj];exact hU.at_,by rw[b6];exact hU.turn⟩
  refine SE (show z0.size<=1048576 by decide) ag M.wf ca fun id a7 ay b1 bb aq=>?_
  have ao:aU H1 a7:=bd.keep (ab.trans J) aq
  have bc:a7 ix=some (aQ (dQ T5)):=aq ix _ ((L.noT M.wf.rows ak).off) Rx
  simp only[go_sem]
  refine UX bb fun b7 E=>?_
  rw[if_neg (show ¬({ T5 with err:=(KO T5 z0).2 }:Tab).err≠0 from fun h=>h hS.ed)]
  have ba:=(ao.trans E) _ _ R2
  simp only[go_sem]
  refine aZ ba (by simp) ?_
  have cd:ix≠i2:=fun e=>by subst e;rw[ab _ _ R2]at ak;cases ak
  have bp:id≠i2:=fun e=>by subst e;rw[(ab.trans J) _ _ R2]at ay;cases ay
  have Rg:∀a,aE b7 i2 a i2=a:=fun a=>aB _ _ _
  simp only[go_sem,Rg]
  exact hK ix id _ ((aw.trans ab).none ak) ((aw.trans (ab.trans J)).none ay) (by rw[aC _ _ _ _ cd];exact E _ _ bc) (by rw[aC _ _ _ _ bp];exact E _ _ b1) ((aw.trans (ao.trans E)).new bi _)
end
end Si
namespace Nu
open Go.Proofs.Tryz
open Go.Nu
abbrev iS(f:Nat->Nat)(i:Nat)(r:PRow):List AV:=[.os (f i),int r.kind,int r.right]
abbrev pZ(f:Nat->Nat)(rows:List PRow):Row:=⟨235,3,rows.mapIdx (iS f)⟩
def qW(f:Nat->Nat)(k c:Nat):Nat->Nat:=fun i=>if i=k then c else f i
structure LinH(H:aD)(jr:Nat)(f:Nat->Nat)(rows:List PRow):Prop where
 row:H jr=some (pZ f rows)
 coef:∀(i:Nat) (r:PRow),rows[i]?=some r->H (f i)=some (fC r.coef)
 inj:∀i k,i<rows.length->k<rows.length->f i=f k->i=k
def MZ(f:Nat->Nat)(rows:List PRow)(c:Nat)(E u:Int):rows.mapIdx (iS f)++[[.os c,int E,int u]]=(rows++[(⟨[],E,u⟩:PRow)]).mapIdx (iS (qW f rows.length c)):=by
 rw[List.mapIdx_append]
 congr 1
 ·refine List.ext_getElem? fun i=>?_
  rw[List.getElem?_mapIdx,List.getElem?_mapIdx];cases h:rows[i]? with
  | none=>rfl
  | some r=>have F:=(List.getElem?_eq_some_iff.1 h).1;show some (iS f i r)=some (iS (qW f rows.length c) i r);unfold iS qW;rw[if_neg (by omega)]
 ·simp[iS,qW]
def M4(f:Nat->Nat)(rows:List PRow)(k c:Nat)(r:PRow)(l:List Int)(h:rows[k]?=some r):(rows.mapIdx (iS f)).set k [.os c,int r.kind,int r.right]=(rows.set k (⟨l,r.kind,r.right⟩:PRow)).mapIdx (iS (qW f k c)):=by
 have u:=(List.getElem?_eq_some_iff.1 h).1;refine List.ext_getElem? fun i=>?_
 rw[List.getElem?_set,List.getElem?_mapIdx,List.getElem?_mapIdx,List.getElem?_set];by_cases hi:k=i
 ·subst hi;rw[if_pos rfl,if_pos rfl,List.length_mapIdx,if_pos u,if_pos u];show some _=some (iS (qW f k c) k _);unfold iS qW;rw[if_pos rfl]
 ·rw[if_neg hi,if_neg hi];cases E:rows[i]? with
  | none=>rfl
  | some r2=>show some (iS f i r2)=some (iS (qW f k c) i r2);unfold iS qW;rw[if_neg (fun e=>hi e.symm)]
structure RowsS(H0 H:aD)(j:Nat)(f:Nat->Nat)(rows:List PRow):Prop where
 lin:LinH H j f rows
 keep:∀k row,H0 k=some row->H k=some row
 nj:H0 j=none
 nf:∀i,i<rows.length->H0 (f i)=none
def Dc{H0 H:aD}(h:∀k row,H0 k=some row->H k=some row){c:Nat}(u:H c=none):H0 c=none:=by
 cases e:H0 c with
 | none=>rfl
 | some row=>rw[h c row e]at u;cases u
def LinH.ne{H:aD}{j:Nat}{f:Nat->Nat}{rows:List PRow}(h:LinH H j f rows){i:Nat}(hi:i<rows.length):f i≠j:=fun e=>by obtain⟨r,u⟩:=bG hi;have h1:=h.coef i r u;rw[e,h.row]at h1;have E:(pZ f rows).e=(fC r.coef).e:=congrArg Row.e (Option.some.inj h1);exact absurd (show(235:Nat)=3 from E) (by decide)
def LinH.new{H:aD}{j:Nat}{f:Nat->Nat}{rows:List PRow}(h:LinH H j f rows){i:Nat}(hi:H i=none)(a:Option Row):LinH (aE H i a) j f rows:=by
 refine⟨?_,fun k r u=>?_,h.inj⟩
 ·rw[aC _ _ _ _ (fun e=>by subst e;rw[h.row]at hi;cases hi)];exact h.row
 ·have:=h.coef k r u;rw[aC _ _ _ _ (fun e=>by rw[e,hi]at this;cases this)];exact this
def RowsS.new{H0 H:aD}{j:Nat}{f:Nat->Nat}{rows:List PRow}(h:RowsS H0 H j f rows){i:Nat}(hi:H i=none)(a b:Option Row):RowsS H0 (aE (aE H i a) i b) j f rows:=by
 have e:aE (aE H i a) i b=aE H i b:=by
  funext k;by_cases e:k=i
  ·subst e;rw[aB,aB]
  ·rw[aC _ _ _ _ e,aC _ _ _ _ e,aC _ _ _ _ e]
 rw[e];refine⟨h.lin.new hi b,fun k row u=>?_,h.nj,h.nf⟩;have:=h.keep k row u;rw[aC _ _ _ _ (fun e=>by subst e;rw[hi]at this;cases this)];exact this
def RowsS.app{H0 H:aD}{j:Nat}{f:Nat->Nat}{rows:List PRow}(h:RowsS H0 H j f rows){c j':Nat}(M:H c=none)(J:aE H c (some (fC [])) j'=none)(kd rt:Int):
  RowsS H0 (aE (aE (aE H c (some (fC []))) j none) j' (some ⟨235,3,rows.mapIdx (iS f)++[[.os c,int kd,int rt]]⟩)) j' (qW f rows.length c) (rows++[⟨[],kd,rt⟩]):=by
 have ab:c≠j':=fun e=>by subst e;rw[aB]at J;cases J
 have L:H j'=none:=by rwa [aC _ _ _ _ ab.symm]at J
 have ac:c≠j:=fun e=>by subst e;rw[h.lin.row]at M;cases M
 refine⟨⟨?_,fun i r Z=>?_,fun i k hi O u=>?_⟩,fun k row O=>?_,Dc h.keep L,fun i hi=>?_⟩
 ·rw[aB,MZ]
 ·unfold qW;by_cases e:i=rows.length
  ·subst e;rw[if_pos rfl,aC _ _ _ _ ab,aC _ _ _ _ ac,aB];have:r=⟨[],kd,rt⟩:=by simpa using Z.symm
   rw[this]
  ·have aa:i<rows.length:=by have:=(List.getElem?_eq_some_iff.1 Z).1;rw[Xac]at this;simp at this;omega
   rw[if_neg e];rw[List.getElem?_append_left aa]at Z;have E:=h.lin.coef i r Z;rw[aC _ _ _ _ (fun e=>by rw[e,L]at E;cases E),aC _ _ _ _ (h.lin.ne aa),aC _ _ _ _ (fun e=>by rw[e,M]at E;cases E)];exact E
 ·have F : ∀ i, i < rows.length -> f i ≠ c := fun i hi e => by obtain⟨r,Z⟩:=bG hi;have:=h.lin.coef i r Z;rw[e,M]at this;cases this
  rw[Xac]at hi O;simp at hi O;unfold qW at u;by_cases e1:i=rows.length
  ·by_cases e2:k=rows.length
   ·omega
   ·rw[if_pos e1,if_neg e2]at u;exact absurd u.symm (F k (by omega))
  ·by_cases e2:k=rows.length
   ·rw[if_neg e1,if_pos e2]at u;exact absurd u (F i (by omega))
   ·rw[if_neg e1,if_neg e2]at u;exact h.lin.inj i k (by omega) (by omega) u
 ·have E:=h.keep k row O;rw[aC _ _ _ _ (fun e=>by rw[e,L]at E;cases E),aC _ _ _ _ (fun e=>by rw[e,h.nj]at O;cases O),aC _ _ _ _ (fun e=>by rw[e,M]at E;cases E)];exact E
 ·unfold qW;by_cases e:i=rows.length
  ·rw[if_pos e];exact Dc h.keep M
  ·rw[if_neg e];rw[Xac]at hi;simp at hi;exact h.nf i (by omega)
def EQ(d:Decision):Option PRow:=if d.kind=3 then some ⟨[],1,d.n⟩else if d.kind=4 then some ⟨[],3,d.n⟩else none
def xB(k:Nat):List PRow:=List.replicate k ⟨[],2,1⟩
def oZ(l:List VType):List PRow:=l.map fun t=>⟨[],1,t.count⟩
def pG(l:List Cut):List PRow:=l.map fun q=>⟨[],(FV q).1,(FV q).2⟩
def nH(l:List Decision):List PRow:=l.filterMap EQ
def mU(x:Instance)(cuts:List Cut)(ds:List Decision):List PRow:=xB (gR x).length++oZ x.types++pG cuts++nH ds
def C2(ds:List Decision):(nH ds).length=(ds.filter Ai).length:=by
 unfold nH;induction ds with
 | nil=>rfl
 | cons d l ih=>
  rw[List.filterMap_cons,List.filter_cons];by_cases u:d.kind=3
  ·rw[show EQ d=some ⟨[],1,d.n⟩from if_pos u,if_pos (show Ai d=true by simp[Ai,u])]
   try simp only[Xae,ih]
  ·by_cases E:d.kind=4
   ·rw[show EQ d=some ⟨[],3,d.n⟩from(if_neg u).trans (if_pos E),if_pos (show Ai d=true by simp[Ai,E])]
    try simp only[Xae,ih]
   ·rw[show EQ d=none from(if_neg u).trans (if_neg E),if_neg (show ¬Ai d=true by simp[Ai,u,E])]
    try exact ih
def Db(x:Instance)(cuts:List Cut)(ds:List Decision):(mU x cuts ds).length=iQ x cuts ds:=by unfold mU xB oZ pG iQ;simp only[Xac,Xaa,Xas,C2]
def A9{ds:List Decision}{k:Nat}{d:Decision}(h:ds[k]?=some d):nH (ds.take (k+1))=nH (ds.take k)++(EQ d).toList:=by
 unfold nH;rw[bK h,List.filterMap_append]
 congr 1
def RG(x:Instance)(cuts:List Cut)(ds:List Decision)(h:MIn x cuts ds)(H0:aD)(K:AV->aD->Prop)(hK:∀j f Hn,RowsS H0 Hn j f (mU x cuts ds)->K (.os j) Hn):
  aI prog 121 [.agg (aH x),.sl (cuts.map cU),.sl (ds.map aT)] H0 K:=by
 have h1:=h.orders;have h2:=h.types;have h3:=h.cl;have h4:=h.dl;have ap:=AQ x;refine aI.body (c:=f121.body.getD .skip) (fun t=>t == 7||t == 23||t == 37||t == 55||t == 72||t == 80) mixed func121 rfl (by kernel_rfl) ?_;unfold f121;simp only[Xag];simp only[go_sem];refine aL fun j hj=>?_
 have S:RowsS H0 (aE H0 j (some ⟨235,3,[]⟩)) j id []:=by refine⟨⟨aB _ _ _,fun i r hr=>(by simp at hr),fun i k hi=>absurd hi (by simp)⟩,fun k row hk=>?_,hj,fun i hi=>absurd hi (by simp)⟩;rw[aC _ _ _ _ (fun e=>by subst e;rw[hj]at hk;cases hk)];exact hk
 generalize aE H0 j _=H1 at S |-;simp only[go_sem];refine aN (zD x h1) ?_;simp only[go_sem];refine aN (iG _) ?_;rw[F4 x h1];simp only[go_sem,Xaa];refine⟨fun ρ H=>∃(k:Nat) (j:Nat) (f:Nat->Nat),k<=(gR x).length/\ρ 1=.sl (cuts.map cU)/\ρ 2=.sl (ds.map aT)/\ρ 3=.rp (aH x) 0/\ρ 19=int ((gR x).length:Nat)/\ρ 20=int k/\ρ 7=.os j/\RowsS H0 H j f (xB k),fun ρ _=>(gR x).length-aW (ρ 20),⟨0,j,id,Xab _,by simp only[go_sem],by simp only[go_sem],by simp only[go_sem],by simp only[go_sem,Xaa],(by simp only[go_sem];rfl),by simp only[go_sem],S⟩,?_⟩;rintro ρ H ⟨k,j,f,hk,e1,e2,e3,ai,ah,E,S⟩;simp only[go_sem,e1,e2,e3,ai,ah,E];refine aA (fun u=>?_) (fun F=>?_)
 ·have u:=ltB (by simpa using u);simp only[go_sem,e1,e2,e3,ai,ah,E];refine aL fun c hc=>?_
  have R:=(S.lin.new hc (some (fC []))).row;refine cD R ⟨rfl,rfl⟩ ⟨rfl,trivial⟩ (by simp only[List.length_mapIdx,xB,Xas,Xae,List.length_nil];omega) (fun j' O=>?_);have S2:=S.app hc O 2 1;have e:xB (k+1)=xB k++[⟨[],2,1⟩]:=List.replicate_succ';rw[<-e]at S2;simp only[go_sem,e1,e2,e3,ai,ah,E,aY k];exact⟨⟨k+1,j',_,u,rfl,rfl,S2⟩,by simp only[aF];omega⟩
 have F:=geB hk (by simpa using F);subst F;simp only[go_sem,e1,e2,e3,ai,ah,E,Xaa];generalize hB:xB (gR x).length=B at S;have ao:B.length<=62:=by rw[<-hB];unfold xB;rw[Xas];omega
 refine⟨fun ρ H=>∃(k:Nat) (j:Nat) (f:Nat->Nat),k<=x.types.length/\ρ 1=.sl (cuts.map cU)/\ρ 2=.sl (ds.map aT)/\ρ 28=.sl (x.types.map cV)/\ρ 29=int (x.types.length:Nat)/\ρ 30=int k/\ρ 7=.os j/\RowsS H0 H j f (B++oZ (x.types.take k)),fun ρ _=>x.types.length-aW (ρ 30),⟨0,j,f,Xab _,by simp only[go_sem,e1,e2],by simp only[go_sem,e1,e2],by simp only[go_sem,e1,e2],by simp only[go_sem,Xaa,e1,e2],(by simp only[go_sem,e1,e2];rfl),by simp only[go_sem,E],by simpa[oZ]using S⟩,?_⟩;rintro ρ H ⟨k,j,f,hk,e1,e2,af,ag,ae,E,S⟩;simp only[go_sem,e1,e2,af,ag,ae,E];refine aA (fun u=>?_) (fun F=>?_)
 ·have u:=ltB (by simpa using u);obtain⟨t,ht⟩:=bG u;have b1:=inB u;have aj:(B++oZ (x.types.take k)).length<=62+k:=by unfold oZ;simp only[Xac,Xaa,Xaj];omega
  simp only[go_sem,e1,e2,af,ag,ae,E,aJ ht,b1];refine aL fun i9 h9=>?_
  simp only[go_sem,e1,e2,af,ag,ae,E];refine aZ (aB _ _ _) (by simp[qS]) ?_;have Z:=S.new h9;generalize hG:aE (aE H i9 _) i9 _=HG;replace Z:RowsS H0 HG j f (B++oZ (x.types.take k)):=by rw[<-hG];exact Z _ _
  have R9:HG i9=some (⟨38,14,[cV t]⟩:Row):=by rw[<-hG,aB];rfl
  clear hG h9;simp only[go_sem,e1,e2,af,ag,ae,E,R9];refine aL fun c hc=>?_
  have R:=(Z.lin.new hc (some (fC []))).row;refine cD R ⟨rfl,rfl⟩ ⟨rfl,trivial⟩ (by simp only[List.length_mapIdx,Xae,List.length_nil];omega) (fun j' O=>?_);have S2:=Z.app hc O 1 t.count;have e:B++oZ (x.types.take (k+1))=B++oZ (x.types.take k)++[⟨[],1,t.count⟩]:=by unfold oZ;rw[bK ht,Xak,Xah];rfl
  rw[<-e]at S2;simp only[go_sem,e1,e2,af,ag,ae,E,aY k];exact⟨⟨k+1,j',_,u,rfl,rfl,S2⟩,by simp only[aF];omega⟩
 have F:=geB hk (by simpa using F);subst F;rw[Xai]at S;simp only[go_sem,e1,e2,af,ag,ae,E,Xaa];generalize al:B++oZ x.types=B2 at S;have an:B2.length<=62+1048576:=by rw[<-al];unfold oZ;rw[Xac,Xaa];omega
 refine⟨fun ρ H=>∃(k:Nat) (j:Nat) (f:Nat->Nat),k<=cuts.length/\ρ 2=.sl (ds.map aT)/\ρ 41=.sl (cuts.map cU)/\ρ 42=int (cuts.length:Nat)/\ρ 43=int k/\ρ 7=.os j/\RowsS H0 H j f (B2++pG (cuts.take k)),fun ρ _=>cuts.length-aW (ρ 43),⟨0,j,f,Xab _,by simp only[go_sem,e2],by simp only[go_sem,e2],by simp only[go_sem,Xaa,e2],(by simp only[go_sem,e2];rfl),by simp only[go_sem,E],by simpa[pG]using S⟩,?_⟩;rintro ρ H ⟨k,j,f,hk,e2,ac,ab,aa,E,S⟩;simp only[go_sem,e2,ac,ab,aa,E];refine aA (fun u=>?_) (fun F=>?_)
 ·have u:=ltB (by simpa using u);obtain⟨q,hq⟩:=bG u;have b1:=inB u;have aj:(B2++pG (cuts.take k)).length<=62+1048576+k:=by unfold pG;simp only[Xac,Xaa,Xaj];omega
  simp only[go_sem,e2,ac,ab,aa,E,aJ hq,b1];refine aL fun i9 h9=>?_
  simp only[go_sem,e2,ac,ab,aa,E];refine aZ (aB _ _ _) (by simp[nE]) ?_;have Z:=S.new h9;generalize hG:aE (aE H i9 _) i9 _=HG;replace Z:RowsS H0 HG j f (B2++pG (cuts.take k)):=by rw[<-hG];exact Z _ _
  have R9:HG i9=some (⟨82,3,[cU q]⟩:Row):=by rw[<-hG,aB];rfl
  clear hG h9;simp only[go_sem,e2,ac,ab,aa,E,R9];refine aN (Vp q) ?_;simp only[go_sem,e2,ac,ab,aa,E];refine aL fun c hc=>?_
  have R:=(Z.lin.new hc (some (fC []))).row;refine cD R ⟨rfl,rfl⟩ ⟨rfl,trivial⟩ (by simp only[List.length_mapIdx,Xae,List.length_nil];omega) (fun j' O=>?_);have S2:=Z.app hc O (FV q).1 (FV q).2;have e:B2++pG (cuts.take (k+1))=B2++pG (cuts.take k)++[⟨[],(FV q).1,(FV q).2⟩]:=by unfold pG;rw[bK hq,Xak,Xah];rfl
  rw[<-e]at S2;simp only[go_sem,e2,ac,ab,aa,E,aY k];exact⟨⟨k+1,j',_,u,rfl,rfl,S2⟩,by simp only[aF];omega⟩
 have F:=geB hk (by simpa using F);subst F;rw[Xai]at S;simp only[go_sem,e2,ac,ab,aa,E,Xaa];generalize ak:B2++pG cuts=B3 at S;have am:B3.length<=62+1048576+1048576:=by rw[<-ak];unfold pG;rw[Xac,Xaa];omega
 refine⟨fun ρ H=>∃(k:Nat) (j:Nat) (f:Nat->Nat),k<=ds.length/\ρ 59=.sl (ds.map aT)/\ρ 60=int (ds.length:Nat)/\ρ 61=int k/\ρ 7=.os j/\RowsS H0 H j f (B3++nH (ds.take k)),fun ρ _=>ds.length-aW (ρ 61),⟨0,j,f,Xab _,by simp only[go_sem],by simp only[go_sem,Xaa],(by simp only[go_sem];rfl),by simp only[go_sem,E],by simpa[nH]using S⟩,?_⟩;rintro ρ H ⟨k,j,f,hk,L,J,M,E,S⟩;simp only[go_sem,L,J,M,E];refine aA (fun u=>?_) (fun F=>?_)
 ·have u:=ltB (by simpa using u);obtain⟨d,hd⟩:=bG u;have b1:=inB u;have hs:=A9 hd;have aj:(B3++nH (ds.take k)).length<=62+1048576+1048576+k:=by have:=Ga ds k;rw[Xac,C2];omega
  simp only[go_sem,L,J,M,E,aJ hd,b1];refine aL fun i9 h9=>?_
  simp only[go_sem,L,J,M,E];refine aZ (aB _ _ _) (by simp[fF]) ?_;have Z:=S.new h9;generalize hG:aE (aE H i9 _) i9 _=HG;replace Z:RowsS H0 HG j f (B3++nH (ds.take k)):=by rw[<-hG];exact Z _ _
  have R9:HG i9=some (⟨50,4,[aT d]⟩:Row):=by rw[<-hG,aB];rfl
  clear hG h9;simp only[go_sem,L,J,M,E,R9];refine aA (fun hb=>?_) (fun hb=>?_)
  ·have h3:d.kind=3:=by simpa using hb
   rw[show EQ d=some ⟨[],1,d.n⟩from if_pos h3]at hs;simp only[go_sem,L,J,M,E,R9];refine aL fun c hc=>?_
   have R:=(Z.lin.new hc (some (fC []))).row;refine cD R ⟨rfl,rfl⟩ ⟨rfl,trivial⟩ (by simp only[List.length_mapIdx,Xae,List.length_nil];omega) (fun j' O=>?_);have S2:=Z.app hc O 1 d.n;have e:B3++nH (ds.take (k+1))=B3++nH (ds.take k)++[⟨[],1,d.n⟩]:=by rw[hs,Xah];rfl
   rw[<-e]at S2;simp only[go_sem,L,J,M,E,aY k];exact⟨⟨k+1,j',_,u,rfl,rfl,S2⟩,by simp only[aF];omega⟩
  have h3:d.kind≠3:=by simpa using hb
  simp only[go_sem,L,J,M,E,R9];refine aA (fun hb=>?_) (fun hb=>?_)
  ·have h4:d.kind=4:=by simpa using hb
   rw[show EQ d=some ⟨[],3,d.n⟩from(if_neg h3).trans (if_pos h4)]at hs;simp only[go_sem,L,J,M,E,R9];refine aL fun c hc=>?_
   have R:=(Z.lin.new hc (some (fC []))).row;refine cD R ⟨rfl,rfl⟩ ⟨rfl,trivial⟩ (by simp only[List.length_mapIdx,Xae,List.length_nil];omega) (fun j' O=>?_);have S2:=Z.app hc O 3 d.n;have e:B3++nH (ds.take (k+1))=B3++nH (ds.take k)++[⟨[],3,d.n⟩]:=by rw[hs,Xah];rfl
   rw[<-e]at S2;simp only[go_sem,L,J,M,E,aY k];exact⟨⟨k+1,j',_,u,rfl,rfl,S2⟩,by simp only[aF];omega⟩
  have h4:d.kind≠4:=by simpa using hb
  rw[show EQ d=none from(if_neg h3).trans (if_neg h4)]at hs;simp only[go_sem,L,J,M,E,aY k];refine⟨⟨k+1,j,f,u,rfl,rfl,?_⟩,by simp only[aF];omega⟩;rw[hs];simpa using Z
 have F:=geB hk (by simpa using F);subst F;rw[Xai]at S;simp only[go_sem,L,J,M,E];refine hK j f _ ?_;unfold mU;rw[hB,al,ak];exact S
abbrev zY(jc jr:Nat):Row:=⟨173,2,[[.os jc,.os jr]]⟩
def AF(r:PRow)(n:Int):PRow:=⟨r.coef++[n],r.kind,r.right⟩
def lO(rows:List PRow)(col:List Int):Nat->List PRow
 | 0=>rows
 | k+1=>(lO rows col k).set k (AF (rows.getD k ⟨[],0,0⟩) (col.getD k 0))
def kP(rows:List PRow)(col:List Int):∀k,(lO rows col k).length=rows.length
 | 0=>rfl
 | k+1=>by rw[lO,Xal,kP rows col k]
def yB(rows:List PRow)(col:List Int):∀k i,(lO rows col k)[i]?=if i<k then(rows[i]?).map (fun r=>AF r (col.getD i 0))else rows[i]?
 | 0,i=>by rw[if_neg (by omega)];rfl
 | k+1,i=>by
  rw[lO,List.getElem?_set,kP];by_cases e:k=i
  ·subst e;rw[if_pos rfl,if_pos (show k<k+1 by omega)];by_cases u:k<rows.length
   ·rw[if_pos u,List.getD,List.getElem?_eq_getElem u];rfl
   ·rw[if_neg u,List.getElem?_eq_none (show rows.length<=k by omega)];rfl
  ·rw[if_neg e,yB rows col k i];by_cases hi:i<k
   ·rw[if_pos hi,if_pos (by omega)]
   ·rw[if_neg hi,if_neg (by omega)]
structure AddS(H0 H:aD)(jp jc jr:Nat)(f:Nat->Nat)(n:Nat)(jc':Nat)(f':Nat->Nat)(cost:List Int)(rows:List PRow)(k:Nat):Prop where
 p:H jp=some (zY jc' jr)
 c:H jc'=some (fC cost)
 lin:LinH H jr f' rows
 fc:∀i,i<rows.length->f' i≠jc'
 rest:∀i,k<=i->f' i=f i
 keep:∀q row,q≠jp->q≠jc->q≠jr->(∀i,i<n->q≠f i)->H0 q=some row->H q=some row
def AddS.step{H0 H:aD}{jp jc jr:Nat}{f:Nat->Nat}{n jc':Nat}{f':Nat->Nat}{cost:List Int}{rows:List PRow}{k:Nat}(S:AddS H0 H jp jc jr f n jc' f' cost rows k)(hn:n=rows.length){r:PRow}(hr:rows[k]?=some r){L:Nat}
  (u:H L=none) (m:Int):AddS H0 (aE (aE (aE H (f' k) none) L (some (fC (r.coef++[m])))) jr (some ⟨235,3,(rows.mapIdx (iS f')).set k [.os L,int r.kind,int r.right]⟩)) jp jc jr f n jc' (qW f' k L) cost (rows.set k (AF r m)) (k+1):=by
 have Z:=(List.getElem?_eq_some_iff.1 hr).1;have ag:=S.lin.coef k r hr;have ab:jp≠jr:=fun e=>by have h1:=S.p;rw[e,S.lin.row]at h1;have h2:(pZ f' rows).e=(zY jc' jr).e:=congrArg Row.e (Option.some.inj h1);exact absurd (show(235:Nat)=173 from h2) (by decide)
 have aa:jp≠f' k:=fun e=>by have h1:=S.p;rw[e,ag]at h1;have h2:(fC r.coef).e=(zY jc' jr).e:=congrArg Row.e (Option.some.inj h1);exact absurd (show(3:Nat)=173 from h2) (by decide)
 have ae:jc'≠jr:=fun e=>by have h1:=S.c;rw[e,S.lin.row]at h1;have h2:(pZ f' rows).e=(fC cost).e:=congrArg Row.e (Option.some.inj h1);exact absurd (show(235:Nat)=3 from h2) (by decide)
 have af:jp≠L:=fun e=>by rw[<-e,S.p]at u;cases u
 have O:jc'≠L:=fun e=>by rw[<-e,S.c]at u;cases u
 have ac:jr≠L:=fun e=>by rw[<-e,S.lin.row]at u;cases u
 refine⟨?_,?_,⟨?_,fun i r2 F=>?_,fun i l hi hl E=>?_⟩,fun i hi=>?_,fun i hi=>?_,fun q row q1 q2 q3 q4 hq=>?_⟩
 ·rw[aC _ _ _ _ ab,aC _ _ _ _ af,aC _ _ _ _ aa];exact S.p
 ·rw[aC _ _ _ _ ae,aC _ _ _ _ O,aC _ _ _ _ (S.fc k Z).symm];exact S.c
 ·rw[aB];exact congrArg (fun l=>some (⟨235,3,l⟩:Row)) (M4 f' rows k L r (r.coef++[m]) hr)
 ·rw[List.getElem?_set]at F;unfold qW;by_cases e:k=i
  ·subst e;rw[if_pos rfl,if_pos Z]at F;rw[if_pos rfl,aC _ _ _ _ ac.symm,aB];have:r2=AF r m:=(Option.some.inj F).symm;rw[this];rfl
  ·rw[if_neg e]at F;have hh:=S.lin.coef i r2 F;have M:=(List.getElem?_eq_some_iff.1 F).1;rw[if_neg (fun h=>e h.symm),aC _ _ _ _ (S.lin.ne M),aC _ _ _ _ (fun h=>by rw[h,u]at hh;cases hh),aC _ _ _ _ (fun h=>e (S.lin.inj k i Z M h.symm))];exact hh
 ·rw[Xal]at hi hl;have J:∀i,i<rows.length->f' i≠L:=fun i hi e=>by obtain⟨r,hr⟩:=bG hi;have:=S.lin.coef i r hr;rw[e,u]at this;cases this
  unfold qW at E;by_cases e1:i=k
  ·by_cases e2:l=k
   ·omega
   ·rw[if_pos e1,if_neg e2]at E;exact absurd E.symm (J l hl)
  ·by_cases e2:l=k
   ·rw[if_neg e1,if_pos e2]at E;exact absurd E (J i hi)
   ·rw[if_neg e1,if_neg e2]at E;exact S.lin.inj i l hi hl E
 ·rw[Xal]at hi;unfold qW;by_cases e:i=k
  ·rw[if_pos e];exact O.symm
  ·rw[if_neg e];exact S.fc i hi
 ·unfold qW;rw[if_neg (by omega)];exact S.rest i (by omega)
 ·have hh:=S.keep q row q1 q2 q3 q4 hq;rw[aC _ _ _ _ q3,aC _ _ _ _ (fun h=>by rw[h,u]at hh;cases hh),aC _ _ _ _ (fun h=>q4 k (by omega) (h.trans (S.rest k (Xad _))))];exact hh
def RA(f:Nat->Nat)(rows:List PRow){k:Nat}{r:PRow}(h:rows[k]?=some r):(rows.mapIdx (iS f)).getD k []=iS f k r:=by rw[List.getD,List.getElem?_mapIdx,h];rfl
def TI(n:Int)(col:List Int)(jp jc jr:Nat)(f:Nat->Nat)(cost:List Int)(rows:List PRow)(H0:aD)(K:AV->aD->Prop)(Hp:H0 jp=some (zY jc jr))(Hc:H0 jc=some (fC cost))(L:LinH H0 jr f rows)(ay:∀i,i<rows.length->f i≠jc)
  (a6:col.length=rows.length) (hl:col.length<=1048576) (a9:cost.length<=1048576) (au:∀r∈rows,r.coef.length<=1048576)
  (hK:∀a jc' f' Hn,AddS H0 Hn jp jc jr f rows.length jc' f' (cost++[n]) (lO rows col col.length) col.length->K a Hn):
  aI prog 124 [int n,.sl (col.map aP),.op jp 0 0] H0 K:=by
 refine aI.body (c:=f124.body.getD .skip) (fun _=>false) mixed func124 rfl (by kernel_rfl) ?_;unfold f124;simp only[Xag];simp only[go_sem];simp only[Hp,go_sem];refine cD Hc ⟨rfl,rfl⟩ ⟨rfl,trivial⟩ (by simp only[Xaa,Xae,List.length_nil];omega) (fun j' O=>?_);have ar:jp≠jc:=fun e=>by have h1:=Hp;rw[e,Hc]at h1;have h2:(fC cost).e=(zY jc jr).e:=congrArg Row.e (Option.some.inj h1);exact absurd (show(3:Nat)=173 from h2) (by decide)
 have a4:jr≠jc:=fun e=>by have h1:=L.row;rw[e,Hc]at h1;have h2:(fC cost).e=(pZ f rows).e:=congrArg Row.e (Option.some.inj h1);exact absurd (show(3:Nat)=235 from h2) (by decide)
 have aa:jr≠jp:=fun e=>by have h1:=L.row;rw[e,Hp]at h1;have h2:(zY jc jr).e=(pZ f rows).e:=congrArg Row.e (Option.some.inj h1);exact absurd (show(173:Nat)=235 from h2) (by decide)
 have an:=Bq (r':=(⟨3,1,(fC cost).es++[[int n]]⟩:Row)) Hp ar.symm O;simp only[go_sem];refine cC PZ an ⟨by simp,rfl,by simp⟩ ?_;have S:AddS H0 (aE (aE (aE H0 jc none) j' (some (⟨3,1,(fC cost).es++[[int n]]⟩:Row))) jp (some (zY j' jr))) jp jc jr f rows.length j' f (cost++[n]) rows 0:=by
  have ab:jp≠j':=aO Hp O;have a0:jr≠j':=aO L.row O;have am:∀i,i<rows.length->f i≠j':=fun i hi e=>by obtain⟨r,M⟩:=bG hi;have:=L.coef i r M;rw[e,O]at this;cases this
  have av:∀i,i<rows.length->f i≠jp:=fun i hi e=>by obtain⟨r,M⟩:=bG hi;have h1:=L.coef i r M;rw[e,Hp]at h1;have h2:(zY jc jr).e=(fC r.coef).e:=congrArg Row.e (Option.some.inj h1);exact absurd (show(173:Nat)=3 from h2) (by decide)
  refine⟨aB _ _ _,?_,⟨?_,fun i r M=>?_,L.inj⟩,am,fun _ _=>rfl,fun q row q1 q2 q3 q4 hq=>?_⟩
  ·rw[aC _ _ _ _ ab.symm,aB];exact congrArg (fun l=>some (⟨3,1,l⟩:Row)) (Xak (f:=aP) (l₁:=cost) (l₂:=[n])).symm
  ·rw[aC _ _ _ _ aa,aC _ _ _ _ a0,aC _ _ _ _ a4];exact L.row
  ·have hi:=(List.getElem?_eq_some_iff.1 M).1;rw[aC _ _ _ _ (av i hi),aC _ _ _ _ (am i hi),aC _ _ _ _ (ay i hi)];exact L.coef i r M
  ·rw[aC _ _ _ _ q1,aC _ _ _ _ (aO hq O),aC _ _ _ _ q2];exact hq
 generalize hG:aE (aE (aE H0 jc none) j' _) jp _=HG;replace S:AddS H0 HG jp jc jr f rows.length j' f (cost++[n]) rows 0:=by rw[<-hG];exact S
 clear hG an O;simp only[go_sem,Xaa];refine⟨fun ρ H=>∃(k:Nat) (jc':Nat) (f':Nat->Nat),k<=col.length/\ρ 2=.op jp 0 0/\ρ 13=.sl (col.map aP)/\ρ 14=int (col.length:Nat)/\ρ 15=int k/\AddS H0 H jp jc jr f rows.length jc' f' (cost++[n]) (lO rows col k) k,fun ρ _=>col.length-aW (ρ 15),⟨0,j',f,Xab _,by simp only[go_sem],by simp only[go_sem],by simp only[go_sem,Xaa],(by simp only[go_sem];rfl),S⟩,?_⟩;rintro ρ H ⟨k,jc',f',hk,e2,E,J,F,S⟩;simp only[go_sem,e2,E,J,F];refine aA (fun Z=>?_) (fun ag=>?_)
 ·have Z:=ltB (by simpa using Z);obtain⟨m,hm⟩:=bG Z;have b1:=inB Z;obtain⟨r,M⟩:=bG (l:=lO rows col k) (k:=k) (by rw[kP];omega);have b2:(0:Int)<=(k:Int)/\(k:Int)<((lO rows col k).length:Int):=by rw[kP];omega
  have ao:rows[k]?=some r:=by rw[yB,if_neg (by omega)]at M;exact M
  have a7:=au r (Xaf ao);have ai:lO rows col (k+1)=(lO rows col k).set k (AF r m):=by rw[lO,List.getD,ao,List.getD,hm];rfl
  have ap:=kP rows col k;generalize lO rows col k=rowsK at *;have aj:=RA f' rowsK M;simp only[go_sem,e2,E,J,F,aJ hm,b1];refine oF [jp] (.q 0 (.q 1 (.q 2 (.q 3 (.q 4 (.q 5 (.q 9 (.a2 6 (.q 7 (.a2 8 (.a1 10 (.a1 11 (.a1 12 (.a1 13 (.a1 14 .nil))))) 10 (.a1 8 (.a1 11 (.a1 12 (.a1 13 (.a1 14 .nil))))))) 10 (.a1 6 (.q 7 (.a1 8 (.a1 11 (.a1 12 (.a1 13 (.a1 14 .nil))))))))))))))) (by simp[S.p]) (by kernel_rfl) fun Hp Hr hp hq a8 ba=>?_
  have Pp:=(hp jp (by simp)).trans S.p;simp only[go_sem,e2,E,J,F,Pp];have ak:f' k≠jp:=fun e=>by have h1:=S.lin.coef k r M;rw[e,S.p]at h1;have h2:(zY jc' jr).e=(fC r.coef).e:=congrArg Row.e (Option.some.inj h1);exact absurd (show(173:Nat)=3 from h2) (by decide)
  have Rr:Hr jr=some (pZ f' rowsK):=(hq jr (by simpa using aa)).trans S.lin.row;have Rk:Hr (f' k)=some (fC r.coef):=(hq (f' k) (by simpa using ak)).trans (S.lin.coef k r M);have az:f' k≠jr:=S.lin.ne (by omega);have aw:∀(u:Nat) (G:aD),Hr u=none->G=aE (aE (aE Hr (f' k) none) u (some (fC (r.coef++[m])))) jr (some ⟨235,3,(rowsK.mapIdx (iS f')).set k [.os u,int r.kind,int r.right]⟩)->(∀q,q∈[jp]->G q=none)->∀Hm:aD,(∀q,q∈[jp]->Hm q=H q)->(∀q,¬q∈[jp]->Hm q=G q)->AddS H0 Hm jp jc jr f rows.length jc' (qW f' k u) (cost++[n]) (lO rows col (k+1)) (k+1):=by
   intro u G aq hG hd Hm ae af;have ab:jp≠u:=fun e=>by have:=hd jp (by simp);rw[hG,aC _ _ _ _ aa.symm,e,aB]at this;cases this
   have a5:H u=none:=by rw[<-hq u (by simpa using ab.symm)];exact aq
   have S2:=S.step ap.symm M a5 m;rw[ai];have eM:Hm=aE (aE (aE H (f' k) none) u (some (fC (r.coef++[m])))) jr (some ⟨235,3,(rowsK.mapIdx (iS f')).set k [.os u,int r.kind,int r.right]⟩):=by
    funext q;by_cases ah:q=jp
    ·subst ah;rw[ae q (by simp),aC _ _ _ _ aa.symm,aC _ _ _ _ ab,aC _ _ _ _ ak.symm]
    ·rw[af q (by simpa using ah),hG];simp only[aE];rw[hq q (by simpa using ah)]
   rw[eM];exact S2
  repeat' (first|(refine fY ?_ ?_)|(simp only[go_sem,e2,E,J,F,Rr,List.length_mapIdx,b2,aj]))
  all_goals
   refine⟨by omega,cD Rk ⟨rfl,rfl⟩ ⟨rfl,trivial⟩ (by simp only[Xaa,Xae,List.length_nil];omega) (fun u ac=>?_)⟩;have ax:Hr u=none:=ac;have al:=Bq (r':=(⟨3,1,(fC r.coef).es++[[int m]]⟩:Row)) Rr az ac;simp only[go_sem,e2,E,J,F,al,List.length_mapIdx,b2];refine cC PZ al ⟨by rw[List.length_mapIdx];omega,rfl,by simp⟩ ?_;rw[aj];simp only[go_sem];refine eK fun hd Hm ae af=>?_
   have S3:=aw u _ ax (by rw[show(fC (r.coef++[m]))=(⟨3,1,(fC r.coef).es++[[int m]]⟩:Row)from congrArg (fun l=>(⟨3,1,l⟩:Row)) (Xak (f:=aP) (l₁:=r.coef) (l₂:=[m]))]) hd Hm ae af;simp only[go_sem,e2,E,J,F,aY k];exact⟨⟨k+1,jc',_,Z,rfl,S3⟩,by simp only[aF];omega⟩
 have ag:=geB hk (by simpa using ag);subst ag;simp only[go_sem,e2,E,J,F];exact hK _ jc' f' _ S
def Lz(n N:Int):Bool:=decide (n<0)||decide (n>=N)
def iK(s:Score):(bY s).length=4:=(rfl)
def pT(s:Score):(bY s).getD 0 .any=int s.cost:=(rfl)
def qG(s:Score):(bY s).getD 1 .any=int s.moved:=(rfl)
def rB(s:Score):(bY s).getD 2 .any=int s.other:=(rfl)
def qB(s:Score):(bY s).getD 3 .any=int s.work:=(rfl)
def lR(s:Score):(bY s).take 4=bY s:=(rfl)
def fD:Score:=⟨0,0,0,0⟩
def iH(o:Order):Score×Int:=if o.off=true then(fD,9)else if(o.penalty == -1)=true then(fD,23)else(⟨o.penalty,if(o.now != -1)=true then 1 else 0,0,0⟩,0)
def gA(x:Instance)(k:Int):Score×Int:=if Lz k x.orders.length=true then(fD,2)else match x.orders[k.toNat]? with|some o=>iH o|none=>(fD,2)
def Gz(x:Instance)(k:Int):PC prog 100 [.agg (aH x),int k] (.tup [.agg (bY (gA x k).1),int (gA x k).2]):=by
 refine pcd func100 rfl rfl ?_;simp only[go_sem];refine aL fun j hj=>?_
 have R:=aB bJ j (some (⟨208,4,[[int 0,int 0,int 0,int 0]]⟩:Row));generalize aE bJ j _=H0 at R |-;clear hj;simp only[go_sem];refine aA (fun h1=>?_) (fun h1=>?_)
 ·have e:gA x k=(fD,2):=if_pos h1;rw[e];simp only[go_sem];refine aZ R (by simp) ?_;simp only[go_sem];exact .refl _
 have O:0<=k/\k<(x.orders.length:Int):=by simp only[Xbq,decide_eq_false_iff_not]at h1;omega
 obtain⟨o,ho⟩:=bG (show k.toNat<x.orders.length by omega);have e:gA x k=iH o:=by unfold gA;rw[if_neg (by rw[show Lz k x.orders.length=false from h1];simp),ho]
 rw[e];simp only[go_sem,aJ ho,O];refine aL fun i hi=>?_
 have L:j≠i:=aO R hi;simp only[go_sem];refine aZ (aB _ _ _) (by simp[wG]) ?_;generalize u:aE (aE H0 i _) i _=H1;have E:H1 i=some ⟨268,16,[bT o]⟩:=by rw[<-u,aB];rfl
 have R:H1 j=some ⟨208,4,[[int 0,int 0,int 0,int 0]]⟩:=by rw[<-u,aC _ _ _ _ L,aC _ _ _ _ L];exact R
 clear u hi;simp only[go_sem,E];refine aA (fun M=>?_) (fun M=>?_)
 ·have e:iH o=(fD,9):=if_pos M;rw[e];simp only[go_sem];refine aZ R (by simp) ?_;simp only[go_sem];exact .refl _
 simp only[go_sem,E];refine aA (fun h3=>?_) (fun h3=>?_)
 ·have e:iH o=(fD,23):=by unfold iH;rw[if_neg (by rw[M];simp),if_pos h3]
  rw[e];simp only[go_sem];refine aZ R (by simp) ?_;simp only[go_sem];exact .refl _
 have e:iH o=(⟨o.penalty,if(o.now != -1)=true then 1 else 0,0,0⟩,0):=by unfold iH;rw[if_neg (by rw[M];simp),if_neg (by rw[h3];simp)]
 rw[e];simp only[go_sem,E];refine aL fun q Z=>?_
 have F:j≠q:=aO R Z;have J:i≠q:=aO E Z;simp only[go_sem];refine aZ (aB _ _ _) (by simp) ?_;generalize u:aE (aE H1 q _) q _=H2;have R2:H2 q=some ⟨208,4,[[int o.penalty,int 0,int 0,int 0]]⟩:=by rw[<-u,aB];rfl
 have E:H2 i=some ⟨268,16,[bT o]⟩:=by rw[<-u,aC _ _ _ _ J,aC _ _ _ _ J];exact E
 have R:H2 j=some ⟨208,4,[[int 0,int 0,int 0,int 0]]⟩:=by rw[<-u,aC _ _ _ _ F,aC _ _ _ _ F];exact R
 clear u Z;simp only[go_sem,E,R2];refine aA (fun h4=>?_) (fun h4=>?_)
 ·simp only[go_sem];refine cC so3 R2 ⟨by simp,rfl,by simp⟩ ?_;simp only[go_sem];refine aZ (by rw[aC _ _ _ _ F];exact R) (by simp) ?_;simp only[go_sem];rw[if_pos h4];exact .refl _
 ·simp only[go_sem,R2];refine aZ R (by simp) ?_;simp only[go_sem];rw[if_neg (by rw[h4];simp)];exact .refl _
def VJ(s:Score):Int:=IntKind.i64.wrap (IntKind.i64.wrap (IntKind.i64.wrap (IntKind.i64.wrap (IntKind.i64.wrap (IntKind.i64.wrap (s.cost*16)+s.moved)*16)+s.other)*65536)+s.work)
def tP(s:Score):Int×Int:=if(decide (s.cost<0)||decide (s.moved<0)||decide (s.other<0)||decide (s.work<0))=true then(0,2)
 else if(decide (s.cost>1073741824)||decide (s.moved>=16)||decide (s.other>=16)||decide (s.work>=65536))=true then(0,4)else(VJ s,0)
def OY(s:Score):PC prog 171 [.agg (bY s)] (.agg (bY s)):=by
 refine pcd func171 rfl rfl ?_;simp only[go_sem];refine aL fun j u=>?_
 simp only[go_sem];refine aZ (aB _ _ _) (by simp) ?_;simp only[go_sem];exact .refl _
def Nf(s:Score):PC prog 101 [.agg (bY s)] (.tup [int (tP s).1,int (tP s).2]):=by
 refine pcd func101 rfl rfl ?_;simp only[go_sem];refine aN (OY s) ?_;simp only[go_sem];refine aL fun j M=>?_
 simp only[go_sem];refine iI M (by simp[iK]) fun aa (R:aa j=some (⟨289,4,[bY s]⟩)) N=>?_
 clear N M;simp only[go_sem,R];refine⟨fun ρ H=>∃(k:Nat),k<=4/\ρ 1=.rp (bY s) 0/\ρ 9=.agg (bY s)/\ρ 10=int k/\(∀e∈[s.cost,s.moved,s.other,s.work].take k,¬e<0),fun ρ _=>4-aW (ρ 10),⟨0,Xab _,by simp only[go_sem],by simp only[go_sem],(by simp only[go_sem];rfl),by simp⟩,?_⟩;rintro ρ H ⟨k,hk,J,L,u,Z⟩;simp only[go_sem,J,L,u];refine aA (fun E=>?_) (fun F=>?_)
 ·have E:k<4:=by simp at E;omega
  obtain⟨e,he⟩:=bG (l:=[s.cost,s.moved,s.other,s.work]) (show k<[s.cost,s.moved,s.other,s.work].length from E);have hg:(bY s).getD k .any=int e:=by
   have:bY s=[s.cost,s.moved,s.other,s.work].map fun n=>int n:=rfl
   rw[this,List.getD,List.getElem?_map,he];rfl
  simp only[go_sem,J,L,u];refine⟨by omega,by omega,?_⟩;rw[Nat.mul_one,hg];simp only[go_sem,J,L,u];refine aA (fun O=>?_) (fun O=>?_)
  ·simp only[go_sem];have hm:=Xaf he;simp only[Xao,List.not_mem_nil,or_false]at hm;have e:tP s=(0,2):=if_pos (by simp at O |-;rcases hm with h|h|h|h <;> omega);rw[e];exact .refl _
  ·simp only[go_sem,J,L,u,aY k];refine⟨⟨k+1,E,rfl,fU (p:=fun e:Int=>¬e<0) he (by simpa using O) Z⟩,by simp only[aF];omega⟩
 have F:k=4:=by simp at F;omega
 subst F;have O:¬(decide (s.cost<0)||decide (s.moved<0)||decide (s.other<0)||decide (s.work<0))=true:=by have h0:=Z s.cost (by simp);have h1:=Z s.moved (by simp);have h2:=Z s.other (by simp);have h3:=Z s.work (by simp);simp;omega
 unfold tP;rw[if_neg O];simp only[go_sem,J,L,u];refine aA (fun hc=>?_) (fun hc=>?_)
 ·rw[if_pos hc];simp only[go_sem];exact .refl _
 rw[if_neg (by rw[hc];simp)];simp only[go_sem,J,L,u];exact .refl _
end Nu
end Go.Proofs.YtmhpdppobocokaaGreatDoor
