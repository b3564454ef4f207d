import Derived.Lib.LaidIn
import Derived.MakeChecks
import Derived.Stop.LaidErr
import Derived.Test.YtdlijlecpopadaaGreatDoorCards
import Derived.Test.YtdlijlecpopadaaGreatDoorTie
import Derived.Deep.DeepHandedRow
import Derived.Deep.DeepWitnessRowRef
import Derived.SevenTiedAt
import Derived.Test.YtdlijlecpopadaaGreatDoorZu17
set_option linter.unusedSimpArgs false
set_option linter.unusedVariables false
set_option maxRecDepth 100000
section
namespace Go.Proofs.YtdlijlecpopadaaGreatDoor.Rx
open Go.Aw Go.Aw.D Go.Proofs Ty
open Sq
open Go.Nu
theorem abJ{n:Int}(h: -4096<=n/\n<=4096): -64<=Int.tdiv n 64/\Int.tdiv n 64<=64:=by
 by_cases h0:0<=n
 . rw[Xbp h0];omega
 . have e:Int.tdiv n 64= -(Int.tdiv (-n) 64):=by rw[Int.neg_tdiv];omega
   rw[e,Xbp (by omega)];omega
theorem Yq{n:Int}(h: -64<=n/\n<=64):0<=n*n/\n*n<=4096:=by
 have e:n*n=((n.natAbs*n.natAbs:Nat):Int):=by rw[Int.natCast_mul,Int.natAbs_mul_self']
 have:=Nat.mul_le_mul (show n.natAbs<=64 by omega) (show n.natAbs<=64 by omega);rw[e];omega
def sqW(e s:Int):Int:=Int.tdiv (e-s) 64*Int.tdiv (e-s) 64
section
variable{x:Instance}{k:Nat}{near:List Int}{du:Option (List ByteArray)}{dl:List ByteArray}{M:Nat}{cn:Int}{lim fnd:Bool}{le:ByteArray}{p p':Part}{q q':RP}{o:Nat}{dr:Bool}{v d:Rat}{miles:Int}
theorem An(h:Ctx x k near){n:Nat}(hn:n<=50)(O:Vl n p.value v){e m:Int}(he:0<=e/\e<=4096)(Y:0<=m/\m<=10000):
   Vl (n+1) (oY (wOf x k near du M) p e m) (v+(((((aC x k).fixed+(aC x k).perMile*m)+(aC x k).perTick*(e-(aC x k).start))*16777216+sqW e (aC x k).start:Int):Rat)):=by
 have E:=h.ty;have h1:=E.start;have h2:=E.close;obtain⟨f1,J,F⟩:=h.money;have Z:=tW J Y;have I: -4096<=e-(aC x k).start/\e-(aC x k).start<=4096:=by omega
 have b2: -409600<=(aC x k).perTick*(e-(aC x k).start)/\(aC x k).perTick*(e-(aC x k).start)<=409600:=by
   by_cases h0:0<=e-(aC x k).start
   . have:=tW F (c:=4096) ⟨h0,I.2⟩;omega
   . have:=tW F (b:= -(e-(aC x k).start)) (c:=4096) ⟨by omega,by omega⟩
     rw[Int.mul_neg]at this;omega
 have X:=abJ I;have b4:=Yq X;unfold oY XT JI;show Vl (n+1) (addV p.value (W (W (W (W ((aC x k).fixed+W ((aC x k).perMile*m))+W ((aC x k).perTick*W (e-(aC x k).start)))*16777216)+W (W (Int.tdiv (W (e-(aC x k).start)) 64)*W (Int.tdiv (W (e-(aC x k).start)) 64))))) _;rw[bP (n:=e-(aC x k).start) (by omega)];unfold sqW;generalize (aC x k).perTick*(e-(aC x k).start)=pt at *;generalize (aC x k).perMile*m=pm at *;generalize Int.tdiv (e-(aC x k).start) 64=tt at *;rw[bP (n:=tt) (by omega)];generalize tt*tt=t2 at *;rw[bP (n:=pm) (by omega),bP (n:=pt) (by omega),bP (n:=t2) (by omega),bP (n:=(aC x k).fixed+pm) (by omega),bP (n:=(aC x k).fixed+pm+pt) (by omega),bP (n:=((aC x k).fixed+pm+pt)*16777216) (by omega),bP (n:=((aC x k).fixed+pm+pt)*16777216+t2) (by omega)];exact O.addV (by omega) (by omega)
theorem Ua{O:Order}{i:Nat}{v:Visit}(h:v∈iU O (i:Nat)):∃d,v=⟨(i:Nat),d⟩/\(stR O d).place>=0:=by
 unfold iU at h;rcases Xaq.1 h with h|h
 . split at h
   . next E=>exact⟨false,by simpa using h,by simpa[stR]using E⟩
   . cases h
 . split at h
   . next E=>exact⟨true,by simpa using h,by simpa[stR]using E⟩
   . cases h
theorem Xj{w:Wk}{p:Part}{v:Visit}(h:((aF w.x v.order.toNat).off|| !mU w.t.skills (aF w.x v.order.toNat).skills)=true):(cH w p v).2=false:=by
 unfold cH;rw[if_pos (by rw[Bool.or_assoc,h,Bool.or_true])]
theorem VU(h:Ctx x k near):Rel x (aC x k) (fC (wOf x k near du M)) (Z5 (aC x k) (aC x k).cap.length)/\Val x k (fC (wOf x k near du M)) (Z5 (aC x k) (aC x k).cap.length) 0 0:=by
 have F:=h.ty;have h1:=F.start;have J:=F.close;refine⟨⟨rfl,rfl,rfl,rfl,rfl,?_,Nat.two_pow_pos _,⟨[⟨(aC x k).start,0⟩],⟨?_,?_,?_⟩,rfl⟩⟩,⟨yF.mono (by omega),yF.mono (by omega),?_,?_,?_,?_⟩⟩
 . show(List.replicate (aC x k).cap.length (0:Int)).length=rT x
   rw[Xcj,Ai h.acc h.kind]
 . intro c I
   have:c=⟨(aC x k).start,0⟩:=Xak.1 I;rw[this];exact Xak.2 rfl
 . intro m E
   rw[Xak.1 E];exact⟨⟨(aC x k).start,0⟩,Xak.2 rfl,rfl,Xaj _⟩
 . intro m E
   rw[Xak.1 E];refine⟨⟨h1.1,by show(aC x k).start<=8192;omega⟩,?_,by show(0:Int)<=4096;decide⟩;show -(12288*((0:Nat):Int))<=0;omega
 . show(0:Rat)=(((aC x k).perMile*0*16777216+(0*16+0)*65536:Int):Rat)-0
   rw[Int.mul_zero];grind
 . exact⟨Xaj 0,by show(0:Int)<=10000*((0:Nat):Int);omega⟩
 . exact⟨Xaj 0,by show(0:Int)<=((0:Nat):Int);omega⟩
 . exact⟨Xaj 0,by show(0:Int)<=((0:Nat):Int);omega⟩
end
end Go.Proofs.YtdlijlecpopadaaGreatDoor.Rx
end
section
namespace Go.Proofs.YtdlijlecpopadaaGreatDoor.Rx
open Go.Aw Go.Aw.D Go.Proofs Ty
open Sq
open Go.Nu
structure Cap(n:Int)(t:Nat)(r:Int):Prop where
 lo:n<=r
 hi:r<=n+t
 eq:n+t<=8192->r=n+t
 gt:n+t>8192->r>8192
theorem Same.leaf{w a:Rs}(h:Same w a)(q:RP):akK a q=akK w q:=by
 obtain⟨c,f,l,rfl⟩:=h.ex;rfl
theorem Td{x:Instance}(E:x.orders.length<=3):(dV x).length<=6:=by
 have:=BZ x x.orders.length;unfold dV;omega
end Go.Proofs.YtdlijlecpopadaaGreatDoor.Rx
end
section
namespace Go.Proofs.YtdlijlecpopadaaGreatDoor.Rx
open Go.Aw Go.Aw.D Go.Proofs Ty
open Sq
open Go.Nu
structure Min(l:List ByteArray)(found:Bool)(best:ByteArray):Prop where
 no:found=false->l=[]/\best=ByteArray.empty
 yes:found=true->best∈l/\∀r∈l,¬xW r best<0
def Hc(l:List ByteArray):Prop:=∀a∈l,cV a=true
section
variable{x:Instance}{k:Nat}{near:List Int}{du:Option (List ByteArray)}{dl:List ByteArray}{M:Nat}{cn:Int}{lim fnd:Bool}{le:ByteArray}{p p':Part}{q q':RP}{o:Nat}{dr:Bool}{v d:Rat}{miles:Int}
def Ok(x:Instance)(k:Nat)(M:Nat)(p:Part):Prop:=∃q,Rel x (aC x k) p q/\(∃v d,Val x k p q v d)/\q.visits<=M
theorem Fu(h:Ctx x k near):Ok x k M (fC (wOf x k near du M)):=by
 obtain⟨r,v⟩:=VU (du:=du) (M:=M) h;exact⟨_,r,⟨_,_,v⟩,Xab _⟩
def Vis(x:Instance)(v:Visit):Prop:=∃i d,v=⟨(i:Nat),d⟩/\i<x.orders.length/\(stR (aF x i) d).place>=0/\(aF x i).off=false
theorem EO{v:Visit}(E:v∈dV x):Vis x v:=by
 unfold dV at E;obtain⟨i,hi,E⟩:=Xbo.1 E;have hi:=Xap.1 hi;split at E
 . cases E
 . next I=>
   rw[BC hi]at E;obtain⟨d,e,F⟩:=Ua E;exact⟨i,d,e,hi,F,by simpa using I⟩
theorem C0{w:Wk}{p:Part}{v:Visit}(h:(cH w p v).2=true):mU w.t.skills (aF w.x v.order.toNat).skills=true/\p.visits<w.most:=by
 refine⟨?_,?_⟩
 . rw[<-Bool.not_eq_false]
   intro e;rw[Xj (by rw[e];simp)]at h;cases h
 . rcases Xbe p.visits w.most with h1|h1
   . exact h1
   . rw[Mp h1]at h;cases h
theorem Tj(h:Ctx x k near)(hd:DuB x.orders.length du dl)(hM:M<=15)(hp:Ok x k M p){u:Visit}(hu:Vis x u)(X:(cH (wOf x k near du M) p u).2=true):
   Ok x k M (cH (wOf x k near du M) p u).1/\(cH (wOf x k near du M) p u).1.visits=p.visits+1:=by
 obtain⟨q,r,⟨v,d,Z⟩,hq⟩:=hp;obtain⟨i,dr,rfl,hi,I,O⟩:=hu;obtain⟨E,F⟩:=C0 X;have E:mU (aC x k).skills (aF x ((i:Nat):Int).toNat).skills=true:=E;have F:p.visits<M:=F;rw[Xan,At h.ty.skills (h.acc.order _ (kT hi)).skills]at E;obtain⟨n1,n2⟩:=X1 (near:=near) (du:=du) (dl:=dl) (M:=M) (cn:=0) (lim:=false) (fnd:=false) (le:=ByteArray.empty) h r hi I O E F (by omega);obtain⟨r',Y,miles,a⟩:=n2 X;have aa:=r.visits;have J:(EY (sOf x k near dl M 0 false false ByteArray.empty) q i dr).1.visits=q.visits+1:=by rw[<-r'.visits,Y,r.visits]
 exact⟨⟨_,r',YY h hd hi Z (by omega) J a,by omega⟩,Y⟩
theorem Cc(h:Ctx x k near)(hM:M<=15)(hp:Ok x k M p)(E:(iR (wOf x k near du M) p).2.2=true):∃v m,Vl (3*p.visits+1) p.value v/\(0<=(iR (wOf x k near du M) p).1/\(iR (wOf x k near du M) p).1<=4096)/\m=(iR (wOf x k near du M) p).2.1/\m=mil x.net (aC x k) p.place (aC x k).dst/\(0<=m/\m<=10000):=by
 obtain⟨q,r,⟨v,d,hv⟩,hq⟩:=hp;obtain⟨R,hR,ab⟩:=r.clk;have hT:=h.ty;have aa:=r.visits;obtain⟨c1,c2⟩:=ajE (place:=p.place) (goal:=(aC x k).dst) (fun a F=>h.acc.arc a F) hT.rest (show p.visits<=16 by omega) hR (aC x k).close;have X:∀a∈(kQ x.net (aC x k) p.place (aC x k).dst (aC x k).close (eA (aC x k) R)).1,0<=a.time/\a.time<=4096:=fun a hm=>by
   rw[(B1 _ _ _ _ _ _).1]at hm;obtain⟨g1,g2,_⟩:=QJ (fun a F=>h.acc.arc a F) hT.rest (show p.visits<=16 by omega) hR hm;have:=hT.close;omega
 have I:(kQ x.net (aC x k) p.place (aC x k).dst (aC x k).close (eA (aC x k) R)).1≠[]->(kQ x.net (aC x k) p.place (aC x k).dst (aC x k).close (eA (aC x k) R)).2=mil x.net (aC x k) p.place (aC x k).dst:=fun Z=>(B1 _ _ _ _ _ _).2 Z
 have eE:iR (wOf x k near du M) p=if((p.visits:Int) == 0||(p.board:Int) != 0)=true then(0,0,false)
   else((bI x.net (aC x k) p.place (aC x k).dst p.clocks).1.foldl (lL (aC x k).close) (-1),(bI x.net (aC x k) p.place (aC x k).dst p.clocks).2,decide ((bI x.net (aC x k) p.place (aC x k).dst p.clocks).1.foldl (lL (aC x k).close) (-1)>=0)):=rfl
 rw[eE]at E |-;by_cases hb:((p.visits:Int) == 0||(p.board:Int) != 0)=true
 . rw[if_pos hb]at E;cases E
 rw[if_neg hb]at E |-;have J:=c1.1 (of_decide_eq_true E);obtain⟨c3,c4⟩:=c2 J;obtain⟨⟨a,F,O⟩,_⟩:=Hw J;have hh:=X a F;rw[O,<-c3]at hh;have Y:=wN h.mil (aC x k) p.place (aC x k).dst;refine⟨v,_,by rw[aa];exact hv.own,hh,rfl,?_,?_⟩
 . show(bI x.net (aC x k) p.place (aC x k).dst p.clocks).2=_
   rw[c4,I J]
 . show 0<=(bI x.net (aC x k) p.place (aC x k).dst p.clocks).2/\(bI x.net (aC x k) p.place (aC x k).dst p.clocks).2<=_
   rw[c4,I J];exact Y
theorem Gq(h:Ctx x k near)(O:M<=15)(F:Ok x k M p):Hc (mI (wOf x k near du M) p):=by
 intro a E;unfold mI at E;split at E
 . next J=>
   obtain⟨v,m,h1,Z,Y,h4,X⟩:=Cc h O F J;obtain⟨q,r,_,hq⟩:=F;have I:=r.visits;rw[Xak.1 E,<-Y];exact(An h (by omega) h1 Z X).right (by omega)
 . cases E
theorem CW(h:Ctx x k near)(I:DuB x.orders.length du dl)(F:M<=15):∀(f:Nat) (p:Part),Ok x k M p->Hc (vP (wOf x k near du M) (dV x) f p)
 | 0,p,hp=>Gq h F hp
 | f+1,p,hp=>by
   intro a E;rcases Xaq.1 (show a∈mI (wOf x k near du M) p++(dV x).flatMap fun v=>if(cH (wOf x k near du M) p v).2=true then vP (wOf x k near du M) (dV x) f (cH (wOf x k near du M) p v).1 else[]from E)with E|E
   . exact Gq h F hp a E
   . obtain⟨v,J,E⟩:=Xbo.1 E
     split at E
     . next O=>exact CW h I F f _ (Tj h I F hp (EO J) O).1 a E
     . cases E
end
end Go.Proofs.YtdlijlecpopadaaGreatDoor.Rx
end
section
namespace Go.Proofs.YtdlijlecpopadaaGreatDoor.Rx
open Go.Aw Go.Aw.D Go.Proofs Ty
open Sq
open Go.Nu
theorem adH{p q:Point}{t:Int}(hp:0<=p.t/\p.t<=4096/\p.t<=p.a/\p.a<=p.t+4096)(hq:0<=q.t/\q.t<=4096/\q.t<=q.a/\q.a<=q.t+4096)(ha:p.a<=q.a)(h1:p.t<=t)(h2:t<q.t):t<=Et p q t:=by
 unfold Et;have E:0<=t-p.t/\t-p.t<=4096:=by omega
 have F:0<=q.a-p.a/\q.a-p.a<=8192:=by omega
 have J:0<=(t-p.t)*(q.a-p.a):=Int.mul_nonneg E.1 F.1;have I:(t-p.t)*(q.a-p.a)<=4096*8192:=Int.mul_le_mul E.2 F.2 F.1 (by omega);have Z:(t-p.t)*((q.t-p.t)-(p.a-p.t))<=(t-p.t)*(q.a-p.a):=Xdf (by omega) E.1;have k2:(p.a-p.t)*(t-p.t)<=(p.a-p.t)*(q.t-p.t):=Xdf (by omega) (by omega);have k3:(t-p.t)*((q.t-p.t)-(p.a-p.t))=(t-p.t)*(q.t-p.t)-(p.a-p.t)*(t-p.t):=by rw[Int.mul_sub,Int.mul_comm (t-p.t) (p.a-p.t)]
 have X:((t-p.t)-(p.a-p.t))*(q.t-p.t)=(t-p.t)*(q.t-p.t)-(p.a-p.t)*(q.t-p.t):=Int.sub_mul _ _ _;rw[bP (n:=t-p.t) (by omega),bP (n:=q.a-p.a) (by omega),bP (n:=(t-p.t)*(q.a-p.a)) (by omega),bP (n:=q.t-p.t) (by omega)];have O:(t-p.t)-(p.a-p.t)<=((t-p.t)*(q.a-p.a)+q.t-p.t-1)/(q.t-p.t):=by
   rw[Int.le_ediv_iff_mul_le (by omega)];omega
 generalize (t-p.t)*(q.a-p.a)=m at *;rw[bP (n:=m+q.t) (by omega),bP (n:=m+q.t-p.t) (by omega),bP (n:=m+q.t-p.t-1) (by omega),Xbp (by omega)];have Y:0<=(m+q.t-p.t-1)/(q.t-p.t):=Int.ediv_nonneg (by omega) (by omega);have d1:(m+q.t-p.t-1)/(q.t-p.t)<=m+q.t-p.t-1:=Int.ediv_le_self _ (by omega);have e:IntKind.i64.wrap ((m+q.t-p.t-1)/(q.t-p.t))=(m+q.t-p.t-1)/(q.t-p.t):=bP (by omega);rw[e,bP (by omega)];omega
theorem TE{p:Point}{t:Int}(E:0<=p.t/\p.t<=4096/\p.t<=p.a/\p.a<=p.t+4096)(F:0<=t/\t<=12288):t<=xH p t:=by
 unfold xH;rw[bP (n:=t+p.a) (by omega),bP (by omega)];omega
theorem anR{l:List Point}{t:Int}(h:jK l=[])(I:0<=t/\t<=12288):t<=jT l t:=by
 have E:=KS h;have O:=E.len;unfold jT;rw[if_neg (by unfold A8;rw[h];simp;omega)];split
 . rename_i k J
   have F:=List.find?_some J;have X:=Xap.1 (List.mem_of_find?_eq_some J);simp only[pD,Xam,decide_eq_true_eq]at F;have:=E.mono k (by omega);exact adH (E.pt _ (qP (by omega))) (E.pt _ (qP (by omega))) this.2 F.1 F.2
 . split
   . exact TE (E.pt _ (qP (by omega))) I
   . exact TE (E.pt _ (qP (by omega))) I
theorem UA{t:Int}:∀(l:List Point) (s B:Int),(∀p∈l,0<=p.a/\p.a<=4096)->0<=s/\s<=B->B+4096*l.length<=1000000000000->s<=l.foldl (oX t) s
 | [],s,B,_,hs,_=>Xaj _
 | p::l,s,B,hp,hs,hB=>by
   have h1:=hp p (by simp);simp only[Xac,Xbg]at hB |-;have e:s<=oX t s p/\oX t s p<=B+4096:=by
     unfold oX;split
     . rw[bP (by omega)];omega
     . omega
   have:=UA (t:=t) l (oX t s p) (B+4096) (fun q E=>hp q (by simp[E])) (by omega) (by omega);omega
theorem V3{a:Arc}{t:Int}(h:ArcOk a)(E:0<=t/\t<=12288):t<=qQ a t:=by
 have h1:=TG h.travel E;have J:=h.slow;have I:=anR h.travel E;have:=UA (t:=t) a.slow _ 100000000 (fun p F=>(h.pt p F).2) h1 (by omega);unfold qQ;omega
theorem avI{n:Network}(I:∀a∈n.arcs,ArcOk a){p f g t:Int}(E:0<=t/\t<=12288)(h:(dH n p f g t).2.2=0):t<=(dH n p f g t).1:=by
 unfold dH at h |-;split
 . rename_i h1;rw[if_pos h1]at h;cases h
 . rename_i h1
   rw[if_neg h1]at h;split
   . exact Xaj _
   . rename_i J
     rw[if_neg J]at h;cases e:nP n p f g with
     | none=>rw[e]at h;cases h
     | some a=>
       have F:a∈n.arcs:=by
         unfold nP at e;exact List.mem_of_find?_eq_some e
       exact V3 (I a F) E
theorem Ew{s B:Int}(I:s=1\/s= -1)(J:0<=B/\B<=100000):∀{a b:List Int},(∀n∈b,0<=n/\n<=1000)->(∀n∈a,-B<=n/\n<=B)->∀n∈cR a b s,-(B+1000)<=n/\n<=B+1000
 | [],b,_,_=>by intro n E;simp[cR]at E
 | u::a,[],_,_=>by intro n E;simp[cR]at E
 | u::a,v::b,hb,ha=>by
   have h1:=hb v (by simp);have O:=ha u (by simp);intro n E;rcases Xbi.1 (show n∈W (u+W (s*v))::cR a b s from E)with rfl|E
   . rcases I with rfl|rfl
     . rw[Int.one_mul,bP (n:=v) (by omega),bP (by omega)];omega
     . rw[show(-1:Int)*v= -v by omega,bP (n:= -v) (by omega),bP (by omega)];omega
   . exact Ew I J (fun m F=>hb m (by simp[F])) (fun m F=>ha m (by simp[F])) n E
theorem Kc{s B:Int}(I:s=1\/s= -1)(J:0<=B/\B<=100000):∀{a E b:List Int},(∀n∈b,0<=n/\n<=1000)->(∀n∈a,-B<=n/\n<=B)->(∀n∈E,-B<=n/\n<=B)->a.length=E.length->(∀i,a.getD i 0<=E.getD i 0) ->
   (cR a b s).length=(cR E b s).length/\∀i,(cR a b s).getD i 0<=(cR E b s).getD i 0
 | [],[],b,_,_,_,_,_=>⟨rfl,fun i=>Xaj _⟩
 | [],_::_,_,_,_,_,hl,_=>by simp at hl
 | _::_,[],_,_,_,_,hl,_=>by simp at hl
 | u::a,u'::E,[],_,_,_,_,_=>⟨rfl,fun i=>Xaj _⟩
 | u::a,u'::E,v::b,hb,ha,ha',hl,hle=>by
   have h1:=hb v (by simp);have Y:=ha u (by simp);have h3:=ha' u' (by simp);have Z:u<=u':=hle 0;obtain⟨X,O⟩:=Kc (b:=b) I J (fun m F=>hb m (by simp[F])) (fun m F=>ha m (by simp[F])) (fun m F=>ha' m (by simp[F])) (show a.length=E.length by simpa using hl) (fun i=>hle (i+1));refine⟨by show(cR a b s).length+1=(cR E b s).length+1;rw[X],fun i=>?_⟩;cases i with
   | zero=>
     show W (u+W (s*v))<=W (u'+W (s*v));rcases I with rfl|rfl
     . rw[Int.one_mul,bP (n:=v) (by omega),bP (by omega),bP (by omega)];omega
     . rw[show(-1:Int)*v= -v by omega,bP (n:= -v) (by omega),bP (by omega),bP (by omega)];omega
   | succ i=>exact O i
theorem L4{a b c:List Int}(E:a.length=b.length)(h:∀i,a.getD i 0<=b.getD i 0)(F:pG b c=true):pG a c=true:=by
 unfold pG at *;rw[Xao]at *;intro i hi;have:=F i (by rw[<-E];exact hi);have:=h i;simp only[Xbh,decide_eq_false_iff_not]at *;omega
structure Good(x:Instance)(k M:Nat)(p:Part):Prop where
 ok:Ok x k M p
 lb:∀n∈p.load,-(1000*(p.visits:Int))<=n/\n<=1000*(p.visits:Int)
 sb:∀c∈p.clocks,(aC x k).start<=c.ready
structure Dom(fl:Bool)(p q:Part):Prop where
 place:p.place=q.place
 board:p.board=q.board
 mem:∀i,p.memory.testBit i=true->q.memory.testBit i=true
 visits:p.visits<=q.visits
 pos:0<q.visits->0<p.visits
 ll:p.load.length=q.load.length
 load:∀i,p.load.getD i 0<=q.load.getD i 0
 val:fl=true->jI p.value<=jI q.value
 clk:∀d∈q.clocks,∃c∈p.clocks,c.ready=d.ready/\c.since<=d.since
theorem Dom.refl(fl:Bool)(p:Part):Dom fl p p:=⟨rfl,rfl,fun _ h=>h,Xag _,fun h=>h,rfl,fun _=>Xaj _,fun _=>Rat.le_refl,fun d E=>⟨d,E,rfl,Xaj _⟩⟩
theorem Dom.trans{fl:Bool}{p q r:Part}(h:Dom fl p q)(g:Dom fl q r):Dom fl p r:=
 ⟨h.place.trans g.place,h.board.trans g.board,fun i hi=>g.mem i (h.mem i hi),Xah h.visits g.visits,fun h0=>h.pos (g.pos h0),h.ll.trans g.ll,fun i=>Int.le_trans (h.load i) (g.load i),fun e=>Rat.le_trans (h.val e) (g.val e),fun d E=>by
   obtain⟨c,F,h1,J⟩:=g.clk d E;obtain⟨b,I,X,O⟩:=h.clk c F;exact⟨b,I,by omega,by omega⟩⟩
def duV(du:Option (List ByteArray))(o:Nat):Rat:=match du with|none=>0|some l=>jI (l.getD o ByteArray.empty)
section
variable{x:Instance}{k:Nat}{near near':List Int}{du du':Option (List ByteArray)}{dl dl':List ByteArray}{M:Nat}{cn:Int}{lim fnd:Bool}{le:ByteArray}{p p':Part}{q q':RP}{o:Nat}{dr:Bool}{v d:Rat}{miles:Int}
theorem W8(E:DuB x.orders.length du dl)(O:o<x.orders.length){n:Nat}{a:ByteArray}(I:Vl n a v)(Y:n<=50):Vl (n+1) (Ax a o du) (v-duV du o):=by
 have X:=E.at O;have F:=E.right _ X;cases du with
 | none=>
   show Vl (n+1) a (v-0);rw[Xdg,Rat.neg_zero,Xco];exact I.mono (by omega)
 | some l=>
   have J:=E.some l rfl;subst J;exact(I.sub F (by omega)).2
theorem Dp(h:Ctx x k near)(r:Rel x (aC x k) p q)(Y:o<x.orders.length)(hp:(stR (aF x o) dr).place>=0)(E:(aF x o).off=false)(I:(cH (wOf x k near du M) p ⟨(o:Nat),dr⟩).2=true):
   oQ (aC x k).skills (aF x o).skills=true/\p.visits<M/\rK q o (bQ (aF x o) dr)=false/\pG (hY q (aF x o) dr) (aC x k).cap=true/\cH (wOf x k near du M) p ⟨(o:Nat),dr⟩=goP (wOf x k near du M) (rR x k near du p q o dr) (stR (aF x o) dr):=by
 obtain⟨F,J⟩:=C0 I;have F:mU (aC x k).skills (aF x ((o:Nat):Int).toNat).skills=true:=F;have J:p.visits<M:=J;rw[Xan,At h.ty.skills (h.acc.order _ (kT Y)).skills]at F;obtain⟨n1,Z,n3⟩:=BW (near:=near) (du:=du) (M:=M) h r Y hp E F J;cases O:rK q o (bQ (aF x o) dr)with
 | true=>rw[n1 O]at I;cases I
 | false=>
   cases X:pG (hY q (aF x o) dr) (aC x k).cap with
   | false=>rw[Z O X]at I;cases I
   | true=>exact⟨F,J,rfl,rfl,n3 O X⟩
theorem nK(p:Part)(q:RP)(o:Nat)(dr:Bool)(st:Stop):goP (wOf x k near du M) (rR x k near du p q o dr) st=({ rR x k near du p q o dr with clocks:=eC st (bI x.net (aC x k) p.place st.place p.clocks).1,place:=st.place,visits:=p.visits+1,value:=addV (rR x k near du p q o dr).value (W (W ((aC x k).perMile*(bI x.net (aC x k) p.place st.place p.clocks).2)*16777216)) },decide ((eC st (bI x.net (aC x k) p.place st.place p.clocks).1).length>0)):=rfl
theorem Kh(r:Rel x (aC x k) p q){c:Clk}(F:c∈p.clocks):(0<=c.ready/\c.ready<=8192)/\ -(12288*(p.visits:Int))<=c.since/\c.since<=4096:=by
 obtain⟨R,E,_⟩:=r.clk;exact E.rng _ (E.sub c F)
theorem Bp(h:Ctx x k near)(r:Rel x (aC x k) p q){c:Clk}(F:c∈both (aC x k) p.clocks):(0<=c.ready/\c.ready<=12288)/\ -(12288*(p.visits:Int))<=c.since/\c.since<=4096:=by
 have I:=h.ty.rest;obtain⟨e,E,rfl|rfl⟩:=nI.1 F
 . have:=Kh r E;omega
 . have:=Kh r E
   show(0<=W (e.ready+(aC x k).rest)/\W (e.ready+(aC x k).rest)<=12288)/\ -(12288*(p.visits:Int))<=0/\(0:Int)<=4096;rw[bP (by omega)];omega
theorem Nv(h:Ctx x k near)(F:o<x.orders.length)(J:(stR (aF x o) dr).place>=0):(0<=(stR (aF x o) dr).start/\(stR (aF x o) dr).start<=(stR (aF x o) dr).close)/\(stR (aF x o) dr).close<=4096/\0<=(stR (aF x o) dr).service/\(stR (aF x o) dr).service<=4096:=by
 have E:=h.acc.order _ (kT F);have I:fI (stR (aF x o) dr)=0:=by
   unfold stR;split
   . exact E.wdrop
   . exact E.wpick
 exact N1 I J
theorem tS(h:Ctx x k near)(r:Rel x (aC x k) p q)(sb:∀c∈p.clocks,(aC x k).start<=c.ready)(goal:Int):∀c∈(bI x.net (aC x k) p.place goal p.clocks).1,(aC x k).start<=c.ready:=by
 intro c I;rw[(kG _ _ _ _ _).1]at I;obtain⟨b,J,O⟩:=List.mem_filterMap.1 I;obtain⟨h1,X,_⟩:=Ab O;have E:=Bp h r J;have:=avI (fun a Y=>h.acc.arc a Y) E.1 h1;rw[<-X]at this;have hr:=h.ty.rest;have:(aC x k).start<=b.ready:=by
   obtain⟨e,F,rfl|rfl⟩:=nI.1 J
   . exact sb _ F
   . have h3:=sb _ F
     have Z:=Kh r F;show _<=W (e.ready+(aC x k).rest);rw[bP (by omega)];omega
 omega
theorem Zy(h:Ctx x k near)(r:Rel x (aC x k) p q)(lb:∀n∈p.load,-(1000*(p.visits:Int))<=n/\n<=1000*(p.visits:Int))(O:p.visits<=16)(J:o<x.orders.length):
   ∀n∈hY q (aF x o) dr,-(1000*((p.visits+1:Nat):Int))<=n/\n<=1000*((p.visits+1:Nat):Int):=by
 have I:=h.acc.order _ (kT J);have E:=(sH I.load).2;rw[r.load]at lb;unfold hY;split
 . intro n F
   have:=Ew (s:=1) (.inl rfl) (B:=1000*(p.visits:Int)) (by omega) E lb n F;omega
 . split
   . intro n F
     have:=Ew (s:= -1) (.inr rfl) (B:=1000*(p.visits:Int)) (by omega) E lb n F;omega
   . intro n F
     have:=lb n F;omega
theorem E1(h:Ctx x k near):Good x k M (fC (wOf x k near du M)):=by
 refine⟨Fu h,fun n F=>?_,fun c E=>?_⟩
 . rw[List.eq_of_mem_replicate (show n∈List.replicate (aC x k).cap.length (0:Int)from F)]
   show -(1000*((0:Nat):Int))<=0/\(0:Int)<=1000*((0:Nat):Int);omega
 . rw[Xak.1 (show c∈[(⟨(aC x k).start,0⟩:Clk)]from E)]
   exact Xaj _
theorem CK(h:Ctx x k near)(Z:DuB x.orders.length du dl)(hM:M<=15)(I:Good x k M p){u:Visit}(O:Vis x u)(J:(cH (wOf x k near du M) p u).2=true):
   Good x k M (cH (wOf x k near du M) p u).1/\(cH (wOf x k near du M) p u).1.visits=p.visits+1:=by
 obtain⟨h1,Y⟩:=Tj h Z hM I.ok O J;refine⟨⟨h1,?_,?_⟩,Y⟩
 . rw[Y]
   obtain⟨q,r,_,hq⟩:=I.ok;have hv:=r.visits;obtain⟨i,dr,rfl,hi,E,F⟩:=O;obtain⟨_,_,_,_,e⟩:=Dp h r hi E F J;rw[e,nK];exact Zy h r I.lb (by omega) hi
 . obtain⟨q,r,_,hq⟩:=I.ok
   obtain⟨i,dr,rfl,hi,E,F⟩:=O;obtain⟨_,_,_,_,e⟩:=Dp h r hi E F J;rw[e,nK];intro c hc;obtain⟨b,hb,X,rfl⟩:=(qL _ _).1 c hc;have h3:=tS h r I.sb _ b hb;have hw:=Nv h hi E;have h5:=Un b.ready (stR (aF x i) dr).start;have h6:gA b.ready (stR (aF x i) dr).start<=(stR (aF x i) dr).close:=X;have h0:=h.ty.start;show _<=W (gA b.ready (stR (aF x i) dr).start+(stR (aF x i) dr).service);rw[bP (by omega)];omega
end
end Go.Proofs.YtdlijlecpopadaaGreatDoor.Rx
end
section
namespace Go.Proofs.YtdlijlecpopadaaGreatDoor.Rx
open Go.Aw Go.Aw.D Go.Proofs Ty
open Sq
open Go.Nu
section
variable{x:Instance}{k:Nat}{near near':List Int}{du du':Option (List ByteArray)}{dl dl':List ByteArray}{M:Nat}{cn:Int}{lim fnd:Bool}{le:ByteArray}{p q:Part}{a b:RP}{o:Nat}{dr:Bool}{v d:Rat}{miles:Int}{fl:Bool}
theorem Jj(h:Ctx x k near)(ra:Rel x (aC x k) p a)(rb:Rel x (aC x k) q b)(hv:q.visits<=16)(D:Dom fl p q)(goal:Int):
   ∀e∈(bI x.net (aC x k) q.place goal q.clocks).1,∃c∈(bI x.net (aC x k) p.place goal p.clocks).1,c.ready=e.ready/\c.since<=e.since:=by
 intro e he;rw[(kG _ _ _ _ _).1]at he;rw[(kG _ _ _ _ _).1];obtain⟨I,O,hf⟩:=List.mem_filterMap.1 he;obtain⟨h1,h2,h3,h4⟩:=Ab hf;have hb:=Bp h rb O;have ac:=GA (fun a ha=>h.acc.arc a ha) hb.1 h1;have ab:=D.visits;have aa:∃E∈both (aC x k) p.clocks,E.ready=I.ready/\E.since<=I.since:=by
   obtain⟨d0,X,rfl|rfl⟩:=nI.1 O
   . obtain⟨E,F,J,Y⟩:=D.clk _ X
     exact⟨E,nI.2 ⟨E,F,.inl rfl⟩,J,Y⟩
   . obtain⟨E,F,J,Y⟩:=D.clk _ X
     exact⟨oL (aC x k) E,nI.2 ⟨E,F,.inr rfl⟩,by show W (E.ready+_)=W (d0.ready+_);rw[J],Xaj _⟩
 obtain⟨E,F,J,Y⟩:=aa;have hc:=Bp h ra F;have e1:W (W (I.since+e.ready)-I.ready)=I.since+e.ready-I.ready:=by rw[bP (n:=I.since+e.ready) (by omega),bP (by omega)]
 have Z:W (W (E.since+e.ready)-E.ready)=E.since+e.ready-E.ready:=by rw[bP (n:=E.since+e.ready) (by omega),bP (by omega)]
 refine⟨⟨e.ready,W (W (E.since+e.ready)-E.ready)⟩,List.mem_filterMap.2 ⟨E,F,?_⟩,rfl,?_⟩
 . unfold CL
   rw[D.place,J,h1,<-h2];rw[J]at Z;rw[if_pos];simp only[Xbt,Xba,decide_eq_true_eq];rw[Z];rw[h3,e1]at h4;omega
 . show W (W (E.since+e.ready)-E.ready)<=e.since
   rw[Z,h3,e1];omega
theorem Rn{s:Stop}{l l':List Clk}(h:∀e∈l',∃c∈l,c.ready=e.ready/\c.since<=e.since):∀e∈eC s l',∃c∈eC s l,c.ready=e.ready/\c.since<=e.since:=by
 intro e Z;obtain⟨I,J,X,rfl⟩:=(qL s l').1 e Z;obtain⟨F,O,Y,g2⟩:=h I J;obtain⟨c,hc,E⟩:=(qL s l).2 F O (by unfold okC at *;rw[Y];exact X);have E:=nV.1 E;refine⟨c,hc,?_,?_⟩
 . rw[E.1];show W (gA F.ready s.start+s.service)=W (gA I.ready s.start+s.service);rw[Y]
 . have h1:c.since<=F.since:=E.2
   show c.since<=I.since;omega
theorem XM(h:Ctx x k near)(ra:Rel x (aC x k) p a)(rb:Rel x (aC x k) q b)(O:∀n∈p.load,-(1000*(p.visits:Int))<=n/\n<=1000*(p.visits:Int))(Z:∀n∈q.load,-(1000*(q.visits:Int))<=n/\n<=1000*(q.visits:Int))(hv:q.visits<=16)(D:Dom fl p q)(ho:o<x.orders.length):
   (hY a (aF x o) dr).length=(hY b (aF x o) dr).length/\∀i,(hY a (aF x o) dr).getD i 0<=(hY b (aF x o) dr).getD i 0:=by
 have hO:=h.acc.order _ (kT ho);have I:=(sH hO.load).2;have aa:=D.visits;have E:=D.ll;have F:=D.load;rw[ra.load]at O E F;rw[rb.load]at Z E F;have Y:∀n∈a.load,-(16000:Int)<=n/\n<=16000:=fun n J=>by have:=O n J;omega
 have X:∀n∈b.load,-(16000:Int)<=n/\n<=16000:=fun n J=>by have:=Z n J;omega
 unfold hY;split
 . exact Kc (.inl rfl) (by omega) I Y X E F
 . split
   . exact Kc (.inr rfl) (by omega) I Y X E F
   . exact⟨E,F⟩
def Cs(x:Instance)(k:Nat)(du:Option (List ByteArray))(o:Nat)(dr:Bool):Rat:=
 if bQ (aF x o) dr=true then(((dU (aF x o).now k*16+dU (aF x o).last k)*65536:Int):Rat)-duV du o else 0
theorem BO{a:Int}:0<=dU a k/\dU a k<=1:=by unfold dU;split <;> omega
theorem KG(J:DuB x.orders.length du dl)(O:o<x.orders.length){n:Nat}(Z:n<=48)(F:Vl n p.value v):Vl (n+2) (rR x k near du p a o dr).value (v+Cs x k du o dr):=by
 unfold rR Cs;simp only;by_cases E:bQ (aF x o) dr=true
 . rw[if_pos E,if_pos E]
   have X:=BO (k:=k) (a:=(aF x o).now);have Y:=BO (k:=k) (a:=(aF x o).last);have w1:=F.addV (n:=(dU (aF x o).now k*16+dU (aF x o).last k)*65536) (by omega) (by omega);have I:=W8 J O w1 (by omega);have e:v+(((dU (aF x o).now k*16+dU (aF x o).last k)*65536:Int):Rat)-duV du o=v+((((dU (aF x o).now k*16+dU (aF x o).last k)*65536:Int):Rat)-duV du o):=by
     generalize (((dU (aF x o).now k*16+dU (aF x o).last k)*65536:Int):Rat)=z;generalize duV du o=y
     grind
   rw[<-e];exact I
 . rw[if_neg E,if_neg E,Xco]
   exact F.mono (by omega)
theorem Xt(h:Ctx x k near)(h':Ctx x k near')(hd:DuB x.orders.length du dl)(ah:DuB x.orders.length du' dl')(hM:M<=15)
   (hN:∀o,o<x.orders.length->∀i,(near.getD o 0).toNat.testBit i=true->(near'.getD o 0).toNat.testBit i=true)
   (hD:fl=true->∀o,o<x.orders.length->duV du' o<=duV du o)
   (gp:Good x k M p) (gq:Good x k M q) (D:Dom fl p q) {u:Visit} (hu:Vis x u) (hn:(cH (wOf x k near' du' M) q u).2=true):
   (cH (wOf x k near du M) p u).2=true/\Dom fl (cH (wOf x k near du M) p u).1 (cH (wOf x k near' du' M) q u).1:=by
 obtain⟨a,ra,⟨va,da,O⟩,au⟩:=gp.ok;obtain⟨b,rb,⟨vb,db,Y⟩,av⟩:=gq.ok;obtain⟨i,dr,rfl,hi,J,ab⟩:=hu;obtain⟨ag,hl,E,hf,e⟩:=Dp h' rb hi J ab hn;have an:=rb.visits;have ap:=ra.visits;have ar:=D.visits;obtain⟨l1,l2⟩:=XM (dr:=dr) h ra rb gp.lb gq.lb (by omega) D hi;have fa:=L4 l1 l2 hf;have sa:rK a i (bQ (aF x i) dr)=false:=by
   have F:=D.mem i;have X:=D.board;rw[ra.memory,rb.memory,<-lX,<-lX]at F;rw[ra.board,rb.board]at X;unfold rK at E |-;rw[X];cases ai:kS a.memory i with
   | false=>
     cases Z:kS b.memory i with
     | false=>rw[Z]at E;exact E
     | true=>
       rw[Z]at E;cases af:bQ (aF x i) dr with
       | true=>rw[af]at E;cases kS b.board i <;> exact Bool.noConfusion E
       | false=>rw[af]at E;cases aj:kS b.board i <;> rw[aj]at E <;> first|rfl|exact E
   | true=>
     rw[F ai]at E;exact E
 have n3:=(BW (near:=near) (du:=du) (M:=M) h ra hi J ab ag (by omega)).2.2 sa fa;rw[e,nK]at hn;rw[n3,nK,e,nK];have ak:=Jj h ra rb (by omega) D (stR (aF x i) dr).place;have ad:=Rn (s:=stR (aF x i) dr) ak;have aa:(eC (stR (aF x i) dr) (bI x.net (aC x k) q.place (stR (aF x i) dr).place q.clocks).1)≠[]:=by
   have:(eC (stR (aF x i) dr) (bI x.net (aC x k) q.place (stR (aF x i) dr).place q.clocks).1).length>0:=of_decide_eq_true hn;exact Xcy.1 this
 have ae:(eC (stR (aF x i) dr) (bI x.net (aC x k) p.place (stR (aF x i) dr).place p.clocks).1)≠[]:=by
   obtain⟨e0,l,he⟩:=List.exists_cons_of_ne_nil aa;obtain⟨c,hc,_⟩:=ad e0 (by rw[he];simp);intro h0;rw[h0]at hc;cases hc
 have am:=(kG x.net (aC x k) q.place (stR (aF x i) dr).place q.clocks).2 (fun e=>aa (by rw[e];rfl));have al:=(kG x.net (aC x k) p.place (stR (aF x i) dr).place p.clocks).2 (fun e=>ae (by rw[e];rfl));refine⟨decide_eq_true (Xcy.2 ae),⟨rfl,?_,?_,?_,fun _=>Nat.succ_pos _,?_,?_,?_,ad⟩⟩
 . show(if bQ (aF x i) dr=true then(if gO (aF x i)=true then p.board+2^i else p.board)else p.board-2^i)=(if bQ (aF x i) dr=true then(if gO (aF x i)=true then q.board+2^i else q.board)else q.board-2^i)
   rw[D.board]
 . intro j
   show(if bQ (aF x i) dr=true then rI near p.memory i else p.memory).testBit j=true->(if bQ (aF x i) dr=true then rI near' q.memory i else q.memory).testBit j=true;split
   . unfold rI
     rw[Nat.testBit_or,Xcf,Nat.testBit_or,Xcf];simp only[Xbc,Xam];rintro(⟨m1,m2⟩|m3)
     . exact .inl ⟨D.mem j m1,hN i hi j m2⟩
     . exact .inr m3
   . exact D.mem j
 . show p.visits+1<=q.visits+1
   omega
 . exact l1
 . exact l2
 . intro ac
   have I:=D.val ac;have aq:=hD ac i hi;have b0:=tW h.money.2.1 (wN h.mil (aC x k) q.place (stR (aF x i) dr).place);show jI (addV (rR x k near du p a i dr).value (W (W ((aC x k).perMile*(bI x.net (aC x k) p.place (stR (aF x i) dr).place p.clocks).2)*16777216)))<=jI (addV (rR x k near' du' q b i dr).value (W (W ((aC x k).perMile*(bI x.net (aC x k) q.place (stR (aF x i) dr).place q.clocks).2)*16777216)));rw[al,am,D.place];generalize (aC x k).perMile*mil x.net (aC x k) q.place (stR (aF x i) dr).place=pm at *;rw[bP (n:=pm) (by omega),bP (n:=pm*16777216) (by omega)];have wp:=(KG (k:=k) (near:=near) (a:=a) (dr:=dr) hd hi (by omega) O.own).addV (n:=pm*16777216) (by omega) (by omega);have wq:=(KG (k:=k) (near:=near') (a:=b) (dr:=dr) ah hi (by omega) Y.own).addV (n:=pm*16777216) (by omega) (by omega);rw[wp.val,wq.val];rw[O.own.val,Y.own.val]at I;have ao:Cs x k du i dr<=Cs x k du' i dr:=by
     unfold Cs;split
     . generalize (((dU (aF x i).now k*16+dU (aF x i).last k)*65536:Int):Rat)=z
       generalize duV du i=y1 at *;generalize duV du' i=y2 at *
       grind
     . exact Rat.le_refl
   generalize Cs x k du i dr=y1 at *;generalize Cs x k du' i dr=y2 at *;generalize ((pm*16777216:Int):Rat)=z
   grind
theorem Oy{e E s:Int}(h0:s<=e)(h1:e<=E):sqW e s<=sqW E s:=by
 unfold sqW;rw[Xbp (by omega),Xbp (by omega)];have a1:0<=(e-s)/64:=by omega
 have a2:(e-s)/64<=(E-s)/64:=by omega
 exact Int.mul_le_mul a2 a2 a1 (by omega)
theorem abE(h:Ctx x k near)(h':Ctx x k near')(hM:M<=15)(gp:Good x k M p)(gq:Good x k M q)(D:Dom fl p q)(X:(iR (wOf x k near' du' M) q).2.2=true):
   (iR (wOf x k near du M) p).2.2=true/\(fl=true->jI (oY (wOf x k near du M) p (iR (wOf x k near du M) p).1 (iR (wOf x k near du M) p).2.1)<=jI (oY (wOf x k near' du' M) q (iR (wOf x k near' du' M) q).1 (iR (wOf x k near' du' M) q).2.1)):=by
 obtain⟨a,ra,_,aj⟩:=gp.ok;obtain⟨b,rb,_,ak⟩:=gq.ok;have ag:=rb.visits;have ah:=ra.visits;have ai:=D.visits;have eP:iR (wOf x k near du M) p=if((p.visits:Int) == 0||(p.board:Int) != 0)=true then(0,0,false)
   else((bI x.net (aC x k) p.place (aC x k).dst p.clocks).1.foldl (lL (aC x k).close) (-1),(bI x.net (aC x k) p.place (aC x k).dst p.clocks).2,decide ((bI x.net (aC x k) p.place (aC x k).dst p.clocks).1.foldl (lL (aC x k).close) (-1)>=0)):=rfl
 have Z:iR (wOf x k near' du' M) q=if((q.visits:Int) == 0||(q.board:Int) != 0)=true then(0,0,false)
   else((bI x.net (aC x k) q.place (aC x k).dst q.clocks).1.foldl (lL (aC x k).close) (-1),(bI x.net (aC x k) q.place (aC x k).dst q.clocks).2,decide ((bI x.net (aC x k) q.place (aC x k).dst q.clocks).1.foldl (lL (aC x k).close) (-1)>=0)):=rfl
 have E:¬((q.visits:Int) == 0||(q.board:Int) != 0)=true:=fun hb=>by rw[Z,if_pos hb]at X;cases X
 have aa:¬((p.visits:Int) == 0||(p.board:Int) != 0)=true:=by
   have:=D.pos;rw[D.board];simp only[Xbc,not_or,Xas,bne_iff_ne,ne_eq,Decidable.not_not]at E |-;exact⟨by omega,E.2⟩
 rw[if_neg E]at Z;rw[if_neg aa]at eP;have ab:=X;rw[Z]at X;have ad:=of_decide_eq_true X;have af:=Jj h ra rb (by omega) D (aC x k).dst;have sp:=tS h ra gp.sb (aC x k).dst;have sq:=tS h rb gq.sb (aC x k).dst;have hs:=h.ty.start;have hP:=vD (aC x k).close (bI x.net (aC x k) p.place (aC x k).dst p.clocks).1 [] (-1) (by simp) (fun c I=>by have:=sp c I;omega) (.inl ⟨rfl,by simp⟩);have hQ:=vD (aC x k).close (bI x.net (aC x k) q.place (aC x k).dst q.clocks).1 [] (-1) (by simp) (fun c I=>by have:=sq c I;omega) (.inl ⟨rfl,by simp⟩);rw[Xbd]at hP hQ;have F:(aC x k).start<=(bI x.net (aC x k) p.place (aC x k).dst p.clocks).1.foldl (lL (aC x k).close) (-1)/\(bI x.net (aC x k) p.place (aC x k).dst p.clocks).1.foldl (lL (aC x k).close) (-1)<=(bI x.net (aC x k) q.place (aC x k).dst q.clocks).1.foldl (lL (aC x k).close) (-1):=by
   rcases hQ with⟨O,_⟩|⟨⟨e,he,O,q2⟩,_⟩
   . rw[O]at ad;omega
   . obtain⟨c,I,g1,g2⟩:=af e he
     rcases hP with⟨_,p2⟩|⟨⟨c',ae,p1,p2⟩,p3⟩
     . exact absurd (by omega) (p2 c I)
     . have:=p3 c I (by omega)
       have:=sp c' ae;omega
 have Y:(iR (wOf x k near du M) p).2.2=true:=by
   rw[eP];exact decide_eq_true (by omega)
 refine⟨Y,fun ac=>?_⟩;obtain⟨vp,mp,p1,p2,p3,p4,p5⟩:=Cc h hM gp.ok Y;obtain⟨vq,mq,O,q2,q3,q4,q5⟩:=Cc h' hM gq.ok ab;have J:=D.val ac;rw[p1.val,O.val]at J;rw[<-p3,<-q3,(An h (by omega) p1 p2 p5).val,(An h' (by omega) O q2 q5).val];have e1:(iR (wOf x k near du M) p).1=(bI x.net (aC x k) p.place (aC x k).dst p.clocks).1.foldl (lL (aC x k).close) (-1):=by rw[eP]
 have e2:(iR (wOf x k near' du' M) q).1=(bI x.net (aC x k) q.place (aC x k).dst q.clocks).1.foldl (lL (aC x k).close) (-1):=by rw[Z]
 rw[<-e1,<-e2]at F;have hm:mp=mq:=by rw[p4,q4,D.place]
 subst hm;generalize (iR (wOf x k near du M) p).1=ep at *;generalize (iR (wOf x k near' du' M) q).1=eq at *;have k1:=Oy F.1 F.2;have k2:(aC x k).perTick*(ep-(aC x k).start)<=(aC x k).perTick*(eq-(aC x k).start):=Xdf (by omega) h.money.2.2.1;have k3:((aC x k).fixed+(aC x k).perMile*mp+(aC x k).perTick*(ep-(aC x k).start))*16777216+sqW ep (aC x k).start<=((aC x k).fixed+(aC x k).perMile*mp+(aC x k).perTick*(eq-(aC x k).start))*16777216+sqW eq (aC x k).start:=by
   generalize (aC x k).perTick*(ep-(aC x k).start)=t1 at *;generalize (aC x k).perTick*(eq-(aC x k).start)=t2 at *;generalize (aC x k).perMile*mp=t3 at *;omega
 have k4:=Rat.intCast_le_intCast.2 k3;generalize (((((aC x k).fixed+(aC x k).perMile*mp+(aC x k).perTick*(ep-(aC x k).start))*16777216+sqW ep (aC x k).start:Int)):Rat)=z1 at *;generalize (((((aC x k).fixed+(aC x k).perMile*mp+(aC x k).perTick*(eq-(aC x k).start))*16777216+sqW eq (aC x k).start:Int)):Rat)=z2 at *
 grind
theorem UP(h:Ctx x k near)(Y:Ctx x k near')(X:M<=15)(O:Good x k M p)(Z:Good x k M q)(D:Dom fl p q):
   (mI (wOf x k near' du' M) q).length<=(mI (wOf x k near du M) p).length/\(fl=true->∀r∈mI (wOf x k near' du' M) q,∃r'∈mI (wOf x k near du M) p,jI r'<=jI r):=by
 unfold mI;by_cases I:(iR (wOf x k near' du' M) q).2.2=true
 . obtain⟨k1,J⟩:=abE (du:=du) h Y X O Z D I
   rw[if_pos I,if_pos k1];refine⟨Xag _,fun E r F=>⟨_,Xak.2 rfl,?_⟩⟩;rw[Xak.1 F];exact J E
 . rw[if_neg I]
   exact⟨Xab _,fun _ r F=>by cases F⟩
end
end Go.Proofs.YtdlijlecpopadaaGreatDoor.Rx
end
section
namespace Go.Proofs.YtdlijlecpopadaaGreatDoor.Rx
open Go.Aw Go.Aw.D Go.Proofs Ty
open Sq
open Go.Nu
section
variable{x:Instance}{k:Nat}{near near':List Int}{du du':Option (List ByteArray)}{dl dl':List ByteArray}{M:Nat}{cn:Int}{lim fnd:Bool}{le:ByteArray}{p q:Part}{a b:RP}{o:Nat}{dr:Bool}{v d:Rat}{miles:Int}{fl:Bool}
theorem Good.num(g:Good x k M p)(J:M<=15):cV p.value=true:=by
 obtain⟨a,ra,⟨I,O,E⟩,F⟩:=g.ok;exact E.own.right (by omega)
theorem VV(h:Ctx x k near)(Z:M<=15)(Y:Good x k M p)(gq:Good x k M q)(h0:0<p.visits)(F:uL p q=true):Dom true p q:=by
 have np:=Y.num Z;have nq:=gq.num Z;obtain⟨a,ra,_,aa⟩:=Y.ok;obtain⟨b,rb,_,ab⟩:=gq.ok;unfold uL at F;split at F
 . cases F
 next I=>
 simp only[Xbc,not_or,bne_iff_ne,ne_eq,Decidable.not_not,Xbh,Bool.not_eq_false,decide_eq_true_eq]at I;obtain⟨⟨⟨⟨⟨c1,c2⟩,J⟩,c4⟩,E⟩,c6⟩:=I;have X:p.load.length=q.load.length:=by rw[ra.load,rb.load,ra.ll,rb.ll]
 refine⟨c1,by omega,fun i hi=>?_,by omega,fun _=>h0,X,fun i=>?_,fun _=>?_,fun e he=>?_⟩
 . have J:p.memory &&& q.memory=p.memory:=by simpa using J
   rw[<-J,Xcf,Xam]at hi;exact hi.2
 . have E:fE p.load q.load=true:=by simpa using E
   rw[vT X]at E;unfold pG at E;rw[Xao]at E;by_cases hi:i<p.load.length
   . have:=E i (Xap.2 hi)
     simp only[Xbh,decide_eq_false_iff_not]at this;omega
   . rw[List.getD,List.getD,List.getElem?_eq_none (by omega),List.getElem?_eq_none (by omega)]
     exact Xaj _
 . rw[<-TZ np nq];omega
 . obtain⟨c,I,O⟩:=Xau.1 (Xao.1 F e he)
   have:=nV.1 O;exact⟨c,I,this.1,this.2⟩
def Sub(w:Wk)(T:List ByteArray)(p:Part):Prop:=∀r∈vP w (dV w.x) (w.most-p.visits) p,r∈T
theorem Am{w:Wk}{vs:List Visit}{f:Nat}{r:ByteArray}(h:r∈mI w p):r∈vP w vs f p:=by
 cases f with
 | zero=>exact h
 | succ f=>exact Xca _ h
structure SInv(x:Instance)(k:Nat)(near:List Int)(du:Option (List ByteArray))(M:Nat)(T:List ByteArray)(s:Srch):Prop where
 kn:∀u∈s.known,Good x k M u/\0<u.visits/\Sub (wOf x k near du M) T u
 mem:s.found=true->s.best∈T
 no:s.found=false->s.best=ByteArray.empty
 min:∀u∈s.known,∀r∈mI (wOf x k near du M) u,s.found=true/\¬xW r s.best<0
structure SExt(x:Instance)(k:Nat)(near:List Int)(du:Option (List ByteArray))(M:Nat)(T:List ByteArray)(r:Nat)(s t:Srch):Prop where
 kn:∀u∈s.known,u∈t.known
 mo:∀u∈s.more,u∈t.more
 nw:∀u∈t.known,u∈s.known\/u∈t.more
 nm:∀u∈t.more,u∈s.more\/(Good x k M u/\Sub (wOf x k near du M) T u/\u.visits=r+1)
theorem SExt.refl{T:List ByteArray}{r:Nat}(s:Srch):SExt x k near du M T r s s:=⟨fun _ h=>h,fun _ h=>h,fun _ h=>.inl h,fun _ h=>.inl h⟩
theorem SExt.trans{T:List ByteArray}{r:Nat}{s t u:Srch}(h:SExt x k near du M T r s t)(g:SExt x k near du M T r t u):SExt x k near du M T r s u:=
 ⟨fun a E=>g.kn a (h.kn a E),fun a E=>g.mo a (h.mo a E),fun a E=>by
   rcases g.nw a E with E|E
   . rcases h.nw a E with E|E
     . exact .inl E
     . exact .inr (g.mo a E)
   . exact .inr E,fun a E=>by
   rcases g.nm a E with E|E
   . exact h.nm a E
   . exact .inr E⟩
theorem Y1{T:List ByteArray}{w:Wk}{u:Visit}(E:u∈dV w.x)(h:Sub w T p)(I:(cH w p u).2=true)(J:(cH w p u).1.visits=p.visits+1)(O:p.visits<w.most):Sub w T (cH w p u).1:=by
 intro r F;refine h r ?_;have e:w.most-p.visits=(w.most-(cH w p u).1.visits)+1:=by omega
 rw[e];exact Xdd _ (Xbo.2 ⟨u,E,by rw[if_pos I];exact F⟩)
theorem adC(h:Ctx x k near)(hM:M<=15){T:List ByteArray}(O:Hc T){s:Srch}(hi:SInv x k near du M T s)(gq:Good x k M q)(h0:0<q.visits)(hs:Sub (wOf x k near du M) T q):
   SInv x k near du M T (Bi (wOf x k near du M) s q):=by
 have I:mI (wOf x k near du M) q=if(iR (wOf x k near du M) q).2.2=true then[oY (wOf x k near du M) q (iR (wOf x k near du M) q).1 (iR (wOf x k near du M) q).2.1]else[]:=rfl;have aa:∀r∈mI (wOf x k near du M) q,r∈T:=fun r F=>hs r (Am F)
 have hk:∀u∈s.known++[q],Good x k M u/\0<u.visits/\Sub (wOf x k near du M) T u:=fun u E=>by
   rcases Xaq.1 E with E|E
   . exact hi.kn u E
   . rw[Xak.1 E];exact⟨gq,h0,hs⟩
 have ac:∀u∈s.known,∀r∈mI (wOf x k near du M) u,r∈T:=fun u E r F=>(hi.kn u E).2.2 r (Am F)
 unfold Bi;simp only;generalize oY (wOf x k near du M) q (iR (wOf x k near du M) q).1 (iR (wOf x k near du M) q).2.1=pr at *;by_cases Y:(iR (wOf x k near du M) q).2.2=true
 . rw[if_pos Y]at I
   have J:pr∈T:=aa pr (by rw[I];simp);rw[Y,Xba];split
   . next X=>
     refine⟨hk,fun _=>J,fun e=>(by cases e),fun u E r F=>⟨rfl,?_⟩⟩;show ¬xW r pr<0;rcases Xaq.1 E with E|E
     . obtain⟨f1,f2⟩:=hi.min u E r F
       have ab:=hi.mem f1;rw[f1]at X;have X:xW pr s.best<0:=by simpa using X
       have Z:=ac u E r F;rw[Bc (O _ Z) (O _ J)];have q1:=(Bc (O _ Z) (O _ ab)).1 f2;have q2:¬jI s.best<=jI pr:=fun hx=>(Bc (O _ J) (O _ ab)).2 hx X
       grind
     . rw[Xak.1 E,I]at F
       rw[Xak.1 F,Bc (O _ J) (O _ J)];exact Rat.le_refl
   . next X=>
     simp only[Xbc,not_or,Xbh,decide_eq_true_eq]at X;have hf:s.found=true:=by simpa using X.1
     refine⟨hk,hi.mem,hi.no,fun u E r F=>?_⟩;rcases Xaq.1 E with E|E
     . exact hi.min u E r F
     . rw[Xak.1 E,I]at F
       rw[Xak.1 F];exact⟨hf,X.2⟩
 . rw[if_neg Y]at I
   have Y:(iR (wOf x k near du M) q).2.2=false:=by simpa using Y
   rw[Y,Xcd,if_neg (by simp)];refine⟨hk,hi.mem,hi.no,fun u E r F=>?_⟩;rcases Xaq.1 E with E|E
   . exact hi.min u E r F
   . rw[Xak.1 E,I]at F
     cases F
theorem aeW(h:Ctx x k near)(hd:DuB x.orders.length du dl)(Y:M<=15){T:List ByteArray}(hT:Hc T){s:Srch}{r:Nat}(hi:SInv x k near du M T s)(gp:Good x k M p)(hs:Sub (wOf x k near du M) T p)(hr:p.visits=r){u:Visit}(hu:u∈dV x):
   SInv x k near du M T (vV (wOf x k near du M) p s u)/\SExt x k near du M T r s (vV (wOf x k near du M) p s u) /\
   ((cH (wOf x k near du M) p u).2=true->∃z∈(vV (wOf x k near du M) p s u).known,Dom true z (cH (wOf x k near du M) p u).1):=by
 by_cases F:(cH (wOf x k near du M) p u).2=true
 case neg=>
   have Z:(cH (wOf x k near du M) p u).2=false:=by simpa using F
   have e:vV (wOf x k near du M) p s u=s:=by unfold vV;simp only[Z,Xcr,Bool.true_or,if_true]
   rw[e];exact⟨hi,.refl s,fun h=>absurd h F⟩
 obtain⟨X,v1⟩:=CK h hd Y gp (EO hu) F;have s1:=Y1 (w:=wOf x k near du M) hu hs F v1 (C0 F).2;unfold vV;simp only[F,Xce,Xbu];generalize (cH (wOf x k near du M) p u).1=z at *;by_cases O:(s.known.any fun k=>uL k z)=true
 . rw[if_pos O]
   refine⟨hi,.refl s,fun _=>?_⟩;obtain⟨y,hy,hb⟩:=Xau.1 O;obtain⟨y1,y2,_⟩:=hi.kn y hy;exact⟨y,hy,VV h Y y1 X y2 hb⟩
 . rw[if_neg O]
   obtain⟨I,J,_⟩:=FT (wOf x k near du M) s z;refine⟨adC h Y hT hi X (by omega) s1,⟨fun a E=>by rw[I];exact Xca _ E,fun a E=>by rw[J];exact Xca _ E,fun a E=>?_,fun a E=>?_⟩,fun _=>⟨z,by rw[I];simp,.refl true z⟩⟩
   . rw[I]at E
     rcases Xaq.1 E with E|E
     . exact .inl E
     . rw[J];exact .inr (Xdd _ E)
   . rw[J]at E
     rcases Xaq.1 E with E|E
     . exact .inl E
     . rw[Xak.1 E];exact .inr ⟨X,s1,by omega⟩
def Nr(x:Instance)(k:Nat)(near:List Int)(du:Option (List ByteArray))(M:Nat)(s:Srch)(vs:List Visit)(p:Part):Prop:=
 ∀u∈vs,(cH (wOf x k near du M) p u).2=true->∃z∈s.known,Dom true z (cH (wOf x k near du M) p u).1
theorem Nr.ext{T:List ByteArray}{r:Nat}{s t:Srch}{vs:List Visit}(h:Nr x k near du M s vs p)(g:SExt x k near du M T r s t):Nr x k near du M t vs p:=fun u F E=>by
 obtain⟨z,I,D⟩:=h u F E;exact⟨z,g.kn z I,D⟩
theorem Nc(h:Ctx x k near)(J:DuB x.orders.length du dl)(Z:M<=15){T:List ByteArray}(Y:Hc T){r:Nat}(I:Good x k M p)(F:Sub (wOf x k near du M) T p)(hr:p.visits=r):
   ∀(l:List Visit),(∀u∈l,u∈dV x)->∀(s:Srch),SInv x k near du M T s ->
     SInv x k near du M T (l.foldl (vV (wOf x k near du M) p) s)/\SExt x k near du M T r s (l.foldl (vV (wOf x k near du M) p) s)/\Nr x k near du M (l.foldl (vV (wOf x k near du M) p) s) l p
 | [],_,s,hi=>⟨hi,.refl s,fun u hu=>by cases hu⟩
 | u::l,hl,s,hi=>by
   obtain⟨i1,e1,d1⟩:=aeW h J Z Y hi I F hr (hl u (by simp));obtain⟨i2,O,d2⟩:=Nc h J Z Y I F hr l (fun a E=>hl a (by simp[E])) _ i1;refine⟨i2,e1.trans O,fun a E X=>?_⟩;rcases Xbi.1 E with rfl|E
   . obtain⟨z,hz,D⟩:=d1 X
     exact⟨z,O.kn z hz,D⟩
   . exact d2 a E X
theorem Jk(h:Ctx x k near)(I:DuB x.orders.length du dl)(X:M<=15){T:List ByteArray}(O:Hc T){r:Nat}:
   ∀(l:List Part),(∀p∈l,Good x k M p/\Sub (wOf x k near du M) T p/\p.visits=r)->∀(s:Srch),SInv x k near du M T s ->
     SInv x k near du M T (l.foldl (fun s p=>(dV x).foldl (vV (wOf x k near du M) p) s) s)/\SExt x k near du M T r s (l.foldl (fun s p=>(dV x).foldl (vV (wOf x k near du M) p) s) s) /\
     ∀p∈l,Nr x k near du M (l.foldl (fun s p=>(dV x).foldl (vV (wOf x k near du M) p) s) s) (dV x) p
 | [],_,s,hi=>⟨hi,.refl s,fun u F=>by cases F⟩
 | p::l,hl,s,hi=>by
   obtain⟨g,Y,hr⟩:=hl p (by simp);obtain⟨i1,e1,d1⟩:=Nc h I X O g Y hr (dV x) (fun _ F=>F) s hi;obtain⟨i2,J,Z⟩:=Jk h I X O l (fun a E=>hl a (by simp[E])) _ i1;refine⟨i2,e1.trans J,fun a E=>?_⟩;rcases Xbi.1 E with rfl|E
   . exact d1.ext J
   . exact Z a E
theorem Fz(h:Ctx x k near)(hd:DuB x.orders.length du dl)(hM:M<=15){T:List ByteArray}(hT:Hc T){B:Part}:
   ∀(n r:Nat) (s:Srch) (fresh:List Part),r+n=M+1->SInv x k near du M T s->(∀p∈fresh,Good x k M p/\Sub (wOf x k near du M) T p/\p.visits=r) ->
     (∀u,u∈s.known\/u=B->Nr x k near du M s (dV x) u\/u∈fresh) ->
     SInv x k near du M T (kN (wOf x k near du M) (dV x) n s fresh)/\∀u,u∈(kN (wOf x k near du M) (dV x) n s fresh).known\/u=B->Nr x k near du M (kN (wOf x k near du M) (dV x) n s fresh) (dV x) u
 | 0,r,s,fresh,X,hi,hf,E=>by
   refine⟨hi,fun u F=>?_⟩;rcases E u F with E|E
   . exact E
   . obtain⟨⟨q,rq,_,hq⟩,_⟩:=(hf u E).1
     have:=rq.visits;have:=(hf u E).2.2;omega
 | n+1,r,s,fresh,X,hi,hf,E=>by
   unfold kN;by_cases Y:fresh=[]
   . rw[if_pos Y]
     refine⟨hi,fun u F=>?_⟩;rcases E u F with E|E
     . exact E
     . rw[Y]at E;cases E
   rw[if_neg Y];have Z:SInv x k near du M T { s with more:=[] }:=⟨hi.kn,hi.mem,hi.no,hi.min⟩;obtain⟨i1,J,d1⟩:=Jk h hd hM hT fresh hf { s with more:=[] } Z;have hR:A0 (wOf x k near du M) (dV x) s fresh=fresh.foldl (fun s p=>(dV x).foldl (vV (wOf x k near du M) p) s) { s with more:=[] }:=rfl;rw[<-hR]at i1 J d1;refine Fz h hd hM hT n (r+1) _ _ (by omega) i1 (fun p I=>?_) (fun u F=>?_)
   . rcases J.nm p I with I|I
     . cases I
     . exact I
   . have aa : (u ∈ s.known \/ u = B) \/ u ∈ (A0 (wOf x k near du M) (dV x) s fresh).more := by
       rcases F with F|F
       . rcases J.nw u F with F|F
         . exact .inl (.inl F)
         . exact .inr F
       . exact .inl (.inr F)
     rcases aa with O|O
     . rcases E u O with E|E
       . refine .inl fun a ha X=>?_
         obtain⟨z,hz,D⟩:=E a ha X;exact⟨z,J.kn z hz,D⟩
       . exact .inl (d1 u E)
     . exact .inr O
theorem abY(h:Ctx x k near)(hd:DuB x.orders.length du dl)(hM:M<=15){T:List ByteArray}(hT:Hc T){s:Srch}{B:Part}(hB:Good x k M B)(aa:B.visits=0)(hi:SInv x k near du M T s)(hc:∀u,u∈s.known\/u=B->Nr x k near du M s (dV x) u):
   ∀(f:Nat) (q:Part),Good x k M q->(∀r∈vP (wOf x k near du M) (dV x) f q,r∈T)->∀u,u∈s.known\/u=B->Dom true u q->∀r∈vP (wOf x k near du M) (dV x) f q,s.found=true/\¬xW r s.best<0:=by
 have leaf:∀(q:Part),Good x k M q->(∀r∈mI (wOf x k near du M) q,r∈T)->∀u,u∈s.known\/u=B->Dom true u q->∀r∈mI (wOf x k near du M) q,s.found=true/\¬xW r s.best<0:=by
   intro q Z I u F D r E;have gu:Good x k M u:=by
     rcases F with F|rfl
     . exact(hi.kn u F).1
     . exact hB
   obtain⟨r',h1,h2⟩:=(UP (du:=du) (du':=du) h h hM gu Z D).2 rfl r E;have O:u∈s.known:=by
     rcases F with F|rfl
     . exact F
     . exfalso
       unfold mI at h1;have:(iR (wOf x k near du M) u).2.2=false:=by
         unfold iR;rw[if_pos (by rw[aa];rfl)]
       rw[this]at h1;simp at h1
   obtain⟨f1,f2⟩:=hi.min u O r' h1;refine⟨f1,?_⟩;have Y:=hi.mem f1;have ab:=I r E;have J:=(hi.kn u O).2.2 r' (Am h1);rw[Bc (hT _ ab) (hT _ Y)];exact Rat.le_trans ((Bc (hT _ J) (hT _ Y)).1 f2) h2
 intro f;induction f with
 | zero=>exact leaf
 | succ f ih=>
   intro q Z I u F D r E;have X:∀r∈mI (wOf x k near du M) q,r∈T:=fun r E=>I r (Am E)
   rcases Xaq.1 (show r∈mI (wOf x k near du M) q++(dV x).flatMap fun v=>if(cH (wOf x k near du M) q v).2=true then vP (wOf x k near du M) (dV x) f (cH (wOf x k near du M) q v).1 else[]from E)with E|E
   . exact leaf q Z X u F D r E
   . obtain⟨a,ha,E⟩:=Xbo.1 E
     split at E
     . next hn=>
       have gu:Good x k M u:=by
         rcases F with F|rfl
         . exact(hi.kn u F).1
         . exact hB
       obtain⟨n1,D1⟩:=Xt h h hd hd hM (fun _ _ _ h=>h) (fun _ _ _=>Rat.le_refl) gu Z D (EO ha) hn;obtain⟨z,hz,D2⟩:=hc u F a ha n1;refine ih _ (CK h hd hM Z (EO ha) hn).1 (fun r E=>I r (Xdd _ (Xbo.2 ⟨a,ha,by rw[if_pos hn];exact E⟩))) z (.inl hz) (D2.trans D1) r E
     . cases E
theorem ajB(h:Ctx x k near)(Z:DuB x.orders.length du dl)(hM:M<=15):
   Min (vP (wOf x k near du M) (dV x) M (fC (wOf x k near du M))) (kN (wOf x k near du M) (dV x) (M+1) ⟨[],[],emp,false⟩ [fC (wOf x k near du M)]).found (kN (wOf x k near du M) (dV x) (M+1) ⟨[],[],emp,false⟩ [fC (wOf x k near du M)]).best:=by
 have hT:=CW h Z hM M _ (Fu (du:=du) (M:=M) h);have X:Good x k M (fC (wOf x k near du M)):=E1 h;generalize I:vP (wOf x k near du M) (dV x) M (fC (wOf x k near du M))=T at *;obtain⟨Y,c1⟩:=Fz (B:=fC (wOf x k near du M)) h Z hM hT (M+1) 0 ⟨[],[],emp,false⟩ [fC (wOf x k near du M)] (by omega)
   ⟨fun u F=>(by cases F),fun e=>(by cases e),fun _=>rfl,fun u F=>(by cases F)⟩
   (fun p hp=>by
     rw[Xak.1 hp];exact⟨X,fun r J=>by rw[<-I];exact J,rfl⟩)
   (fun u F=>by
     rcases F with F|F
     . cases F
     . exact .inr (by rw[F];simp))
 have E:=abY h Z hM hT X rfl Y c1 M (fC (wOf x k near du M)) X (fun r J=>by rw[<-I];exact J) _ (.inr rfl) (.refl true _);rw[I]at E;generalize kN (wOf x k near du M) (dV x) (M+1) ⟨[],[],emp,false⟩ [fC (wOf x k near du M)]=s at *;refine⟨fun O=>⟨?_,Y.no O⟩,fun O=>⟨Y.mem O,fun r J=>(E r J).2⟩⟩;cases T with
 | nil=>rfl
 | cons r l=>
   have:=(E r (by simp)).1;rw[O]at this;cases this
end
theorem ajV{n:Nat}{dl:List ByteArray}(E:dl.length=n)(F:∀a∈dl,Vl 1 a (jI a)):DuB n (some dl) dl:=
 ⟨E,fun l e=>by injection e with e;exact e.symm,fun e=>(by cases e),F⟩
end Go.Proofs.YtdlijlecpopadaaGreatDoor.Rx
end
section
namespace Go.Proofs.YtdlijlecpopadaaGreatDoor.Rx
open Go.Proofs.Tryz(prog)
open Go.Aw Go.Aw.D Go.Proofs Ty Go.Nu Go.So
open Sq (W eM dD gL NetOk)
open Nu (ltB geB uY)
open Mv (bZ cQ NC.pc aT)
def A4(x:Instance):Bool:=decide (x.orders.length<=3)&&(kH x).isEmpty
theorem ZG{x:Instance}(h:A4 x=true):kH x=[]/\x.orders.length<=3:=by
 unfold A4 at h;simp only[Xam,decide_eq_true_eq,List.isEmpty_iff]at h;exact⟨h.2,h.1⟩
theorem OR(x:Instance)(h:InB x):PC prog 17 [.agg (aL x)] (boo (A4 x)):=by
 have E:=NC.pc (aeM x h);have F:A4 x=(decide ((x.orders.length:Int)<=3)&&((kH x).length:Int) == 0):=by
   unfold A4
   congr 1
   . rw[Xar];simp;omega
   . cases kH x <;> rfl
 refine pcd Tryz.func17 ?_;unfold Tryz.f17;simp only[gdS];simp only[go_sem];refine⟨_,fun _=>E.qn,?_⟩;simp only[go_sem,Xaa];rw[F];refine cQ ?_;generalize decide ((x.orders.length:Int)<=3)=b;cases b <;> rfl
def rE(l:List ByteArray):Bool:=decide (l.length<=10)&&l.all fun s=>decide (s.size<=40)
theorem NR{l:List ByteArray}(h:rE l=true):l.length<=10/\∀s∈l,s.size<=40:=by
 unfold rE at h;simp only[Xam,decide_eq_true_eq,Xao]at h;exact h
theorem LU(l:List ByteArray)(hl:l.length<=1048576):PC prog 18 [.sl (l.map Go.Aw.D.fK)] (boo (rE l)):=by
 refine pcd Tryz.func18 ?_;unfold Tryz.f18;simp only[gdS];simp only[go_sem];refine aB (fun O=>?_) (fun O=>?_)
 . have : rE l = false := by
     unfold rE;simp at O;rw[decide_eq_false (by omega)];rfl
   rw[this];simp only[go_sem];exact .refl _
 have aa:l.length<=10:=by simp at O;omega
 simp only[go_sem];refine⟨fun ρ H=>∃(k:Nat),k<=l.length/\ρ 8=.sl (l.map Go.Aw.D.fK)/\ρ 9=int (l.length:Nat)/\ρ 10=int k/\(∀a,a∈l.take k->a.size<=40),fun ρ _=>l.length-aX (ρ 10),⟨0,Xab _,by simp only[go_sem],by simp only[go_sem,Xaa],(by simp only[go_sem];rfl),by intro a X;simp at X⟩,?_⟩;rintro ρ H ⟨k,hk,Y,e9,J,Z⟩;simp only[go_sem,Y,e9,J];refine aB (fun F=>?_) (fun I=>?_)
 . have F:=ltB (by simpa using F)
   obtain⟨a,X⟩:=aQ F;have b1:=inB F;simp only[go_sem,Y,e9,J,aH X,b1];refine aB (fun O=>?_) (fun O=>?_)
   . have : rE l = false := by
       rw[Xbv];intro h;have:=(NR h).2 a (Xad X);simp at O;omega
     rw[this];simp only[go_sem];exact .refl _
   . simp only[go_sem,Y,e9,J,aS (show k<=4611686018427387904 by omega)]
     refine⟨⟨k+1,F,rfl,fun b E=>?_⟩,by simp only[aG];omega⟩;rw[bX X,Xaq]at E;rcases E with E|E
     . exact Z b E
     . simp at E;subst E;simp at O;omega
 have I:=geB hk (by simpa using I);subst I;rw[Xaf]at Z;have:rE l=true:=by
   unfold rE;simp only[Xam,decide_eq_true_eq,Xao];exact⟨aa,Z⟩
 rw[this];simp only[go_sem];exact .refl _
end Go.Proofs.YtdlijlecpopadaaGreatDoor.Rx
end
section
namespace Go.Proofs.YtdlijlecpopadaaGreatDoor.Rx
open Go.Proofs.Tryz(prog)
open Go.Aw Go.Aw.D Go.Proofs Ty Go.Nu Go.So
open Sq (W eM dD gL NetOk oQ)
open Nu (ltB geB uY)
open Mv (bZ cQ NC.pc aT)
abbrev Cm(x:Instance)(k:Nat)(near:List Int)(du:Option (List ByteArray)):List ByteArray:=vP (wOf x k near du (dV x).length) (dV x) (dV x).length (fC (wOf x k near du (dV x).length))
theorem afH{x:Instance}(I:x.orders.length<=3){k:Nat}(F:k<x.types.length){near:List Int}(E:uM x near=true):jM x (k:Nat) near=false:=by
 rw[Wb (by omega),E];have:ajS x ((k:Nat):Int)=false:=by
   unfold ajS;rw[decide_eq_false (by omega),decide_eq_false (by omega)];rfl
 rw[this];rfl
theorem Jx{x:Instance}(h:kH x=[])(X:x.orders.length<=3){k:Nat}(O:k<x.types.length){near:List Int}(J:uM x near=true){dual:List ByteArray}(F:DuB x.orders.length (some dual) dual):
   ∃b f,uO x (k:Nat) dual near=(b,f,0)/\Min (Cm x k near (some dual)) f b/\Hc (Cm x k near (some dual)):=by
 obtain⟨l1,_⟩:=HR J (by omega);have I:=YC h O (by omega) l1;have h6:=Td X;have m1:=ajB (M:=(dV x).length) I F (by omega);have Z:=CW I F (show(dV x).length<=15 by omega) (dV x).length _ (Fu (du:=some dual) (M:=(dV x).length) I);refine⟨_,_,?_,m1,Z⟩;unfold uO;rw[afH X O J,F.len,Xan];rw[if_neg (by simp),if_neg (by
   intro E;obtain⟨a,ha,Y⟩:=Xau.1 E;rw[(F.right a ha).right (by decide)]at Y;cases Y)]
 rfl
theorem NM{T:List ByteArray}(E:Hc T){f:Bool}{a:ByteArray}(m:Min T f a):a.size<=1048576:=by
 cases f with
 | false=>rw[(m.no rfl).2];decide
 | true=>have:=tL (E _ (m.yes rfl).1);omega
def uK(x:Instance)(l:List ByteArray):Bool:=(decide (l.length=x.orders.length)&&rE l)&&l.all fun s=>cV s
theorem BP{x:Instance}{l:List ByteArray}(h:uK x l=true):l.length=x.orders.length/\(∀a∈l,a.size<=40)/\∀a∈l,cV a=true:=by
 unfold uK at h;simp only[Xam,decide_eq_true_eq,Xao]at h;exact⟨h.1.1,(NR h.1.2).2,h.2⟩
theorem IY{x:Instance}{l:List ByteArray}(h:uK x l=true):DuB x.orders.length (some l) l:=by
 obtain⟨h1,I,F⟩:=BP h;exact ajV h1 fun a E=>Vl.text (F a E) (by have:=I a E;omega)
theorem OT(x:Instance)(l:List ByteArray)(hx:x.orders.length<=1048576)(hl:l.length<=1048576)(hs:∀a∈l,a.size<=1048576):PC prog 23 [.agg (aL x),.sl (l.map Go.Aw.D.fK)] (boo (uK x l)):=by
 have ab:=LU l hl;refine pcd Tryz.func23 ?_;unfold Tryz.f23;simp only[gdS];simp only[go_sem];refine⟨_,fun _=>ab.q rfl,?_⟩;simp only[go_sem,Xaa];refine aB (fun I=>?_) (fun I=>?_)
 . have : uK x l = false := by
     unfold uK;by_cases h1:l.length=x.orders.length
     . cases h2:rE l with
       | false=>rw[Bool.and_false,Xcd]
       | true=>rw[h2,h1]at I;simp at I
     . rw[decide_eq_false h1,Xcd,Xcd]
   rw[this];simp only[go_sem];exact .refl _
 have aa:l.length=x.orders.length/\rE l=true:=by
   cases h2:rE l <;> rw[h2]at I <;> simp at I;exact⟨by omega,rfl⟩
 simp only[go_sem];refine⟨fun ρ H=>∃(k:Nat),k<=l.length/\ρ 18=.sl (l.map Go.Aw.D.fK)/\ρ 19=int (l.length:Nat)/\ρ 20=int k/\(∀a,a∈l.take k->cV a=true),fun ρ _=>l.length-aX (ρ 20),⟨0,Xab _,by simp only[go_sem],by simp only[go_sem,Xaa],(by simp only[go_sem];rfl),by intro a Z;simp at Z⟩,?_⟩;rintro ρ H ⟨k,hk,X,O,J,hz⟩;simp only[go_sem,X,O,J];refine aB (fun F=>?_) (fun Y=>?_)
 . have F:=ltB (by simpa using F)
   obtain⟨a,Z⟩:=aQ F;have b1:=inB F;simp only[go_sem,X,O,J,aH Z,b1];refine PC.use (uY a (hs a (Xad Z))) ?_;simp only[go_sem,X,O,J];refine aB (fun I=>?_) (fun I=>?_)
   . have : uK x l = false := by
       rw[Xbv];intro h;have:=(BP h).2.2 a (Xad Z);rw[this]at I;cases I
     rw[this];simp only[go_sem];exact .refl _
   . simp only[go_sem,X,O,J,aS (show k<=4611686018427387904 by omega)]
     refine⟨⟨k+1,F,rfl,fun b E=>?_⟩,by simp only[aG];omega⟩;rw[bX Z,Xaq]at E;rcases E with E|E
     . exact hz b E
     . simp at E;subst E;simpa using I
 have Y:=geB hk (by simpa using Y);subst Y;rw[Xaf]at hz;have:uK x l=true:=by
   unfold uK;rw[decide_eq_true aa.1,aa.2];exact Xao.2 hz
 rw[this];simp only[go_sem];exact .refl _
end Go.Proofs.YtdlijlecpopadaaGreatDoor.Rx
end
section
namespace Go.Aw.D
open Go.Aw Go.RowKit Go.Proofs Go.Proofs.YtdlijlecpopadaaGreatDoor Go.WideShapes Go.ChangeShapes
section
variable{H:Type}{e:TypeId×Value->H}{w:World}
theorem ajN:Rd e (BK H) Tryz.prog w 43 (fun l:List ByteArray=>[.sl (l.map fK)]) (bL Nx):=qW (sz:=1) Tryz.underlying43 (by kernel_rfl) (by omega) (fun _=>rfl) (Lr Tryz.underlying46)
end
theorem SX{H:Type}{e:TypeId×Value->H}{P:Program}{W:World}{t:TypeId}{r:Reach}{Z:Nat}{v:Value}{d:DataW H}{O:List MemPlace}(F:P.underlying t=some (.int .i64))
   (E:Value.okWide P W r Z t v) (J:DataW.Trod e P W 0 (fun _=>true) true t v d O):∃x:Int,rep (Sw W) W (.v (.int .i64 x)) v/\∀n,BK H d<=n->lK n x:=by
 obtain⟨x,rfl⟩:=okWide_int F E;obtain⟨I,h⟩:=J;obtain⟨n,h1,_,Y⟩:=DataW.trod_int F h;have X:(Value.int .i64 x)=.int .i64 n:=by
   have:(Value.cells (.int .i64 x))=#[.int .i64 x]:=rfl;rw[this]at h1;simpa using h1
 cases X;exact⟨x,by simp only[rep],fun _ _=>bounds_i64 Y⟩
theorem Lv{H:Type}{enc:TypeId×Value->H}{P:Program}{w:World}{F:Nat}{E:TypeId->Bool}{held:Bool}{t0 t1 t2 t3 t4:TypeId}{args:Array Value}{ds:List (DataW H)}{ps:List MemPlace}(h:DataW.TrodAll enc P w F E held [t0,t1,t2,t3,t4] args.toList ds ps):
   ∃v0 X v2 J I d0 Z d2 O d4 p0 p1 p2 p3 Y,args=#[v0,X,v2,J,I]/\ds=[d0,Z,d2,O,d4]/\ps=p0++p1++p2++p3++Y/\DataW.Trod enc P w F E held t0 v0 d0 p0/\DataW.Trod enc P w F E held t1 X Z p1/\DataW.Trod enc P w F E held t2 v2 d2 p2/\DataW.Trod enc P w F E held t3 J O p3/\DataW.Trod enc P w F E held t4 I d4 Y:=by
 obtain⟨v0,an,d0,al,p0,q0,ad,rfl,rfl,aa,h0⟩:=trodAll_cons h;obtain⟨X,ai,Z,ap,p1,q1,rfl,rfl,rfl,ae,h1⟩:=trodAll_cons h0;obtain⟨v2,ah,d2,ak,p2,q2,rfl,rfl,rfl,af,h2⟩:=trodAll_cons h1;obtain⟨J,ao,O,ag,p3,q3,rfl,rfl,rfl,ac,h3⟩:=trodAll_cons h2;obtain⟨I,aj,d4,am,Y,q4,rfl,rfl,rfl,ab,h4⟩:=trodAll_cons h3;obtain⟨rfl,rfl,rfl⟩:=trodAll_nil h4;exact⟨v0,X,v2,J,I,d0,Z,d2,O,d4,p0,p1,p2,p3,Y,by cases args;simp_all,rfl,by simp,aa,ae,af,ac,ab⟩
def Lb:List (String×DataW Unit):=[("math/bits.deBruijn32tab",Go.Proofs.YtdlijlecpopadaaGreatDoor.Rows.laid_math_bits_deBruijn32tab),("math/bits.deBruijn64tab",Go.Proofs.YtdlijlecpopadaaGreatDoor.Rows.laid_math_bits_deBruijn64tab),("internal/strconv.uint64pow10",Go.Proofs.YtdlijlecpopadaaGreatDoor.Rows.laid_internal_strconv_uint64pow10)]
theorem abG:(Go.Proofs.YtdlijlecpopadaaGreatDoor.Rows.laid_math_bits_deBruijn64tab:DataW Unit)=Lib.tabData .u8 (Lib.deBruijn64tab.map fun z:Nat=>(z:Int)):=by kernel_rfl
theorem WX:(Go.Proofs.YtdlijlecpopadaaGreatDoor.Rows.laid_internal_strconv_uint64pow10:DataW Unit)=Lib.tabData .u64 Lib.pow10Tab:=by kernel_rfl
theorem V7{W:World}(h:laidMetH Tryz.prog Lb W):Ll W:=by
 have h0:laidMet Tryz.prog Lb W:=(Go.MakeChecks.laidMetH_plain Tryz.prog Lb W (by kernel_rfl))▸h;have h1:=laidMet.tail h0;have F:=laidMet.tail h1;rw[abG]at h1;rw[WX]at F;have b:=Lib.tabIs_of_head (g:=3) (by kernel_rfl) (by kernel_rfl) (t:=368) (e:=5) (n:=64) Tryz.underlying368 Tryz.underlying5 (by kernel_rfl) (by kernel_rfl) h1;have p:=Lib.tabIs_of_head (g:=1) (by kernel_rfl) (by kernel_rfl) (t:=341) (e:=299) (n:=20) Tryz.underlying341 Tryz.underlying299 (by kernel_rfl) (by kernel_rfl) F;unfold Lib.TabIs World.var? at b p;rw[show Tryz.prog.globalNamed "math/bits.deBruijn64tab" = some 3 by kernel_rfl]at b;rw[show Tryz.prog.globalNamed "internal/strconv.uint64pow10" = some 1 by kernel_rfl]at p;intro t E;simp only[Vy,List.mem_cons,List.not_mem_nil,or_false]at E;rcases E with rfl|rfl
 . exact p
 . have:RA=((Lib.deBruijn64tab.map fun z:Nat=>(z:Int)).map fun z=>Value.int .u8 z).toArray:=by simp[RA]
   rw[this];exact b
end Go.Aw.D
end
section
namespace Go.Proofs.YtdlijlecpopadaaGreatDoor.relaxBelow
open Go.Proofs.Tryz(prog)
open Go.Aw Go.Aw.D Go.Proofs Go.RowKit Go.ChangeShapes Go.WideShapes Go.ChangeAt
def TY:Prop:=∀(x0:Instance) (x1:Int) (x2:List ByteArray) (x3:List Int) (x4:Int),Dq 1048576 x0->lK 1048576 x1->(bL Nx) 1048576 x2->(bL lK) 1048576 x3->lK 1048576 x4->PC prog 8 [.agg (aL x0),.v (.int .i64 x1),.sl (x2.map Go.Aw.D.fK),.sl (x3.map aR),.v (.int .i64 x4)] (.v (.bool true))
theorem own:ownKnob prog.godebug=none:=by kernel_rfl
theorem laid:laidOutB prog=true:=by kernel_rfl
theorem Ls:prog.readableRec 30=true/\30<prog.types.size:=⟨by kernel_rfl,by decide +kernel⟩
theorem T0:prog.readableRec 3=true/\3<prog.types.size:=⟨by kernel_rfl,by decide +kernel⟩
theorem Xc:prog.readableRec 31=true/\31<prog.types.size:=⟨by kernel_rfl,by decide +kernel⟩
theorem YB:prog.readableRec 43=true/\43<prog.types.size:=⟨by kernel_rfl,by decide +kernel⟩
theorem Zu(hh:TY)(H:Type)(enc:TypeId×Value->H)(W:World)(I:Nat)(args:Array Value)(X gs:List (DataW H))(before:List MemPlace)
   (E:∀(j:Nat) t v,Tryz.f8.params[j]?=some t->args[j]?=some v->Value.okWide prog W .any I t v)
   (hW:DataW.Whole enc prog Tryz.f8.params.toList Rows.relaxBelowSpec.vars false W args.toList X gs before) (hk:Rows.uptoSmall H (X++gs)=true) (F:Ll W):
   Calls prog 8 args W fun e W'=>∃v,e=.returned v/\Rows.relaxBelowSpec.post enc prog Tryz.f8 false true false false W args v W':=by
 have J:=hW;obtain⟨p,q,O,hV,rfl,ab,aa⟩:=hW;have hA:DataW.TrodAll enc prog W 0 (fun _=>true) true [30,3,43,31,3] args.toList X p:=O;obtain⟨v0,v1,v2,Z,Y,d0,d1,d2,d3,d4,p0,p1,p2,p3,p4,rfl,rfl,rfl,h0,h1,h2,h3,h4⟩:=Lv hA;obtain⟨rfl,rfl⟩:=trodVars_none hV;clear O;simp only[List.append_nil]at J hk;have hb:Rows.uptoBulkAll [d0,d1,d2,d3,d4]<=1048576:=of_decide_eq_true hk;simp only[Rows.uptoBulkAll]at hb;obtain⟨x0,r0,b0⟩:=Qo Tryz.underlying30 Ni (E 0 30 v0 rfl rfl) h0;obtain⟨x1,r1,b1⟩:=SX Tryz.underlying3 (E 1 3 v1 rfl rfl) h1;obtain⟨x2,r2,b2⟩:=Hs Tryz.underlying43 ajN (E 2 43 v2 rfl rfl) h2;obtain⟨x3,r3,b3⟩:=Hs Tryz.underlying31 Lu (E 3 31 Z rfl rfl) h3;obtain⟨x4,r4,b4⟩:=SX Tryz.underlying3 (E 4 3 Y rfl rfl) h4;refine(Oe (vals:=[v0,v1,v2,Z,Y]) (hh x0 x1 x2 x3 x4 (b0 _ (by simp only[BK];omega)) (b1 _ (by simp only[BK];omega)) (b2 _ (by simp only[BK];omega)) (b3 _ (by simp only[BK];omega)) (b4 _ (by simp only[BK];omega))) F (by simp only[bC];exact⟨_,_,rfl,r0,⟨_,_,rfl,r1,⟨_,_,rfl,r2,⟨_,_,rfl,r3,⟨_,_,rfl,r4,rfl⟩⟩⟩⟩⟩)).mono fun e W' ⟨he,hg⟩=>?_
 subst he;exact⟨_,rfl,UG laid (by
   intro t F;have F:t∈[30,3,43,31,3]:=F;simp only[List.mem_cons,List.not_mem_nil,or_false]at F;rcases F with rfl|rfl|rfl|rfl|rfl
   . exact Ls
   . exact T0
   . exact YB
   . exact Xc
   . exact T0
   ) rfl Tryz.underlying4 rfl (gs:=[]) (by simpa using J) rfl rfl rfl hg⟩
def cellsOf:DataW Unit->Array Value
 | .agg l=>(l.map fun d=>match d with| .lit (.int k n)=>Value.int k n|_=>undef).toArray
 | _=>#[]
noncomputable def Dz(os:Os):World:=
 let w0:=World.holding prog os ⟨#[],#[],[]⟩
 let put (h:Array Obj) (g:Nat) (cs:Array Value):Array Obj:=h.modify g fun
   | .cells _ t frozen=>.cells cs t frozen
   | o=>o
 let h1:=put w0.heap 2 (cellsOf Rows.laid_math_bits_deBruijn32tab)
 let h2:=put h1 3 (cellsOf Rows.laid_math_bits_deBruijn64tab)
 let h3:=put h2 1 (cellsOf Rows.laid_internal_strconv_uint64pow10)
 { w0 with heap:=h3 }
theorem Yx(os:Os):laidMet prog Rows.relaxBelowUptoRow.laid ((Dz os).forCall (fun _ _=>0) ⟨#[],#[.agg #[.slice none 0 0,.slice none 0 0,.slice none 0 0,.slice none 0 0,.slice none 0 0,.slice none 0 0],.int .i64 0,.slice none 0 0,.slice none 0 0,.int .i64 0],[]⟩).memory:=
 laidMet_of_run' 8 (by kernel_rfl) (by kernel_rfl)
theorem arG(os:Os){H:Type}(enc:TypeId×Value->H):∃places,DataW.whole enc prog ((Dz os).forCall (fun _ _=>0) ⟨#[],#[.agg #[.slice none 0 0,.slice none 0 0,.slice none 0 0,.slice none 0 0,.slice none 0 0,.slice none 0 0],.int .i64 0,.slice none 0 0,.slice none 0 0,.int .i64 0],[]⟩).memory Tryz.f8.params.toList Rows.relaxBelowSpec.vars false (#[.agg #[.slice none 0 0,.slice none 0 0,.slice none 0 0,.slice none 0 0,.slice none 0 0,.slice none 0 0],.int .i64 0,.slice none 0 0,.slice none 0 0,.int .i64 0]:Array Value).toList 8=some ([.agg [.agg [.nil,.nil],.nil,.nil,.nil,.nil],.lit (.int .i64 0),.nil,.nil,.lit (.int .i64 0)],[],places):=
 ⟨[],by kernel_rfl⟩
theorem amM(Y:TY)(os:Os)(E:os.Started)(H:Type)(enc:TypeId×Value->H)(F:Stop.Interp):
   ReturnsInHanded {} Tryz.checked os 8 .any ((Rows.OpenSpec.upto Rows.relaxBelowSpec).preRow enc prog Tryz.f8 Rows.relaxBelowUptoRow.domain false Rows.relaxBelowUptoRow.laid) (((Rows.OpenSpec.upto Rows.relaxBelowSpec).at F).post enc prog Tryz.f8 false true false false):=by
 obtain⟨places,hx⟩:=arG os enc;refine returnsInHanded_of_row (C:=Tryz.checked) (s:=Rows.OpenSpec.upto Rows.relaxBelowSpec) own E (by kernel_rfl) Tryz.func8
   (witness_row_atRef (enc:=enc) (C:=Tryz.checked) false (Dz os) #[.agg #[.slice none 0 0,.slice none 0 0,.slice none 0 0,.slice none 0 0,.slice none 0 0,.slice none 0 0],.int .i64 0,.slice none 0 0,.slice none 0 0,.int .i64 0] rfl (by kernel_rfl) (by kernel_rfl) (by kernel_rfl)
     (OpenSpec.preRow_of_cond 8 hx (by kernel_rfl) (fun k X=>by cases X;kernel_rfl) (by kernel_rfl) (Yx os))) ?_
 intro W J args Z gs before O hW _ X _ I _ _;exact Zu Y H enc W J args Z gs before O hW (X _ rfl) (V7 I)
theorem alK{a b:Bool}(h1:a=true)(E:b=true):(a&&b)=true:=by rw[h1,E];rfl
set_option maxHeartbeats 4000000 in
theorem aoP:joinedFacts prog 8 Tryz.f8 (Rows.OpenSpec.upto Rows.relaxBelowSpec).bare Rows.relaxBelowUptoRow=true:=by
  unfold joinedFacts
  repeat' (first|with_reducible refine alK ?_ ?_|(as_aux_lemma=>kernel_rfl))
set_option maxHeartbeats 4000000 in
theorem over (I:TY):Rows.RelaxBelowUptoSaid:=
  OpenClaim.holds_of_cond 8 Tryz.f8 rfl rfl rfl rfl rfl rfl rfl ⟨rfl,rfl,rfl,rfl,rfl⟩ rfl rfl rfl rfl rfl (by as_aux_lemma=>kernel_rfl) Tryz.func8 aoP
    (of_decide_eq_true (by as_aux_lemma=>kernel_rfl)) (by unfold Func.isWrapper;first|(rw[if_pos (by decide +kernel)];kernel_rfl)|(rw[if_neg (by decide +kernel)];exact⟨rfl,rfl⟩))
    (fun os E H enc _ F=>by rw[OpenClaim.pre_eq_preRow];exact amM I os E H enc F)
set_option maxHeartbeats 4000000 in
theorem card (J:TY):Rows.RelaxBelowUptoCardSaid:=
  Claim7.holds_tied_plain_at .later [] _ _ _ _ (over J) (fun _ h=>by cases h) (by as_aux_lemma=>kernel_rfl) (fun _ h=>by cases h) relaxBelowUpto_row_tie rfl ⟨rfl,rfl⟩ (by as_aux_lemma=>kernel_rfl) rfl
    (fun f fn O F=>by
      obtain rfl:f=8:=Option.some.inj ((show prog.funcNamed "lorry/lorrylaw32.RelaxBelow" = some 8 by as_aux_lemma=>kernel_rfl).symm.trans O) |>.symm
      obtain rfl:fn=Tryz.f8:=(Option.some.inj (Tryz.func8.symm.trans F)).symm
      refine⟨by as_aux_lemma=>kernel_rfl,fun j t E=>?_⟩
      have E:(#[30,3,43,31,3]:Array TypeId)[j]?=some t:=E
      have I:=Array.mem_of_getElem? E
      simp only[Array.mem_def,List.mem_cons,List.not_mem_nil,or_false,or_self]at I
      rcases I with rfl|rfl|rfl|rfl|rfl
      . exact(show prog.wantsStandIn 30=false by as_aux_lemma=>kernel_rfl)
      . exact(show prog.wantsStandIn 3=false by as_aux_lemma=>kernel_rfl)
      . exact(show prog.wantsStandIn 43=false by as_aux_lemma=>kernel_rfl)
      . exact(show prog.wantsStandIn 31=false by as_aux_lemma=>kernel_rfl)
      . exact(show prog.wantsStandIn 3=false by as_aux_lemma=>kernel_rfl)) (by as_aux_lemma=>kernel_rfl)
end Go.Proofs.YtdlijlecpopadaaGreatDoor.relaxBelow
end
