/- Texts joined by a program: NuY, NuZ, NuZa, NuZb, NuQ. -/
import Derived.Test.YtdlijlecpopadaaGreatDoorZy10
import Derived.Test.YtdlijlecpopadaaGreatDoorZy16
import Derived.Test.YtdlijlecpopadaaGreatDoorZy17

section
set_option linter.unusedSimpArgs false
set_option linter.unusedVariables false
namespace Go.Proofs.YtdlijlecpopadaaGreatDoor.Nu
open Go.Aw Go.Aw.D Go.Proofs Ty Go.Nu
set_option maxRecDepth 100000
theorem Vb(m n:Nat)(hm:(aM 10 m).length≤1048576)(hn:(aM 10 n).length≤1048576):PC Tryz.prog 307 [dg m,dg n] (dg (m*n)):=by
 have om:=cA (b:=10) (by decide) m;have on:=cA (b:=10) (by decide) n;have lm:=bW (b:=10) (by decide) m;have ln:=bW (b:=10) (by decide) n;have htr:∀l:List Nat,Lim 10 l→l.length≤4611686018427387904→ofL 10 l=m*n→PC Tryz.prog 197 [.sl (l.map eP)] (dg (m*n)):=fun l h1 h2 h3=>Dg h1 h2 h3
 simp only[dg]at htr ⊢;generalize aM 10 m=x at *;generalize aM 10 n=y at *;generalize aM 10 (m*n)=z at *;have ew:IntKind.i64.wrap ((x.length:Int)+(y.length:Int))=((x.length+y.length:Nat):Int):=by rw[aQ (by omega)];omega
 refine PC.body (c:=Tryz.f307.body.getD .skip) (fun t=>t == 15) mixed Tryz.func307 rfl (by kernel_rfl) ?_;unfold Tryz.f307;simp only[Option.getD_some];simp only[go_sem];simp only[ew];refine⟨by omega,aL fun j hj=>?_⟩;simp only[go_sem];refine⟨fun ρ H=>∃(i:Nat) (out:List Nat),i≤x.length∧ρ 0=.sl (x.map eP)∧ρ 1=.sl (y.map eP)∧ρ 5=.os j∧ρ 6=int i∧H j=some (bI out)∧Lim 10 out∧out.length=x.length+y.length∧ofL 10 out=ofL 10 (x.take i)*ofL 10 y,fun ρ _=>x.length-bE (ρ 6),
   ⟨0,List.replicate (x.length+y.length) 0,Nat.zero_le _,by simp only[go_sem],by simp only[go_sem],by simp only[go_sem],by simp only[go_sem];rfl,?_,Lim.zeros (by decide) _,by simp,by simp[ofL,GE]⟩,?_⟩
 · rw[aA]
   simp only[bI,List.map_replicate,wZ];rfl
 clear hj;rintro ρ H ⟨i,out,hi,h0,h1,h5,h6,Rj,ho,hol,hv⟩;simp only[go_sem,h0,h1,h5,h6,List.length_map];refine aB (fun hlt=>?_) (fun hge=>?_)
 · have hlt:=ltB hlt
   obtain⟨xi,hxi⟩:=aW hlt;have b1:=inB hlt;have hxb:xi<10:=lm xi (List.mem_of_getElem? hxi);have hz0:out[i+y.length]?=some 0:=by
     refine NF (b:=10) (by decide) (q:=i+y.length) ?_ (Nat.le_refl _) (by omega);rw[hv,Nat.pow_add];have h1:=iT (b:=10) (by decide) (lm.take i);rw[List.length_take,Nat.min_eq_left hi]at h1;exact Nat.mul_lt_mul'' h1 (iT (b:=10) (by decide) ln)
   simp only[go_sem,h0,h1,h5,h6];refine⟨fun ρ H=>∃(k c:Nat) (o:List Nat),k≤y.length+1∧ρ 0=.sl (x.map eP)∧ρ 1=.sl (y.map eP)∧ρ 5=.os j∧ρ 6=int i∧ρ 7=int c∧ρ 8=int k∧H j=some (bI o)∧Lim 10 o∧o.length=x.length+y.length∧c<10∧(k≤y.length→ofL 10 o+10^(i+k)*c=ofL 10 out+10^i*(xi*ofL 10 (y.take k))∧o[i+y.length]?=some 0)∧(k=y.length+1→c=0∧ofL 10 o=ofL 10 out+10^i*(xi*ofL 10 y)),fun ρ _=>y.length+1-bE (ρ 8),
     ⟨0,0,out,Nat.zero_le _,by simp only[go_sem,h0],by simp only[go_sem,h1],by simp only[go_sem,h5],by simp only[go_sem,h6],by simp only[go_sem];rfl,by simp only[go_sem];rfl,Rj,ho,hol,by omega,fun _=>⟨by simp[ofL],hz0⟩,by omega⟩,?_⟩
   clear h0 h1 h5 h6 Rj;rintro ρ H ⟨k,c,o,hk,h0,h1,h5,h6,h7,h8,Rj,hO,hoL,hc,hV,hZ⟩;simp only[go_sem,h0,h1,h5,h6,h7,h8,List.length_map];refine aB (fun hb=>?_) (fun hb=>?_)
   · have hb:k<y.length∨0<c:=by simpa using hb
     have hky:k≤y.length:=by
       rcases Nat.lt_or_ge y.length k with h|h
       · have:=(hZ (by omega)).1
         omega
       · exact h
     obtain⟨hV,hz⟩:=hV hky;obtain⟨v,hov⟩:=aW (show i+k<o.length by omega);have hvb:v<10:=hO v (List.mem_of_getElem? hov);have b3:0≤((i+k:Nat):Int)∧((i+k:Nat):Int)<((bI o).es.length:Nat):=by
       simp only[bI,List.length_map];omega
     have ei:IntKind.i64.wrap ((i:Int)+(k:Int))=((i+k:Nat):Int):=by rw[aQ (by omega)];omega
     have hog:(bI o).es.getD (i+k) []=eP v:=aF hov;have hyb:y.getD k 0<10:=ln.getD (by decide) k;have hmul:xi*y.getD k 0≤9*9:=Nat.mul_le_mul (by omega) (by omega);have e1:IntKind.i64.wrap (IntKind.i64.wrap ((v:Int)+IntKind.i64.wrap ((xi:Int)*((y.getD k 0:Nat):Int)))+(c:Int))=((v+xi*y.getD k 0+c:Nat):Int):=by
       rw[show(xi:Int)*((y.getD k 0:Nat):Int)=((xi*y.getD k 0:Nat):Int)from(Int.natCast_mul xi _).symm];generalize xi*y.getD k 0=p at *;rw[show IntKind.i64.wrap (p:Int)=(p:Int)from aQ (by omega),show IntKind.i64.wrap ((v:Int)+(p:Int))=(v:Int)+p from aQ (by omega),aQ (by omega)];omega
     have hq:(v+xi*y.getD k 0+c)/10<10:=by omega
     have e2:IntKind.i64.wrap ((((v+xi*y.getD k 0+c:Nat):Int)).tdiv 10)=(((v+xi*y.getD k 0+c)/10:Nat):Int):=by
       generalize v+xi*y.getD k 0+c=p at *;rw[Int.tdiv_eq_ediv_of_nonneg (by omega),aQ (by omega)];omega
     have e3:(((v+xi*y.getD k 0+c:Nat):Int)).tmod 10=(((v+xi*y.getD k 0+c)%10:Nat):Int):=rfl;simp only[go_sem,h0,h1,h5,h6,h7,h8];refine fQ (by rfl) (by kernel_rfl) ?_;simp only[go_sem,h0,h1,h5,h6,h7,h8,ei,Rj,b3,hog,aF hxi,b1,List.length_map];have hlen:i+k<(bI o).es.length:=by simp only[bI,List.length_map];omega
     refine⟨rfl,⟨hlen,Nat.zero_lt_one⟩,_,(oX y k (by omega) (by omega)).q rfl,?_⟩;simp only[go_sem,h0,h1,h5,h6,h7,h8,e1,ei,Rj,b3,hog,e3];refine⟨by decide,rfl,bY so3 Rj ⟨hlen,rfl,Nat.le_refl 1⟩ ?_⟩;generalize hP:aG H j _=HP;have Rj':HP j=some (bI (o.set (i+k) ((v+xi*y.getD k 0+c)%10))):=by
       rw[←hP,aA];exact congrArg some (wS (q:=(v+xi*y.getD k 0+c)%10) hov)
     clear hP Rj;simp only[go_sem,h0,h1,h5,h6,h7,h8,e2,bA (show k≤4611686018427387904 by omega)];refine⟨by decide,⟨k+1,_,_,by omega,rfl,rfl,Rj',hO.set (Nat.mod_lt _ (by decide)),by simp[hoL],hq,fun hk1=>?_,fun hk1=>?_⟩,by simp only[aH];omega⟩
     · obtain⟨yk,hyk⟩:=aW (show k<y.length by omega)
       have hyg:y.getD k 0=yk:=by simp[List.getD,hyk]
       rw[hyg];exact⟨K8 (b:=10) (by decide) hov hyk hV,by rw[List.getElem?_set_ne (by omega)];exact hz⟩
     · have hk2:k=y.length:=by omega
       subst hk2;have hv0:v=0:=by rw[hov]at hz;exact Option.some.inj hz
       have hy0:y.getD y.length 0=0:=by simp[List.getD]
       rw[hv0,hy0,Nat.mul_zero,Nat.zero_add,Nat.mod_eq_of_lt hc];exact⟨by omega,N0 (b:=10) hz hV⟩
   · have hb : y.length ≤ k ∧ c = 0 := by
       simp at hb;omega
     have hfin:ofL 10 o=ofL 10 out+10^i*(xi*ofL 10 y):=by
       rcases Nat.lt_or_ge y.length k with h|h
       · exact(hZ (by omega)).2
       · have h1:=(hV h).1
         rw[hb.2,Nat.mul_zero,Nat.add_zero,List.take_of_length_le hb.1]at h1;exact h1
     simp only[go_sem,h0,h1,h5,h6,h7,h8,bA (show i≤4611686018427387904 by omega)];refine⟨⟨i+1,o,hlt,rfl,Rj,hO,hoL,?_⟩,by simp only[aH];omega⟩;rw[hfin,hv,jL 10 hxi,Nat.add_mul,Nat.mul_assoc]
 · have hge:=geB hi hge
   subst hge;rw[List.take_length]at hv;simp only[go_sem,h5];refine PC.useF [j] (.cons _ _ _ _ (.row _ _ _ (by simp only[List.mem_singleton,if_true];exact Rj) (ConvE.refl _)) .nil) (htr out ho (by omega) (by rw[hv,om,on])) ?_;simp only[go_sem];exact .refl _
def R9:AV→Nat
 | .sl es=>ofL 10 (es.map fun e=>match e with|[.v (.int _ z)]=>z.toNat|_=>0)
 | _=>0
theorem NI(n:Nat):R9 (dg n)=n:=by
 unfold R9 dg;simp only[List.map_map];have:(aM 10 n).map ((fun e=>match e with|[.v (.int _ z)]=>z.toNat|_=>0) ∘ eP)=aM 10 n:=by
   conv=>rhs;rw[←List.map_id (aM 10 n)]
   exact List.map_congr_left fun x _=>rfl
 rw[this,cA (by decide)]
theorem PK(m n:Nat)(hm:(aM 10 m).length≤1048570)(hn:0<n)(hnl:(aM 10 n).length≤1048570):PC Tryz.prog 311 [dg m,dg n] (.tup [dg (m/n),dg (m%n)]):=by
 have om:=cA (b:=10) (by decide) m;have lm:=bW (b:=10) (by decide) m;rw[show dg m=.sl ((aM 10 m).map eP)from rfl];generalize aM 10 m=x at *;refine PC.body (c:=Tryz.f311.body.getD .skip) (fun t=>t == 12||t == 24) mixed Tryz.func311 rfl (by kernel_rfl) ?_;unfold Tryz.f311;simp only[Option.getD_some];simp only[go_sem];refine⟨by omega,aL fun j hj=>?_⟩;simp only[go_sem,List.length_map];refine⟨fun ρ H=>∃(k r:Nat) (qs:List Nat),k≤x.length∧ρ 0=.sl (x.map eP)∧ρ 1=dg n∧ρ 6=.os j∧ρ 7=dg r∧ρ 8=int ((k:Int)-1)∧H j=some (bI qs)∧Lim 10 qs∧qs.length=x.length∧r<n∧(∀i,i<k→qs[i]?=some 0)∧ofL 10 (x.drop k)=ofL 10 (qs.drop k)*n+r,fun ρ _=>upN (ρ 8),
   ⟨x.length,0,List.replicate x.length 0,Nat.le_refl _,by simp only[go_sem],by simp only[go_sem],by simp only[go_sem],by simp only[go_sem,dg,cY,List.map_nil],by simp only[go_sem];rw[aQ (by omega)],?_,Lim.zeros (by decide) _,by simp,hn,?_,?_⟩,?_⟩
 · rw[aA]
   simp only[bI,List.map_replicate,wZ];rfl
 · intro i hi
   simp[List.getElem?_replicate,hi]
 · rw[List.drop_length,List.drop_of_length_le (by simp)];simp[ofL]
 clear hj;rintro ρ H ⟨k,r,qs,hk,h0,h1,h6,h7,h8,Rj,hqs,hql,hr,hz,hv⟩;simp only[go_sem,h0,h1,h6,h7,h8];refine aB (fun hge=>?_) (fun hlt=>?_)
 · obtain⟨i,rfl⟩:∃i,k=i+1:=⟨k-1,by have:=of_decide_eq_true hge;omega⟩
   have ei:((i+1:Nat):Int)-1=(i:Int):=by omega
   rw[ei]at h8;obtain⟨a,ha⟩:=aW (show i<x.length by omega);have hab:a<10:=lm a (List.mem_of_getElem? ha);have b1:=inB (show i<x.length by omega);have hrl:(aM 10 r).length≤(aM 10 n).length:=bZ (by decide) (by omega);have hrv:=cA (b:=10) (by decide) r;have hrlim:=bW (b:=10) (by decide) r;simp only[go_sem,h0,h1,h6,h7,h8,ei,aF ha,b1,List.length_map];obtain⟨hV,hQ,hRn⟩:=KM (b:=10) (a:=n) (by decide) ha hab hr (show i<qs.length by omega) hv;have hTL:ofL 10 (a::aM 10 r)=a+10*r:=by rw[ofL,hrv]
   have hTT:Lim 10 (a::aM 10 r):=fun y hy=>by
     rcases List.mem_cons.1 hy with rfl|hy
     · exact hab
     · exact hrlim y hy
   have hRl:(aM 10 (a+10*r)).length≤1048575:=by
     refine Nat.le_trans (gE (b:=10) (k:=(aM 10 r).length+1) (by decide) ?_) (by omega);have h1:=iT (b:=10) (by decide) hTT;rw[hTL]at h1;simpa using h1
   generalize hR':a+10*r=R at *;refine aL fun j2 hj2=>?_
   simp only[go_sem,h0,h1,h6,h7,h8];have Rj1:=jV (r':=⟨3,1,[[int (a:Int)]]⟩) Rj hj2;refine aX (aA _ _ _) ⟨rfl,rfl⟩ (aeP _) (by simp only[List.length_map,List.length_cons,List.length_nil];omega) (fun i2 hi2=>?_);have Rj2:=dN Rj1 (aN Rj hj2).symm hi2 (r':=⟨3,1,[[int (a:Int)]]++(aM 10 r).map eP⟩);have nj2:j≠i2:=aN Rj1 hi2;simp only[go_sem,h0,h1,h6,h7,h8];refine PC.useF [i2] (.cons _ _ _ _ (.row _ _ _ (by simp only[List.mem_singleton,if_true];exact aA _ _ _) (ConvE.refl _)) .nil) (Dg hTT (by simp;omega) hTL) ?_;generalize hHN:(fun k=>if k∈[i2]then none else _)=HN;have Rj3:HN j=some (bI qs):=by rw[←hHN];simp only[List.mem_singleton,if_neg nj2];exact Rj2
   clear hHN Rj2 Rj1 Rj;simp only[go_sem,h0,h1,h6,h7,h8];refine⟨fun ρ H=>∃(d r':Nat),ρ 0=.sl (x.map eP)∧ρ 1=dg n∧ρ 6=.os j∧ρ 7=dg r'∧ρ 8=int i∧H j=some (bI (qs.set i d))∧d*n+r'=R,fun ρ _=>R9 (ρ 7),
     ⟨0,R,by simp only[go_sem,h0],by simp only[go_sem,h1],by simp only[go_sem,h6],by simp only[go_sem],by simp only[go_sem,h8],?_,by omega⟩,?_⟩
   · rw[Rj3]
     have h2:=hz i (by omega);obtain⟨h3,h4⟩:=List.getElem?_eq_some_iff.1 h2
     congr 2
     rw[←h4];exact(List.set_getElem_self h3).symm
   clear h0 h1 h6 h7 h8 Rj3;rintro ρ H ⟨d,r',h0,h1,h6,h7,h8,Rj,hd⟩;have hr'l:=bZ (b:=10) (by decide) (show r'≤R by omega);simp only[go_sem,h0,h1,h6,h7,h8];refine PC.use (uH r' n (by omega) (by omega)) ?_;simp only[go_sem,h0,h1,h6,h7,h8,GY];have hd10:d<10:=by
     rcases Nat.lt_or_ge d 10 with h|h
     · exact h
     · have:=Nat.mul_le_mul_right n h
       omega
   refine aB (fun hge2=>?_) (fun hlt2=>?_)
   · have hge2:n≤r':=by have:=of_decide_eq_true hge2;omega
     have hg:(qs.set i d)[i]?=some d:=List.getElem?_set_self (by omega);have hgl:(bI (qs.set i d)).es.getD i []=eP d:=aF hg;have b3:0≤(i:Int)∧(i:Int)<((bI (qs.set i d)).es.length:Nat):=by
       simp only[bI,List.length_map,List.length_set];omega
     have hlen:i<(bI (qs.set i d)).es.length:=by simp only[bI,List.length_map,List.length_set];omega
     simp only[go_sem,h0,h1,h6,h7,h8];refine PC.use (Ai r' n (by omega) hge2) ?_;simp only[go_sem,h0,h1,h6,h7,h8,Rj,b3,hgl,bA (show d≤4611686018427387904 by omega)];refine⟨rfl,⟨hlen,Nat.zero_lt_one⟩,rfl,bY so3 Rj ⟨hlen,rfl,Nat.le_refl 1⟩ ?_⟩;generalize hP:aG H j _=HP;have Rj':HP j=some (bI (qs.set i (d+1))):=by
       rw[←hP,aA];refine(congrArg some (wS (q:=d+1) hg)).trans ?_;rw[List.set_set]
     clear hP Rj;simp only[go_sem,h0,h1,h6,h7,h8];refine⟨⟨d+1,r'-n,rfl,Rj',by rw[Nat.add_mul];omega⟩,?_⟩;show R9 (dg (r'-n))<R9 (dg r');rw[NI,NI];omega
   · have hlt2:r'<n:=by have:=of_decide_eq_false hlt2;omega
     have hdR:R/n=d:=by rw[←hd,Nat.add_comm,Nat.add_mul_div_right _ _ hn,Nat.div_eq_of_lt hlt2,Nat.zero_add]
     have hrR:R%n=r':=by rw[←hd,Nat.add_comm,Nat.add_mul_mod_self_right,Nat.mod_eq_of_lt hlt2]
     rw[hdR,hrR]at hV;simp only[go_sem,h0,h1,h6,h7,h8,show IntKind.i64.wrap ((i:Int)-1)=(i:Int)-1 from aQ (by omega)];refine⟨⟨i,r',qs.set i d,by omega,rfl,rfl,Rj,hqs.set hd10,by simp[hql],hlt2,fun q hq=>?_,hV⟩,by simp only[Aq];omega⟩;rw[List.getElem?_set_ne (by omega)];exact hz q (by omega)
 · have hk0:k=0:=by have:=of_decide_eq_false hlt;omega
   subst hk0;rw[List.drop_zero,List.drop_zero,om]at hv;have hq2:m/n=ofL 10 qs:=by
     rw[hv,Nat.add_comm,Nat.add_mul_div_right _ _ hn,Nat.div_eq_of_lt hr,Nat.zero_add]
   have hr2:m%n=r:=by
     rw[hv,Nat.add_comm,Nat.add_mul_mod_self_right,Nat.mod_eq_of_lt hr]
   simp only[go_sem,h6,h7];refine PC.useF [j] (.cons _ _ _ _ (.row _ _ _ (by simp only[List.mem_singleton,if_true];exact Rj) (ConvE.refl _)) .nil) (Dg hqs (by omega) hq2.symm) ?_;simp only[go_sem,h7,hr2];exact .refl _
end Go.Proofs.YtdlijlecpopadaaGreatDoor.Nu
end

section
set_option linter.unusedSimpArgs false
set_option linter.unusedVariables false
namespace Go.Proofs.YtdlijlecpopadaaGreatDoor.Nu
open Go.Aw Go.Aw.D Go.Proofs Ty Go.Nu
set_option maxRecDepth 100000
theorem Bm(m:Nat):(aM 10 m).length≤(dec m).size:=by
 by_cases h:m=0
 · rw[h,cY];simp
 · have:=congrArg List.length (AT h)
   rw[hU,←this];simp[txt]
theorem nV{m:Nat}(h:m<cC):(aM 10 m).length≤4096:=by
 have h1:=Bm m;have h2:=(gJ m).2 h;omega
theorem uE(m:Bool)(n:Nat)(h:(aM 10 n).length≤1048576):PC Tryz.prog 159 [boo m,dg n] (str (zed (sg m n))):=by
 have:=O3 m (aM 10 n) (bW (by decide) n) h
 rwa [cA (by decide)]at this
theorem XG(s:ByteArray)(h:s.size≤1048576):PC Tryz.prog 309 [str s] (int (FY s)):=by
 have hs:=cE s;refine PC.body (c:=Tryz.f309.body.getD .skip) (fun _=>false) mixed Tryz.func309 rfl (by kernel_rfl) ?_;unfold Tryz.f309;simp only[Option.getD_some];simp only[go_sem];refine PC.use (tB s h) ?_;simp only[go_sem,mE];refine aB (fun hb=>?_) (fun hb=>?_)
 · simp only[go_sem]
   refine cI ?_;unfold FY;split
   · rename_i hr
     rw[hr]at hb;have:s=dec 0:=kB.1 (by simpa using hb);rw[this,←show zed ((0:Nat):Int)=dec 0 from cX 0,bV];rfl
   · rfl
 have hr:eC s=true∧eqB s (dec 0)=false:=by
   simp only[Bool.or_eq_false_iff,Bool.not_eq_false']at hb;exact hb
 obtain⟨hr,h0⟩:=hr;have hp:0<s.size:=by
   rcases Nat.eq_zero_or_pos s.size with h|h
   · exfalso
     rw[←hs,List.length_eq_zero_iff]at h;have h2:=rL s;rw[h,List.drop_nil]at h2;unfold eC dB dU at hr;rw[h2]at hr;cases hr
   · exact h
 simp only[go_sem];have hd:=sJ s;rw[show decide ((s.size:Int)>0)=true by simp;omega,Bool.true_and]at hd;rw[hd];have hz:zed (fF s)=s:=qD hr;have hm:dZ s=decide (fF s<0):=by rw[←hz,nQ,bV]
 have hv:fF s≠0:=fun e=>lS.1 h0 (by rw[←hz,e];exact cX 0)
 refine⟨⟨by omega,by omega⟩,?_⟩;rw[hm];refine aB (fun hb=>?_) (fun hb=>?_)
 · have:=of_decide_eq_true hb
   simp only[go_sem];exact cI (by unfold FY;rw[if_pos hr,Int.sign_eq_neg_one_of_neg this])
 · have:=of_decide_eq_false hb
   simp only[go_sem];exact cI (by unfold FY;rw[if_pos hr,Int.sign_eq_one_of_pos (by omega)])
theorem PF{s:ByteArray}:iQ s s=0→∃n:Int,s=zed n∧n.natAbs<cC:=fun h=>by
 obtain⟨m,n,e,_,hm,_⟩:=mQ h;exact⟨m,e,hm⟩
theorem Td(s:ByteArray)(h:s.size≤1048576):PC Tryz.prog 105 [str s] (.tup (if iQ s s=0 then[str (dec (fF s).natAbs),int 0]else[str emp,int (iQ s s)])):=by
 have hck:=yU s s h h;by_cases he:iQ s s=0
 · rw[if_pos he]
   rw[he]at hck;obtain⟨n,rfl,hn⟩:=PF he;have hl:=nV hn;refine PC.body (c:=Tryz.f105.body.getD .skip) (fun _=>false) mixed Tryz.func105 rfl (by kernel_rfl) ?_;unfold Tryz.f105;simp only[Option.getD_some];simp only[go_sem];refine PC.use hck ?_;simp only[go_sem];refine aB (fun hb=>by cases hb) (fun _=>?_);simp only[go_sem];refine PC.use (mY n h) ?_;simp only[go_sem];refine PC.use (uE false n.natAbs (by omega)) ?_;simp only[go_sem];rw[bV,show sg false n.natAbs=((n.natAbs:Nat):Int)from rfl,cX];exact .refl _
 · rw[if_neg he]
   refine PC.body (c:=Tryz.f105.body.getD .skip) (fun _=>false) mixed Tryz.func105 rfl (by kernel_rfl) ?_;unfold Tryz.f105;simp only[Option.getD_some];simp only[go_sem];refine PC.use hck ?_;simp only[go_sem];refine aB (fun _=>?_) (fun hb=>absurd (by simpa using hb) he);simp only[go_sem];exact .refl _
theorem Zp(a b:Bool)(m n:Nat)(hm:(aM 10 m).length≤1048570)(hn:(aM 10 n).length≤1048570)(hs:(aM 10 (m+n)).length≤1048576):PC Tryz.prog 308 [boo a,dg m,boo b,dg n] (str (zed (sg a m+sg b n))):=by
 refine PC.body (c:=Tryz.f308.body.getD .skip) (fun _=>false) mixed Tryz.func308 rfl (by kernel_rfl) ?_;unfold Tryz.f308;simp only[Option.getD_some];simp only[go_sem];refine aB (fun h=>?_) (fun h=>?_)
 · have hab:a=b:=by simpa using h
   subst hab;simp only[go_sem];refine PC.use (Oe m n (by omega) (by omega)) ?_;simp only[go_sem];refine PC.use (uE a (m+n) hs) ?_;simp only[go_sem];rw[show sg a (m+n)=sg a m+sg a n by unfold sg;split <;> omega];exact .refl _
 have hab:b= !a:=by cases a <;> cases b <;> simp_all
 subst hab;simp only[go_sem];refine PC.use (uH m n (by omega) (by omega)) ?_;simp only[go_sem,GY];refine aB (fun h2=>?_) (fun h2=>?_)
 · have h2:n≤m:=by have:=of_decide_eq_true h2;omega
   simp only[go_sem];refine PC.use (Ai m n (by omega) h2) ?_;simp only[go_sem];have:=bZ (b:=10) (by decide) (show m-n≤m by omega);refine PC.use (uE a (m-n) (by omega)) ?_;simp only[go_sem];rw[show sg a (m-n)=sg a m+sg (!a) n by unfold sg;cases a <;> simp <;> omega];exact .refl _
 · have h2:m<n:=by have:=of_decide_eq_false h2;omega
   simp only[go_sem];refine PC.use (Ai n m (by omega) (by omega)) ?_;simp only[go_sem];have:=bZ (b:=10) (by decide) (show n-m≤n by omega);refine PC.use (uE (!a) (n-m) (by omega)) ?_;simp only[go_sem];rw[show sg (!a) (n-m)=sg a m+sg (!a) n by unfold sg;cases a <;> simp <;> omega];exact .refl _
end Go.Proofs.YtdlijlecpopadaaGreatDoor.Nu
end

section
set_option linter.unusedSimpArgs false
set_option linter.unusedVariables false
namespace Go.Proofs.YtdlijlecpopadaaGreatDoor.Nu
open Go.Aw Go.Aw.D Go.Proofs Ty Go.Nu
set_option maxRecDepth 100000
theorem IV(a b:ByteArray)(ha:a.size≤1048570)(hb:b.size≤1048570):PC Tryz.prog 280 [str a,str b] (int (La a b)):=by
 refine PC.body (c:=Tryz.f280.body.getD .skip) (fun _=>false) mixed Tryz.func280 rfl (by kernel_rfl) ?_;unfold Tryz.f280;simp only[Option.getD_some];simp only[go_sem];refine PC.use (tB a (by omega)) ?_;simp only[go_sem];refine⟨_,fun _=>(tB b (by omega)).q rfl,?_⟩;simp only[go_sem];refine aB (fun hc=>?_) (fun hc=>?_)
 · simp only[go_sem]
   refine cI ?_;unfold La;rw[if_neg];rintro⟨h1,h2⟩;rw[h1,h2]at hc;cases hc
 have hr:eC a=true∧eC b=true:=by simpa using hc
 rw[show La a b=gD (fF a) (fF b)from if_pos hr];have za:=qD hr.1;have zb:=qD hr.2;have la:(aM 10 (fF a).natAbs).length≤1048570:=by
   have h1:=Bm (fF a).natAbs;have h2:=Ak (zed (fF a));rw[hY,za]at h2;omega
 have lb:(aM 10 (fF b).natAbs).length≤1048570:=by
   have h1:=Bm (fF b).natAbs;have h2:=Ak (zed (fF b));rw[hY,zb]at h2;omega
 have pa:=mY (fF a) (by rw[za];omega);have pb:=mY (fF b) (by rw[zb];omega);rw[za]at pa;rw[zb]at pb;generalize fF a=m at *;generalize fF b=n at *;simp only[go_sem];refine PC.use pa ?_;simp only[go_sem];refine PC.use pb ?_;simp only[go_sem];refine aB (fun h2=>?_) (fun h2=>?_)
 · have h2:m<0∧n<0:=by simpa using h2
   simp only[go_sem];refine PC.use (uH n.natAbs m.natAbs (by omega) (by omega)) ?_;simp only[go_sem];refine cI ?_;unfold gD;have c1:((n.natAbs:Nat):Int)<((m.natAbs:Nat):Int)↔m<n:=by omega
   have c2:((m.natAbs:Nat):Int)<((n.natAbs:Nat):Int)↔n<m:=by omega
   simp only[c1,c2]
 · simp only[go_sem]
   refine aB (fun h3=>?_) (fun h3=>?_)
   · have h3:m<0:=of_decide_eq_true h3
     have h4:¬n<0:=fun h=>by simp[h3,h]at h2
     simp only[go_sem];exact cI (by rw[iD (by omega)])
   · have h3:¬m<0:=of_decide_eq_false h3
     simp only[go_sem];refine aB (fun h4=>?_) (fun h4=>?_)
     · have h4:n<0:=of_decide_eq_true h4
       simp only[go_sem];exact cI (by rw[iF (by omega)])
     · have h4:¬n<0:=of_decide_eq_false h4
       simp only[go_sem];refine PC.use (uH m.natAbs n.natAbs (by omega) (by omega)) ?_;simp only[go_sem];exact cI (by rw[show((m.natAbs:Nat):Int)=m by omega,show((n.natAbs:Nat):Int)=n by omega])
theorem Oa{n:Int}{k:Nat}(h:(aM 10 n.natAbs).length≤k):(zed n).size≤k+2:=by
 have h1:(dO (zed n)).size=(dec n.natAbs).size:=by rw[hY]
 have h3:(dec n.natAbs).size≤k+1:=by
   rw[hU];by_cases h0:n.natAbs=0
   · rw[h0,Lib.decDigits_one (by omega)];simp
   · have:=congrArg List.length (AT h0)
     rw[←this];simp[txt];omega
 unfold dO at h1;split at h1
 · rw[←cE,iO,List.length_drop]at h1
   rw[←cE];omega
 · omega
theorem OH(m n:Nat):(aM 10 (m+n)).length≤max (aM 10 m).length (aM 10 n).length+1:=by
 refine gE (by decide) ?_;have h1:=iT (b:=10) (by decide) (bW (b:=10) (by decide) m);have h2:=iT (b:=10) (by decide) (bW (b:=10) (by decide) n);rw[cA (by decide)]at h1 h2;have h3:10^(aM 10 m).length≤10^max (aM 10 m).length (aM 10 n).length:=Nat.pow_le_pow_right (by decide) (by omega);have h4:10^(aM 10 n).length≤10^max (aM 10 m).length (aM 10 n).length:=Nat.pow_le_pow_right (by decide) (by omega);rw[Nat.pow_succ];omega
theorem WX(m n:Nat):(aM 10 (m*n)).length≤(aM 10 m).length+(aM 10 n).length:=by
 refine gE (by decide) ?_;have h1:=iT (b:=10) (by decide) (bW (b:=10) (by decide) m);have h2:=iT (b:=10) (by decide) (bW (b:=10) (by decide) n);rw[cA (by decide)]at h1 h2;rw[Nat.pow_add];exact Nat.mul_lt_mul'' h1 h2
theorem Y8(a b:ByteArray)(ha:a.size≤1048576)(hb:b.size≤1048576):PC Tryz.prog 276 [str a,str b] (.tup [str (Er a b).1,int (Er a b).2]):=by
 refine PC.body (c:=Tryz.f276.body.getD .skip) (fun _=>false) mixed Tryz.func276 rfl (by kernel_rfl) ?_;unfold Tryz.f276;simp only[Option.getD_some];simp only[go_sem];refine PC.use (yU a b ha hb) ?_;simp only[go_sem];refine aB (fun h=>?_) (fun h=>?_)
 · have h:iQ a b≠0:=by simpa using h
   simp only[go_sem];rw[show Er a b=(emp,iQ a b)from if_neg h];exact .refl _
 have h:iQ a b=0:=by simpa using h
 rw[show Er a b=szZ (fF a+fF b)from if_pos h];obtain⟨m,n,rfl,rfl,hm,hn⟩:=mQ h;have lm:=nV hm;have ln:=nV hn;have hs:=OH m.natAbs n.natAbs;have hs2:=bZ (b:=10) (by decide) (show(m+n).natAbs≤m.natAbs+n.natAbs by omega);have hz:=Oa (n:=m+n) (Nat.le_refl _);rw[bV,bV];simp only[go_sem];refine PC.use (mY m (by omega)) ?_;simp only[go_sem];refine PC.use (mY n (by omega)) ?_;simp only[go_sem];refine PC.use (Zp _ _ m.natAbs n.natAbs (by omega) (by omega) (by omega)) ?_;rw[AR,AR];simp only[go_sem];refine PC.use (ER (m+n) (by omega)) ?_;simp only[go_sem];exact .refl _
theorem Mz(a b:ByteArray)(ha:a.size≤1048576)(hb:b.size≤1048576):PC Tryz.prog 275 [str a,str b] (.tup [str (sC a b).1,int (sC a b).2]):=by
 refine PC.body (c:=Tryz.f275.body.getD .skip) (fun _=>false) mixed Tryz.func275 rfl (by kernel_rfl) ?_;unfold Tryz.f275;simp only[Option.getD_some];simp only[go_sem];refine PC.use (yU a b ha hb) ?_;simp only[go_sem];refine aB (fun h=>?_) (fun h=>?_)
 · have h:iQ a b≠0:=by simpa using h
   simp only[go_sem];rw[show sC a b=(emp,iQ a b)from if_neg h];exact .refl _
 have h:iQ a b=0:=by simpa using h
 rw[show sC a b=szZ (fF a*fF b)from if_pos h];obtain⟨m,n,rfl,rfl,hm,hn⟩:=mQ h;have lm:=nV hm;have ln:=nV hn;have hs:=WX m.natAbs n.natAbs;have hz:=Oa (n:=m*n) (k:=8192) (by rw[Int.natAbs_mul];omega);have hsg:sg (decide (m<0) != decide (n<0)) (m.natAbs*n.natAbs)=m*n:=by
   unfold sg;rcases Int.lt_or_le m 0 with h1|h1 <;> rcases Int.lt_or_le n 0 with h2|h2
   · have e:m*n=(m.natAbs:Int)*n.natAbs:=by rw[show(m.natAbs:Int)= -m by omega,show(n.natAbs:Int)= -n by omega,Int.neg_mul_neg]
     rw[if_neg (by simp[h1,h2]),e,Int.natCast_mul]
   · have e:m*n= -((m.natAbs:Int)*n.natAbs):=by rw[show(m.natAbs:Int)= -m by omega,show(n.natAbs:Int)=n by omega,Int.neg_mul,Int.neg_neg]
     rw[if_pos (by simp[h1];omega),e,Int.natCast_mul]
   · have e:m*n= -((m.natAbs:Int)*n.natAbs):=by rw[show(m.natAbs:Int)=m by omega,show(n.natAbs:Int)= -n by omega,Int.mul_neg,Int.neg_neg]
     rw[if_pos (by simp[h2];omega),e,Int.natCast_mul]
   · have e:m*n=(m.natAbs:Int)*n.natAbs:=by rw[show(m.natAbs:Int)=m by omega,show(n.natAbs:Int)=n by omega]
     rw[if_neg (by simp;omega),e,Int.natCast_mul]
 rw[bV,bV];simp only[go_sem];refine PC.use (mY m (by omega)) ?_;simp only[go_sem];refine PC.use (mY n (by omega)) ?_;simp only[go_sem];refine PC.use (Vb m.natAbs n.natAbs (by omega) (by omega)) ?_;simp only[go_sem];refine PC.use (uE _ (m.natAbs*n.natAbs) (by omega)) ?_;rw[show sg (!(decide (m<0) == decide (n<0))) (m.natAbs*n.natAbs)=m*n from hsg];simp only[go_sem];refine PC.use (ER (m*n) (by omega)) ?_;simp only[go_sem];exact .refl _
theorem YK:dg 1=.sl [[int 1]]:=by
 have:aM 10 1=[1]:=by rw[lG (by decide) (by decide),show 1/10=0 from rfl,cY]
 simp only[dg,this];rfl
theorem Hc(a b:ByteArray)(ha:a.size≤1048576)(hb:b.size≤1048576):PC Tryz.prog 279 [str a,str b] (.tup [str (qR a b).1,str (qR a b).2.1,int (qR a b).2.2]):=by
 refine PC.body (c:=Tryz.f279.body.getD .skip) (fun _=>false) mixed Tryz.func279 rfl (by kernel_rfl) ?_;unfold Tryz.f279;simp only[Option.getD_some];simp only[go_sem];refine PC.use (yU a b ha hb) ?_;simp only[go_sem];refine aB (fun h=>?_) (fun h=>?_)
 · have h:iQ a b≠0:=by simpa using h
   simp only[go_sem];rw[show qR a b=(emp,emp,iQ a b)from if_neg h];exact .refl _
 have h:iQ a b=0:=by simpa using h
 obtain⟨m,n,rfl,rfl,hm,hn⟩:=mQ h;have lm:=nV hm;have ln:=nV hn;have e:qR (zed m) (zed n)=if n=0 then(emp,emp,10)else(zed (m.fdiv n),zed (m.fmod n),0):=by unfold qR;rw[if_pos h,bV,bV]
 rw[e];simp only[go_sem];refine PC.use (mY m (by omega)) ?_;simp only[go_sem];refine PC.use (mY n (by omega)) ?_;simp only[go_sem,List.length_map];refine aB (fun hb0=>?_) (fun hb0=>?_)
 · have h0 : n = 0 := by
     have:(aM 10 n.natAbs).length=0:=by rw[beq_iff_eq]at hb0;omega
     have:=(mO (b:=10) (by decide)).1 (List.length_eq_zero_iff.1 this);omega
   simp only[go_sem];rw[if_pos h0];exact .refl _
 have h0:n≠0:=fun e=>by rw[e,show(0:Int).natAbs=0 from rfl,cY]at hb0;cases hb0
 have hn0:0<n.natAbs:=by omega
 rw[if_neg h0];simp only[go_sem];refine PC.use (PK m.natAbs n.natAbs (by omega) hn0 (by omega)) ?_;simp only[go_sem,List.length_map];have hrlt:=Nat.mod_lt m.natAbs hn0;have lq:=bZ (b:=10) (by decide) (Nat.div_le_self m.natAbs n.natAbs);have lr:=bZ (b:=10) (by decide) (Nat.le_of_lt hrlt);have hz:decide (((aM 10 (m.natAbs%n.natAbs)).length:Int)>0)= !decide (m.natAbs%n.natAbs=0):=by
   rw[←decide_not,decide_eq_decide];have:=mO (b:=10) (n:=m.natAbs%n.natAbs) (by decide);have h2:=List.length_eq_zero_iff (l:=aM 10 (m.natAbs%n.natAbs));constructor
   · intro h3 h4
     rw[h4,cY]at h3;simp at h3
   · intro h3
     have:(aM 10 (m.natAbs%n.natAbs)).length≠0:=fun e=>h3 (this.1 (h2.1 e))
     omega
 rw[hz];refine aU (fun ρ' H'=>∃q r:Nat,ρ' 8=boo (decide (m<0))∧ρ' 10=boo (decide (n<0))∧ρ' 12=dg q∧ρ' 13=dg r∧(aM 10 q).length≤5000∧(aM 10 r).length≤5000∧sg (!(decide (m<0) == decide (n<0))) q=m.fdiv n∧sg (decide (n<0)) r=m.fmod n) ?_ fun K hK=>aB (fun hb=>?_) (fun hb=>?_)
 rotate_left
 · have hb : decide (m < 0) ≠ decide (n < 0) ∧ m.natAbs % n.natAbs ≠ 0 := by
     simp only[Bool.and_eq_true,Bool.not_eq_true',beq_eq_false_iff_ne,ne_eq,decide_eq_false_iff_not]at hb;exact hb
   obtain⟨f1,f2⟩:=Bw h0 hb.1 hb.2;have la:=OH (m.natAbs/n.natAbs) 1;have l1:(aM 10 1).length=1:=by rw[lG (by decide) (by decide),show 1/10=0 from rfl,cY];rfl
   have l2:=bZ (b:=10) (by decide) (show n.natAbs-m.natAbs%n.natAbs≤n.natAbs by omega);have hp:=Oe (m.natAbs/n.natAbs) 1 (by omega) (by omega);rw[YK]at hp;simp only[go_sem];refine PC.use hp ?_;simp only[go_sem];refine PC.use (Ai n.natAbs (m.natAbs%n.natAbs) (by omega) (by omega)) ?_;simp only[go_sem];refine hK _ _ ⟨m.natAbs/n.natAbs+1,n.natAbs-m.natAbs%n.natAbs,by simp only[go_sem],by simp only[go_sem],by simp only[go_sem],by simp only[go_sem],by omega,by omega,?_,f2.symm⟩;rw[f1];unfold sg;rw[if_pos (by simpa using hb.1)]
 · have hb : decide (m < 0) = decide (n < 0) ∨ m.natAbs % n.natAbs = 0 := by
     by_cases h1:decide (m<0)=decide (n<0)
     · exact .inl h1
     · refine .inr ?_
       have h2:(!(decide (m<0) == decide (n<0)))=true:=by simpa using h1
       rw[h2,Bool.true_and,Bool.not_eq_false']at hb;exact of_decide_eq_true hb
   obtain⟨f1,f2⟩:=E9 h0 hb;simp only[go_sem];exact hK _ _ ⟨_,_,by simp only[go_sem],by simp only[go_sem],by simp only[go_sem],by simp only[go_sem],by omega,by omega,f1.symm,f2.symm⟩
 rintro ρ H ⟨q,r,h8,h10,h12,h13,hq,hr,f1,f2⟩;simp only[go_sem,h8,h10,h12,h13];refine PC.use (uE _ q (by omega)) ?_;simp only[go_sem,h8,h10,h12,h13];refine PC.use (uE _ r (by omega)) ?_;simp only[go_sem,f1,f2];exact .refl _
theorem Tu(z:Int):z.tmod 10=if z<0 then -((z.natAbs%10:Nat):Int)else((z.natAbs%10:Nat):Int):=by
 rcases Int.lt_or_le z 0 with h|h
 · rw[if_pos h]
   obtain⟨N,rfl⟩:∃N:Nat,z= -(N:Int):=⟨z.natAbs,by omega⟩;rw[Int.neg_tmod,Int.natAbs_neg,Int.natAbs_natCast];rfl
 · rw[if_neg (by omega)]
   conv=>lhs;rw[show z=((z.natAbs:Nat):Int)by omega]
   rfl
theorem C8(z:Int):z.tdiv 10=if z<0 then -((z.natAbs/10:Nat):Int)else((z.natAbs/10:Nat):Int):=by
 rcases Int.lt_or_le z 0 with h|h
 · rw[if_pos h]
   obtain⟨N,rfl⟩:∃N:Nat,z= -(N:Int):=⟨z.natAbs,by omega⟩;rw[Int.neg_tdiv,Int.natAbs_neg,Int.natAbs_natCast];rfl
 · rw[if_neg (by omega)]
   conv=>lhs;rw[show z=((z.natAbs:Nat):Int)by omega]
   rfl
def agG:AV→Nat
 | .v (.int _ z)=>z.natAbs
 | _=>0
theorem J4(k:IntKind)(z:Int):agG (.v (.int k z))=z.natAbs:=(rfl)
theorem ahA(n:Int)(h0: -9223372036854775808≤n)(h1:n≤9223372036854775807):PC Tryz.prog 236 [int n] (str (zed n)):=by
 refine PC.body (c:=Tryz.f236.body.getD .skip) (fun t=>t == 3) mixed Tryz.func236 rfl (by kernel_rfl) ?_;unfold Tryz.f236;simp only[Option.getD_some];simp only[go_sem];refine aL fun j hj=>?_
 simp only[go_sem];refine⟨fun ρ H=>∃(z:Int) (j:Nat) (o:List Nat),ρ 0=int z∧ρ 3=.os j∧ρ 4=boo (decide (n<0))∧H j=some (bI o)∧Lim 10 o∧o.length+(aM 10 z.natAbs).length=(aM 10 n.natAbs).length∧(z<0→n<0)∧(0<z→0<n)∧ -9223372036854775808≤z∧z≤9223372036854775807∧ofL 10 o+10^o.length*z.natAbs=n.natAbs,fun ρ _=>agG (ρ 0),
   ⟨n,j,[],by simp only[go_sem],by simp only[go_sem],by simp only[go_sem],xE,by simp[Lim],by simp,id,id,h0,h1,by simp[ofL]⟩,?_⟩
 have hln:(aM 10 n.natAbs).length≤20:=gE (by decide) (by omega);clear hj j;rintro ρ H ⟨z,j,o,e0,e3,e4,Rj,ho,hol,hz1,hz2,b0,b1,hv⟩;simp only[go_sem,e0,e3,e4];refine aB (fun hb=>?_) (fun hb=>?_)
 · have hz:z≠0:=by simpa using hb
   have hzn:z.natAbs≠0:=by omega
   have em:(z.tmod 10).natAbs=z.natAbs%10:=by rw[Tu];split <;> omega
   have ed:(z.tdiv 10).natAbs=z.natAbs/10:=by rw[C8];split <;> omega
   have ed1:z.tdiv 10<0→z<0:=fun h=>by rw[C8]at h;split at h <;> omega
   have ed2:0<z.tdiv 10→0<z:=fun h=>by rw[C8]at h;split at h <;> omega
   have hst:ofL 10 (o++[z.natAbs%10])+10^(o++[z.natAbs%10]).length*(z.natAbs/10)=n.natAbs:=by
     rw[←hv,qP,List.length_append,List.length_cons,List.length_nil,Nat.pow_succ];have e:=Nat.mod_add_div z.natAbs 10;have e2:10^o.length*(z.natAbs%10+10*(z.natAbs/10))=10^o.length*z.natAbs:=by rw[e]
     grind
   have hlim:z.natAbs%10<10:=Nat.mod_lt _ (by decide);have hll:(o++[z.natAbs%10]).length+(aM 10 (z.natAbs/10)).length=(aM 10 n.natAbs).length:=by
     rw[←hol,lG (n:=z.natAbs) (by decide) hzn];simp;omega
   have ew:IntKind.i64.wrap (z.tdiv 10)=z.tdiv 10:=aQ (by omega);simp only[go_sem,e0,e3,e4];refine⟨by decide,?_⟩;refine aU (fun ρ' H'=>ρ' 0=int z∧ρ' 3=.os j∧ρ' 4=boo (decide (n<0))∧ρ' 5=int (z.natAbs%10:Nat)∧H' j=some (bI o)) ?_ fun K hK=>aB (fun hb=>?_) (fun hb=>?_)
   rotate_left
   · have hb:=of_decide_eq_true hb
     have e1:IntKind.i64.wrap (0-z.tmod 10)=((z.natAbs%10:Nat):Int):=by rw[aQ (by omega)];omega
     simp only[go_sem,e0,e3,e4,e1];exact hK _ _ ⟨by simp only[go_sem,e0],by simp only[go_sem,e3],by simp only[go_sem,e4],by simp only[go_sem],Rj⟩
   · have hb:=of_decide_eq_false hb
     have e1:z.tmod 10=((z.natAbs%10:Nat):Int):=by omega
     simp only[go_sem,e0,e3,e4];exact hK _ _ ⟨by simp only[go_sem,e0],by simp only[go_sem,e3],by simp only[go_sem,e4],by simp only[go_sem];rw[e1],Rj⟩
   clear e0 e3 e4 Rj;rintro ρ H ⟨e0,e3,e4,e5,Rj⟩;simp only[go_sem,e0,e3,e4,e5];refine aX Rj ⟨rfl,rfl⟩ ⟨rfl,trivial⟩ (by simp only[bI,List.length_map,List.length_cons,List.length_nil];omega) (fun j' hj'=>?_);simp only[go_sem,e0,e3,e4,e5,ew];refine⟨by decide,⟨z.tdiv 10,j',_,rfl,rfl,nA,ho.snoc hlim,?_,fun h=>hz1 (ed1 h),fun h=>hz2 (ed2 h),by omega,by omega,?_⟩,?_⟩
   · rw[ed];exact hll
   · rw[ed];exact hst
   · rw[J4,J4,ed];omega
 · have hz:z=0:=by simpa using hb
   subst hz;simp only[go_sem,e3,e4];rw[show(0:Int).natAbs=0 from rfl,Nat.mul_zero,Nat.add_zero]at hv;have ht:=O3 (decide (n<0)) o ho (by omega);rw[hv,AR]at ht;refine PC.useF [j] (.cons _ _ _ _ (.refl _) (.cons _ _ _ _ (.row _ _ _ (by simp only[List.mem_singleton,if_true];exact Rj) (ConvE.refl _)) .nil)) ht ?_;simp only[go_sem];exact .refl _
end Go.Proofs.YtdlijlecpopadaaGreatDoor.Nu
end

section
set_option linter.unusedSimpArgs false
set_option linter.unusedVariables false
namespace Go.Proofs.YtdlijlecpopadaaGreatDoor.Nu
open Go.Aw Go.Aw.D Go.Proofs Ty Go.Nu
set_option maxRecDepth 100000
theorem FU(s:ByteArray)(h:s.size≤1048576):PC Tryz.prog 104 [str s] (int (dO s).size):=by
 have hs:=cE s;refine PC.body (c:=Tryz.f104.body.getD .skip) (fun _=>false) mixed Tryz.func104 rfl (by kernel_rfl) ?_;unfold Tryz.f104;simp only[Option.getD_some];simp only[go_sem];refine⟨fun h=>⟨by omega,by have:=of_decide_eq_true h;omega⟩,?_⟩;rw[sJ];have hd:(dO s).size=s.size-stN s:=by rw[←cE,rL,List.length_drop,hs]
 have hst:=Hw s;refine aB (fun hb=>?_) (fun hb=>?_)
 · have:stN s=1:=if_pos hb
   simp only[go_sem];refine cI ?_;rw[aQ (by omega)];omega
 · have:stN s=0:=if_neg (by rw[hb];simp)
   simp only[go_sem];exact cI (by omega)
theorem alI{l:List UInt8}{k:Nat}{c:UInt8}(hz:∀x∈l.take k,(x != dC)=true)(hc:l[k]?=some c)(h:c=dC):l.any (· == dC)=true∧l.takeWhile (· != dC)=l.take k∧(l.dropWhile (· != dC)).drop 1=l.drop (k+1):=by
 obtain⟨hk,e⟩:=List.getElem?_eq_some_iff.1 hc;have e1:l=l.take k++dC::l.drop (k+1):=by
   conv=>lhs;rw[←List.take_append_drop k l]
   rw[List.drop_eq_getElem_cons hk,e,h]
 refine⟨List.any_eq_true.2 ⟨c,List.mem_of_getElem? hc,by simp[h]⟩,?_,?_⟩
 · conv=>lhs;rw[e1]
   exact EZ hz
 · conv=>lhs;rw[e1]
   rw[Fx hz];rfl
theorem KZ(s:ByteArray)(h:s.size≤1048576):PC Tryz.prog 101 [str s] (.tup [str (fI s),str (eZ s),boo (jP s)]):=by
 have hs:=cE s;refine PC.body (c:=Tryz.f101.body.getD .skip) (fun _=>false) mixed Tryz.func101 rfl (by kernel_rfl) ?_;unfold Tryz.f101;simp only[Option.getD_some];simp only[go_sem];refine⟨fun ρ _=>∃k:Nat,k≤(bl s).length∧ρ 0=str s∧ρ 5=int k∧∀c∈(bl s).take k,(c != dC)=true,fun ρ _=>(bl s).length-bE (ρ 5),⟨0,Nat.zero_le _,rfl,rfl,by simp⟩,?_⟩;rintro ρ H ⟨k,hk,h0,h5,hz⟩;simp only[go_sem,h0,h5];refine aB (fun hlt=>?_) (fun hge=>?_)
 · have hlt:k<(bl s).length:=by have:=ltB hlt;omega
   obtain⟨c,hc⟩:=aW hlt;simp only[go_sem,h0,h5,oK hc];refine⟨⟨by omega,by omega⟩,?_⟩;rw[show(((c.toNat:Nat):Int) == 47)=(c == dC)from LX c dC];refine aB (fun hb=>?_) (fun hb=>?_)
   · have hb:c=dC:=by simpa using hb
     obtain⟨t1,t2,t3⟩:=alI hz hc hb;have e1:s.extract 0 k=fI s:=jJ (by rw[eQ,List.drop_zero,←t2];exact(iO _).symm);have hsl:jP s=true:=t1;have e2:s.extract (k+1) s.size=eZ s:=jJ (by
       rw[eQ,←hs,List.take_length,←t3];unfold eZ;rw[if_pos hsl];exact(iO _).symm)
     simp only[go_sem];refine fQ (by rfl) (by kernel_rfl) ?_;simp only[go_sem,h0,h5,bA (show k≤4611686018427387904 by omega),Int.toNat_natCast,e1,e2];rw[hsl];exact⟨⟨by omega,by omega⟩,⟨by omega,by omega⟩,.refl _⟩
   · have hb:c≠dC:=by simpa using hb
     simp only[go_sem,h0,h5,bA (show k≤4611686018427387904 by omega)];exact⟨⟨k+1,hlt,rfl,sT hc (by simpa using hb) hz⟩,by simp only[aH];omega⟩
 · have hge:k=(bl s).length:=by rw[←hs]at hge;exact geB hk hge
   subst hge;rw[List.take_length]at hz;have hsl:jP s=false:=Ta hz;simp only[go_sem,h0];rw[hsl,F8 hsl,Kv hsl,←zW];exact .refl _
theorem Bt(n:Int)(h0: -9223372036854775808≤n)(h1:n≤9223372036854775807):PC Tryz.prog 204 [int n] (str (zed n)):=by
 refine PC.body (c:=Tryz.f204.body.getD .skip) (fun _=>false) mixed Tryz.func204 rfl (by kernel_rfl) ?_;unfold Tryz.f204;simp only[Option.getD_some];simp only[go_sem];refine PC.use (ahA n h0 h1) ?_;simp only[go_sem];exact .refl _
theorem sZ(s:ByteArray)(h:s.size≤1048576):PC Tryz.prog 53 [str s] (boo (cK s)):=by
 have hn:=Gs s;have hd:=FD s;have h1:(1:Nat)≤1048576:=by omega
 refine PC.body (c:=Tryz.f53.body.getD .skip) (fun _=>false) mixed Tryz.func53 rfl (by kernel_rfl) ?_;unfold Tryz.f53;simp only[Option.getD_some];simp only[go_sem];refine PC.use (KZ s h) ?_;simp only[go_sem];refine PC.use (tB (fI s) (by omega)) ?_;simp only[go_sem];refine⟨_,fun _=>(wO (eZ s) (by omega)).q rfl,?_⟩;simp only[go_sem];refine⟨_,fun _=>(FU (fI s) (by omega)).q rfl,?_⟩;simp only[go_sem];refine⟨_,fun _=>(FU (eZ s) (by omega)).q rfl,?_⟩;simp only[go_sem];refine aB (fun hb=>?_) (fun hb=>?_)
 · simp only[go_sem]
   refine cB ?_;by_cases hr:dB (eZ s)=true
   · refine(Ec ?_).symm
     rw[hr]at hb;simpa using hb
   · unfold cK
     rw[show dB (eZ s)=false by simpa using hr];simp
 have hr:dB (eZ s)=true:=by
   simp only[Bool.or_eq_false_iff,Bool.not_eq_false']at hb;exact hb.1.1.2
 have hb2:(!eC (fI s)||decide (((dO (fI s)).size:Int)>4096)||decide (((dO (eZ s)).size:Int)>4096))=false:=by
   rw[hr]at hb;simpa using hb
 obtain⟨f1,f2,f3,f4⟩:=vU hb2 hr;simp only[go_sem];refine aB (fun hs=>?_) (fun hs=>?_)
 · simp only[go_sem]
   refine cB ?_;have h0:jP s=false:=by simpa using hs
   unfold cK;rw[f1,h0];rfl
 have h0:jP s=true:=by simpa using hs
 simp only[go_sem,mE,AL];refine aB (fun hc=>?_) (fun hc=>?_)
 · simp only[go_sem]
   refine cB ?_;unfold cK;rw[h0];simp only[Bool.or_eq_true]at hc;rcases hc with(hc|hc)|hc <;> simp[hc]
 simp only[Bool.or_eq_false_iff]at hc;obtain⟨⟨h5,h3⟩,h4⟩:=hc;have v0:dR (eZ s)≠0:=fun e=>lS.1 h3 (by rw[←iP hr,e])
 have v1:dR (eZ s)<cC:=(tS hr).1 f4;have hE:iQ (fI s) (fI s)=0:=by
   unfold iQ;rw[f2];simp;omega
 have ha:=Td (fI s) (by omega);rw[if_pos hE]at ha;have hm:(fF (fI s)).natAbs<cC:=by
   have:=nZ (fF (fI s));rw[qD f2]at this;exact this.1 f3
 have hdd:=iP hr;have hg:=Ul (dec (fF (fI s)).natAbs) (eZ s) (cV hm) (by omega);have e:vA (dec (fF (fI s)).natAbs) (eZ s)=(dec (Nat.gcd (fF (fI s)).natAbs (dR (eZ s))),0):=by
   unfold vA;rw[if_pos (Co (kC _) hr ((gJ _).2 hm) f4),bO,tJ (Nat.lt_of_le_of_lt (Nat.gcd_le_right _ (by omega)) v1)]
 rw[e]at hg;simp only[go_sem];refine PC.use ha ?_;simp only[go_sem];refine PC.use hg ?_;simp only[go_sem,AL];refine cB ?_;unfold cK;rw[f1,h0,h3,h4,h5];simp only[beq_self_eq_true,Bool.true_and,Bool.not_true,Bool.not_false,Bool.false_or];rw[Bool.eq_iff_iff,kB,nW,beq_iff_eq]
theorem IT(s:ByteArray)(h:s.size≤1048576):PC Tryz.prog 278 [str s] (.tup (if cK s=true then[str (fI s),str (eZ s),int 0]else[str emp,str emp,int 3])):=by
 by_cases hr:cK s=true
 · rw[if_pos hr]
   refine PC.body (c:=Tryz.f278.body.getD .skip) (fun _=>false) mixed Tryz.func278 rfl (by kernel_rfl) ?_;unfold Tryz.f278;simp only[Option.getD_some];simp only[go_sem];refine PC.use (sZ s h) ?_;simp only[go_sem,hr];refine aB (fun hb=>by cases hb) (fun _=>?_);simp only[go_sem];refine PC.use (KZ s h) ?_;simp only[go_sem];exact .refl _
 · rw[if_neg hr]
   have hr:cK s=false:=by simpa using hr
   refine PC.body (c:=Tryz.f278.body.getD .skip) (fun _=>false) mixed Tryz.func278 rfl (by kernel_rfl) ?_;unfold Tryz.f278;simp only[Option.getD_some];simp only[go_sem];refine PC.use (sZ s h) ?_;simp only[go_sem,hr];refine aB (fun _=>?_) (fun hb=>by cases hb);simp only[go_sem];exact .refl _
end Go.Proofs.YtdlijlecpopadaaGreatDoor.Nu
end

section
set_option linter.unusedSimpArgs false
set_option linter.unusedVariables false
namespace Go.Proofs.YtdlijlecpopadaaGreatDoor.Nu
open Go.Aw Go.Aw.D Go.Proofs Ty Go.Nu
set_option maxRecDepth 100000
end Go.Proofs.YtdlijlecpopadaaGreatDoor.Nu
end
