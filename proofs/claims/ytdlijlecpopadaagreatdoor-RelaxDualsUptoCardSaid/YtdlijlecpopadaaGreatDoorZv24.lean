/- Texts joined by a program: AuC. -/
import Derived.Test.YtdlijlecpopadaaGreatDoorZv22
set_option linter.unusedSimpArgs false
set_option linter.unusedVariables false
set_option maxRecDepth 100000
namespace Go.Proofs.YtdlijlecpopadaaGreatDoor.Sq
open Go.Aw Go.Aw.D Go.Proofs Ty
open Mv (fF eI NC.pc bK)
theorem VK{H:aF}{a b:ByteArray}(h:a=b):Conv H (.v (.string a)) (.v (.string b)):=h▸.refl _
theorem Vs(n:Nat)(hn:n<20):PC Tryz.prog 245 [int n] (str (iR n)):=by
 refine PC.body (c:=Tryz.f245.body.getD .skip) (fun _=>false) mixed Tryz.func245 rfl (by kernel_rfl) ?_;unfold Tryz.f245;simp only[Option.getD_some];simp only[go_sem];refine aA (fun hb=>?_) (fun hb=>?_)
 · simp only[go_sem,bG (show n≤4611686018427387904 by omega)]
   have hc:n=0∨n=1∨n=2∨n=3∨n=4∨n=5∨n=6∨n=7∨n=8∨n=9:=by simp at hb;omega
   rcases hc with rfl|rfl|rfl|rfl|rfl|rfl|rfl|rfl|rfl|rfl <;> exact⟨by decide,VK (by rw[rI (by omega)];rfl)⟩
 · have h10:10≤n:=by simp at hb;omega
   have w1:IntKind.i64.wrap ((n:Int)*2)=((n*2:Nat):Int):=by rw[aT (by omega)];omega
   have w2:IntKind.i64.wrap (((n*2:Nat):Int)+2)=((n*2+2:Nat):Int):=by rw[aT (by omega)];omega
   simp only[go_sem,w1,w2];have hc:n=10∨n=11∨n=12∨n=13∨n=14∨n=15∨n=16∨n=17∨n=18∨n=19:=by omega
   rcases hc with rfl|rfl|rfl|rfl|rfl|rfl|rfl|rfl|rfl|rfl <;> exact⟨by decide,VK (by rw[vJ (by omega),rI (by omega)];rfl)⟩
theorem JZ(n:Nat)(hn:n<20):PC Tryz.prog 215 [int n,int 10] (str (iR n)):=by
 refine PC.body (c:=Tryz.f215.body.getD .skip) (fun _=>false) mixed Tryz.func215 rfl (by kernel_rfl) ?_;unfold Tryz.f215;simp only[Option.getD_some];simp only[go_sem];refine aA (fun _=>?_) (fun hb=>by simp at hb);simp only[go_sem];refine aA (fun hb=>?_) (fun hb=>by simp at hb;omega);simp only[go_sem];refine PC.use (Vs n hn) ?_;simp only[go_sem];exact .refl _
theorem UP(n:Nat)(hn:n<20):PC Tryz.prog 173 [int n] (str (iR n)):=by
 refine PC.body (c:=Tryz.f173.body.getD .skip) (fun _=>false) mixed Tryz.func173 rfl (by kernel_rfl) ?_;unfold Tryz.f173;simp only[Option.getD_some];simp only[go_sem];refine PC.use (JZ n hn) ?_;simp only[go_sem];exact .refl _
theorem Kt(n:Nat)(hn:n<20):PC Tryz.prog 120 [int n] (str (iR n)):=by
 refine PC.body (c:=Tryz.f120.body.getD .skip) (fun _=>false) mixed Tryz.func120 rfl (by kernel_rfl) ?_;unfold Tryz.f120;simp only[Option.getD_some];simp only[go_sem];refine PC.use (UP n hn) ?_;simp only[go_sem];exact .refl _
theorem bU{n:Int}(h: -9223372036854775808≤n∧n≤9223372036854775807):W n=n:=aT h
theorem Hu(n a b:Int):PC Tryz.prog 269 [int n,int a,int b] (boo (decide (n≥a)&&decide (n≤b))):=by
 refine PC.body (c:=Tryz.f269.body.getD .skip) (fun _=>false) mixed Tryz.func269 rfl (by kernel_rfl) ?_;unfold Tryz.f269;simp only[Option.getD_some];simp only[go_sem];exact .refl _
structure TravB(l:List Point):Prop where
 len:1≤l.length∧l.length≤16
 pt:∀p∈l,0≤p.t∧p.t≤4096∧p.t≤p.a∧p.a≤p.t+4096
 mono:∀i,i+1<l.length→(dC l i).t<(dC l (i+1)).t∧(dC l i).a≤(dC l (i+1)).a
theorem eS{α:Type}{b:Bool}{f:α}(h:opt b f=[]):b=false:=by
 cases b with
 | false=>rfl
 | true=>simp[opt]at h
theorem Gi{l:List Point}(h:hY l=[]):TravB l:=by
 unfold hY at h;rw[List.append_eq_nil_iff]at h;have h1:=eS h.1;unfold BW at h1;simp only[Bool.or_eq_false_iff,decide_eq_false_iff_not]at h1;have h2:∀i,i<l.length→fV l i=[]:=fun i hi=>List.flatMap_eq_nil_iff.1 h.2 i (List.mem_range.2 hi)
 have h3:∀p∈l,0≤p.t∧p.t≤4096∧p.t≤p.a∧p.a≤p.t+4096:=fun p hp=>by
   obtain⟨i,hi,rfl⟩:=List.getElem_of_mem hp;have:=h2 i hi;unfold fV at this;rw[List.append_eq_nil_iff]at this;have hb:=eS this.1;rw[dD (List.getElem?_eq_getElem hi)]at hb;unfold nN at hb;simp only[Bool.or_eq_false_iff,decide_eq_false_iff_not]at hb;have w:=aT (n:=l[i].t+4096) (by omega);omega
 refine⟨by omega,h3,fun i hi=>?_⟩;have:=h2 (i+1) hi;unfold fV at this;rw[List.append_eq_nil_iff]at this;have hb:=eS this.2;unfold Fs at hb;have e:i+1-1=i:=rfl;rw[e]at hb;simp at hb;exact hb
theorem Gw{l:List Point}(h:TravB l):∀(i j:Nat),i<j→j<l.length→(dC l i).t<(dC l j).t
 | i,0,hij,_=>by omega
 | i,j+1,hij,hj=>by
   have h1:=(h.mono j hj).1;by_cases e:i=j
   · subst e;exact h1
   · have:=Gw h i j (by omega) (by omega)
     omega
theorem Qf(l:List Point)(h:TravB l):PC Tryz.prog 302 [.sl (l.map bR)] (.sl []):=by
 have hl:=h.len;refine PC.body (c:=Tryz.f302.body.getD .skip) (fun _=>false) mixed Tryz.func302 rfl (by kernel_rfl) ?_;unfold Tryz.f302;simp only[Option.getD_some];simp only[go_sem];refine aA (fun hb=>by exfalso;simp only[Bool.or_eq_true,beq_iff_eq,decide_eq_true_eq]at hb;omega) (fun _=>?_);simp only[go_sem];refine⟨fun ρ _=>∃k:Nat,k≤l.length∧ρ 0=.sl (l.map bR)∧ρ 19=.sl (l.map bR)∧ρ 20=int l.length∧ρ 21=int k∧ρ 3=.sl [],fun ρ _=>l.length-bQ (ρ 21),⟨0,Nat.zero_le _,rfl,rfl,rfl,rfl,rfl⟩,?_⟩;rintro ρ H ⟨k,hk,h0,h19,h20,h21,h3⟩;simp only[go_sem,h0,h19,h20,h21,h3];refine aA (fun hlt=>?_) (fun hge=>?_)
 · have hlt:=cA hlt
   obtain⟨p,hp⟩:=bC hlt;have b1:=inB hlt;have hpt:=h.pt p (List.mem_of_getElem? hp);simp only[go_sem,h0,h19,h20,h21,h3,aH hp,b1];refine aN fun i5 hi50=>?_
   simp only[go_sem,h0,h19,h20,h21,h3];refine aU (aB _ _ _) (by simp[fQ]) ?_;generalize hGi5:aJ (aJ _ i5 _) i5 _=HGi5;have R5:HGi5 i5=some (⟨136,2,[bR p]⟩):=by rw[←hGi5,aB];rfl
   clear hGi5 hi50;simp only[go_sem,h0,h19,h20,h21,h3,R5];refine PC.use (Kt k (by omega)) ?_;simp only[go_sem,h0,h19,h20,h21,h3,R5];refine PC.use (Hu _ _ _) ?_;simp only[go_sem,h0,h19,h20,h21,h3,R5];have w:=aT (n:=p.t+4096) (by omega);refine aA (fun hb=>by exfalso;rw[w]at hb;simp at hb;omega) (fun _=>?_);simp only[go_sem,h0,h19,h20,h21,h3,R5];refine gE [i5] [(0,false),(1,false),(2,false),(3,true),(4,true),(5,true),(6,false),(7,false),(8,false),(9,false),(10,false),(11,false),(12,false),(13,true),(14,true),(15,true),(16,false),(17,false),(18,false),(19,false),(20,false),(21,false),(22,false),(23,false)] (by simp[R5]) (by kernel_rfl) fun Hp Hr hp5 hr _ hr0=>?_
   have P5:=(hp5 i5 (by simp)).trans R5;obtain⟨q,hq⟩:=bC (show k-1<l.length by omega);have hg1:decide ((k:Int)>0)=true→(0≤IntKind.i64.wrap ((k:Int)-1)∧IntKind.i64.wrap ((k:Int)-1)<(l.length:Int)):=fun hg=>by
     simp at hg;rw[mH (show k≤4611686018427387904 by omega)];omega
   simp only[go_sem,h0,h19,h20,h21,h3,P5,Tg (show k≤4611686018427387904 by omega),aH hq];refine⟨hg1,fun hg=>hg1 hg.1,kA fun _ Hm _ _=>?_⟩;simp only[go_sem,h0,h19,h20,h21,h3];have hm:0<k→q.t<p.t∧q.a≤p.a:=fun hk0=>by
     have:=h.mono (k-1) (by omega);rw[show k-1+1=k by omega,dD hp,dD hq]at this;exact this
   refine aA (fun hb=>?_) (fun _=>?_)
   · exfalso
     simp only[Bool.or_eq_true,Bool.and_eq_true,decide_eq_true_eq]at hb;have:=hm (by omega);omega
   simp only[go_sem,h0,h19,h20,h21,h3,bG (show k≤4611686018427387904 by omega)];exact⟨⟨k+1,hlt,rfl⟩,by simp only[aI];omega⟩
 · simp only[go_sem,h3]
   exact .refl _
theorem Gl(l:List Point)(h:TravB l):PC Tryz.prog 270 [.sl (l.map bR)] (boo true):=by
 refine PC.body (c:=Tryz.f270.body.getD .skip) (fun _=>false) mixed Tryz.func270 rfl (by kernel_rfl) ?_;unfold Tryz.f270;simp only[Option.getD_some];simp only[go_sem];refine PC.use (Qf l h) ?_;simp only[go_sem];exact .refl _
theorem DM(p:Point)(t:Int):PC Tryz.prog 304 [.agg (bR p),int t] (int (W (p.t-t))):=by
 refine PC.body (c:=Tryz.f304.body.getD .skip) (fun _=>false) mixed Tryz.func304 rfl (by kernel_rfl) ?_;unfold Tryz.f304;simp only[Option.getD_some];simp only[go_sem];exact .refl _
def bs(l:List Point)(t:Int):Nat:=(l.takeWhile fun p=>decide (p.t<t)).length
def uU(l:List Point)(t:Int):Bool:=decide ((bs l t:Int)<(l.length:Int))&&((dC l (bs l t)).t-t == 0)
theorem RZ{α:Type}{p:α→Bool}:∀(l:List α) (i:Nat),i≤l.length→(∀c x,c<i→l[c]?=some x→p x=true)→(∀x,l[i]?=some x→p x=false)→(l.takeWhile p).length=i
 | [],i,hi,_,_=>by simp at hi;simp[hi]
 | a::r,0,_,_,h2=>by
   have:=h2 a rfl;simp[List.takeWhile,this]
 | a::r,i+1,hi,h1,h2=>by
   have ha:=h1 0 a (by omega) rfl;rw[List.takeWhile_cons,if_pos ha,List.length_cons,RZ r i (by simpa using hi) (fun c x hc hx=>h1 (c+1) x (by omega) (by simpa using hx)) (fun x hx=>h2 x (by simpa using hx))]
theorem X1{l:List Point}{t:Int}{i:Nat}(hi:i≤l.length)(h1:∀c,c<i→(dC l c).t<t)(h2:i<l.length→t≤(dC l i).t):bs l t=i:=by
 refine RZ l i hi (fun c x hc hx=>?_) (fun x hx=>?_)
 · have:=h1 c hc
   rw[dD hx]at this;simpa using this
 · have:=h2 (List.getElem?_eq_some_iff.1 hx).1
   rw[dD hx]at this;simp;omega
theorem Ov(l:List Point)(t:Int)(h:TravB l)(ht:0≤t∧t≤1073741824):PC Tryz.prog 303 [.sl (l.map bR),int t,.v (.func (.func 304) #[] #[])] (.tup [int (bs l t),boo (uU l t)]):=by
 have hl:=h.len;refine PC.body (c:=Tryz.f303.body.getD .skip) (fun _=>false) mixed Tryz.func303 rfl (by kernel_rfl) ?_;unfold Tryz.f303;simp only[Option.getD_some];simp only[go_sem];have hok:aC Tryz.prog 304=true:=by kernel_rfl
 refine⟨fun ρ _=>∃i j:Nat,i≤j∧j≤l.length∧ρ 0=.sl (l.map bR)∧ρ 1=int t∧ρ 2=.v (.func (.func 304) #[] #[])∧ρ 8=int l.length∧ρ 9=int i∧ρ 10=int j∧(∀c,c<i→(dC l c).t<t)∧(j<l.length→t≤(dC l j).t),fun ρ _=>bQ (ρ 10)-bQ (ρ 9),⟨0,l.length,Nat.zero_le _,Nat.le_refl _,rfl,rfl,rfl,rfl,rfl,rfl,fun c hc=>by omega,fun hc=>by omega⟩,?_⟩;rintro ρ H ⟨i,j,hij,hj,h0,h1,h2,h8,h9,h10,hz,hy⟩;simp only[go_sem,h0,h1,h2,h8,h9,h10];refine aA (fun hlt=>?_) (fun hge=>?_)
 · have hlt:i<j:=by simp at hlt;omega
   have w1:IntKind.i64.wrap ((i:Int)+(j:Int))=((i+j:Nat):Int):=by rw[aT (by omega)];omega
   have w2:IntKind.u64.wrap ((i+j:Nat):Int)=((i+j:Nat):Int):=Pg (by omega);have w3:shV .shr .u64 ((i+j:Nat):Int) 1=(((i+j)/2:Nat):Int):=by
     show((i+j:Nat):Int).fdiv (2^min (1:Int).toNat 64)=_;rw[Int.fdiv_eq_ediv_of_nonneg _ (by decide)];rfl
   have w4:IntKind.i64.wrap (((i+j)/2:Nat):Int)=(((i+j)/2:Nat):Int):=aT (by omega);have hm:(i+j)/2<l.length:=by omega
   generalize hme:(i+j)/2=m at w3 w4 hm;have him:i≤m∧m<j:=by omega
   obtain⟨p,hp⟩:=bC hm;have b1:=inB hm;have hpt:=h.pt p (List.mem_of_getElem? hp);have e:W (p.t-t)=p.t-t:=bU (by omega);simp only[go_sem,h0,h1,h2,h8,h9,h10,w1,w2,w3,w4,aH hp,b1,hok];refine⟨by decide,PC.use (DM p t) ?_⟩;simp only[go_sem,h0,h1,h2,h8,h9,h10,e];refine fU (fun ρ' _=>∃i' j':Nat,i'≤j'∧j'≤l.length∧j'-i'<j-i∧ρ' 0=.sl (l.map bR)∧ρ' 1=int t∧ρ' 2=.v (.func (.func 304) #[] #[])∧ρ' 8=int l.length∧ρ' 9=int i'∧ρ' 10=int j'∧(∀c,c<i'→(dC l c).t<t)∧(j'<l.length→t≤(dC l j').t)) ?_ fun K hK _ _=>aA (fun hb=>?_) (fun hb=>?_)
   · rintro ρ' H' ⟨i',j',a1,a2,a3,c0,c1,c2,c8,c9,c10,cz,cy⟩
     exact⟨⟨i',j',a1,a2,c0,c1,c2,c8,c9,c10,cz,cy⟩,by rw[c9,c10];simp only[aI];omega⟩
   · have hb:p.t-t<0:=by simpa using hb
     simp only[go_sem,h0,h1,h2,h8,h9,h10,bG (show m≤4611686018427387904 by omega)];refine hK _ _ ⟨m+1,j,by omega,hj,by omega,by simp only[go_sem,h0],by simp only[go_sem,h1],by simp only[go_sem,h2],by simp only[go_sem,h8],by simp only[go_sem],by simp only[go_sem,h10],fun c hc=>?_,hy⟩;have e2:=dD hp;by_cases e3:c=m
     · subst e3;rw[e2];omega
     · have:=Gw h c m (by omega) hm
       rw[e2]at this;omega
   · have hb:¬p.t-t<0:=by simpa using hb
     simp only[go_sem,h0,h1,h2,h8,h9,h10];refine hK _ _ ⟨i,m,by omega,by omega,by omega,by simp only[go_sem,h0],by simp only[go_sem,h1],by simp only[go_sem,h2],by simp only[go_sem,h8],by simp only[go_sem,h9],by simp only[go_sem],hz,fun _=>?_⟩;rw[dD hp];omega
 · have hge:i=j:=by simp at hge;omega
   subst hge;have hbs:bs l t=i:=X1 hj hz hy;simp only[go_sem,h0,h1,h2,h8,h9,h10,hok];have hget:decide ((i:Int)<(l.length:Int))=true→(l.map bR).getD i []=bR (dC l i):=fun hg=>by
     have hlt:i<l.length:=by simp at hg;omega
     obtain⟨p,hp⟩:=bC hlt;rw[aH hp,dD hp]
   have hin:decide ((i:Int)<(l.length:Int))=true→0≤(i:Int)∧(i:Int)<(l.length:Int):=fun hg=>by simp at hg;omega
   refine⟨fun hg=>⟨hin hg,by rw[hget hg];rfl⟩,fun hg=>by rw[hget hg];exact Nat.le_refl _,int (W ((dC l i).t-t)),fun hg=>by rw[hget hg,xX];exact(DM _ t).q rfl,?_⟩;simp only[go_sem];have e:uU l t=(decide ((i:Int)<(l.length:Int))&&(W ((dC l i).t-t) == 0)):=by
     unfold uU;rw[hbs];by_cases hlt:i<l.length
     · have hpt:=h.pt _ (List.mem_of_getElem? (bC hlt).choose_spec)
       rw[←dD (bC hlt).choose_spec]at hpt;rw[bU (by omega)]
     · have:decide ((i:Int)<(l.length:Int))=false:=by simp;omega
       rw[this];rfl
   rw[hbs,e];exact .refl _
def Sx(p q:Point)(t:Int):Int:=W (p.a+IntKind.i64.wrap (Int.tdiv (W (W (W (W (t-p.t)*W (q.a-p.a))+W (q.t-p.t))-1)) (W (q.t-p.t))))
def jA(l:List Point)(t:Int):Int:=
 if uU l t=true then(dC l (bs l t)).a else if((bs l t:Int) == 0)=true then sC (dC l 0) t
 else if((bs l t:Int) == (l.length:Int))=true then sC (dC l (bs l t-1)) t else Sx (dC l (bs l t-1)) (dC l (bs l t)) t
theorem VP(l:List Point)(t:Int):bs l t≤l.length:=by
 have:=congrArg List.length (List.takeWhile_append_dropWhile (p:=fun p:Point=>decide (p.t<t)) (l:=l));rw[List.length_append]at this;unfold bs;omega
theorem Pc(l:List Point)(t:Int)(h:TravB l)(ht:0≤t∧t≤1073741824):PC Tryz.prog 271 [.sl (l.map bR),int t] (int (jA l t)):=by
 have hl:=h.len;have hb:=VP l t;refine PC.body (c:=Tryz.f271.body.getD .skip) (fun _=>false) mixed Tryz.func271 rfl (by kernel_rfl) ?_;unfold Tryz.f271;simp only[Option.getD_some];simp only[go_sem];refine PC.use (Ov l t h ht) ?_;simp only[go_sem];obtain⟨i,hi⟩:∃i,bs l t=i:=⟨_,rfl⟩;have harr:jA l t=if uU l t=true then(dC l i).a else if((i:Int) == 0)=true then sC (dC l 0) t else if((i:Int) == (l.length:Int))=true then sC (dC l (i-1)) t else Sx (dC l (i-1)) (dC l i) t:=by unfold jA;rw[hi]
 rw[hi]at hb ⊢;rw[harr];refine aA (fun h1=>?_) (fun h1=>?_)
 · have hlt:i<l.length:=by unfold uU at h1;rw[hi]at h1;simp at h1;omega
   obtain⟨p,hp⟩:=bC hlt;have b1:=inB hlt;simp only[go_sem,aH hp,b1];rw[if_pos h1,dD hp];exact .refl _
 simp only[go_sem];refine aA (fun h2=>?_) (fun h2=>?_)
 · obtain⟨p,hp⟩:=bC (show 0<l.length by omega)
   simp only[go_sem];refine gL (by rfl) (by kernel_rfl) ?_;simp only[go_sem,aH hp];rw[if_neg (by rw[h1];simp),if_pos h2,dD hp];have b0:(0:Int)≤0∧(0:Int)<(l.length:Int):=by omega
   exact⟨b0,b0,.refl _⟩
 simp only[go_sem];refine aA (fun h3=>?_) (fun h3=>?_)
 · have h2':i≠0:=by simpa using h2
   obtain⟨p,hp⟩:=bC (show i-1<l.length by omega);simp only[go_sem];refine gL (by rfl) (by kernel_rfl) ?_;have w:IntKind.i64.wrap ((i:Int)-1)=((i-1:Nat):Int):=by rw[aT (by omega)];omega
   have b1:=inB (show i-1<l.length by omega);simp only[go_sem,w,aH hp,b1];rw[if_neg (by rw[h1];simp),if_neg (by rw[h2];simp),if_pos h3,dD hp];exact .refl _
 have h2':i≠0:=by simpa using h2
 have h3':i≠l.length:=by simp at h3;omega
 obtain⟨p,hp⟩:=bC (show i-1<l.length by omega);obtain⟨q,hq⟩:=bC (show i<l.length by omega);have w:IntKind.i64.wrap ((i:Int)-1)=((i-1:Nat):Int):=by rw[aT (by omega)];omega
 have b1:=inB (show i-1<l.length by omega);have b2:=inB (show i<l.length by omega);have hm:=(h.mono (i-1) (by omega)).1;rw[show i-1+1=i by omega,dD hp,dD hq]at hm;have hpp:=h.pt p (List.mem_of_getElem? hp);have hqq:=h.pt q (List.mem_of_getElem? hq);rw[if_neg (by rw[h1];simp),if_neg (by rw[h2];simp),if_neg (by rw[h3];simp),dD hp,dD hq];simp only[go_sem];refine xF (fun ρ' H'=>ρ' 1=int t∧∃j7 j8,ρ' 7=.op j7 0 0∧ρ' 8=.op j8 0 0∧H' j7=some (⟨136,2,[bR p]⟩:Row)∧H' j8=some (⟨136,2,[bR q]⟩:Row)∧j7≠j8) ?_ fun K hK=>?_
 · rintro ρ H ⟨h1,j7,j8,h7,h8,R7,R8,n78⟩
   simp only[go_sem,h1,h7,h8,R7,R8];refine gE [j7,j8] [(0,true),(1,true),(2,true),(3,true),(4,true),(5,true),(6,true),(7,true),(8,true),(9,true),(10,true),(11,true),(12,true),(13,true),(14,true),(15,false),(16,false),(17,false),(18,false)] (by simp[R7,R8]) (by kernel_rfl) fun Hp Hr hp hr _ hr0=>?_
   have P7:=(hp j7 (by simp)).trans R7;have P8:=(hp j8 (by simp)).trans R8;simp only[go_sem,h1,h7,h8,P7,P8];refine⟨Vv (by omega),kA fun _ Hm _ _=>?_⟩;simp only[go_sem];exact .refl _
 · refine Bm [] (.q 0 (.q 1 (.q 2 (.q 3 (.q 4 (.q 5 (.q 6 (.q 7 (.q 8 (.a2 9 (.a1 10 (.a1 11 (.a1 12 .nil))) 10 (.a1 9 (.a1 11 (.a1 12 .nil))))))))))))) (by simp) (by kernel_rfl) fun Hp Hr _ hqr _ _=>?_
   simp only[go_sem,w,aH hp,aH hq,b1,b2];have rP:∀{a b:Nat} {G:aF} {z:List AV} {y:List AV},a≠b→G a=some (⟨136,2,[z]⟩:Row)→aJ G b (some (⟨136,2,[y]⟩:Row)) a=some (⟨136,2,[z]⟩:Row):=fun hne hG=>by rw[aD _ _ _ _ hne];exact hG
   refine yR ?_ ?_
   · simp only[go_sem]
     refine aN fun j7 h7=>?_
     simp only[go_sem];refine aN fun j8 h8=>?_
     have n78:=aO (aB _ _ _) h8;have S7:=jJ (r':=(⟨136,2,[[int 0,int 0]]⟩:Row)) (aB Hr j7 (some (⟨136,2,[[int 0,int 0]]⟩:Row))) h8;have S8:=aB (aJ Hr j7 (some (⟨136,2,[[int 0,int 0]]⟩:Row))) j8 (some (⟨136,2,[[int 0,int 0]]⟩:Row));generalize aJ (aJ Hr j7 _) j8 _=G at S7 S8 ⊢;simp only[go_sem];refine aU S7 (by simp[fQ]) ?_;simp only[go_sem];refine aU (V7 S8 n78.symm) (by simp[fQ]) ?_;simp only[go_sem];refine kA fun _ Hm _ hm=>hK _ _ ⟨by simp only[go_sem],j7,j8,by simp only[go_sem],by simp only[go_sem],?_,?_,n78⟩
     · rw[hm j7 (by simp),aD _ _ _ _ n78,aB]
     · rw[hm j8 (by simp),aB]
   · simp only[go_sem]
     refine aN fun j8 h8=>?_
     simp only[go_sem];refine aN fun j7 h7=>?_
     have n78:=(aO (aB _ _ _) h7).symm;have S8:=jJ (r':=(⟨136,2,[[int 0,int 0]]⟩:Row)) (aB Hr j8 (some (⟨136,2,[[int 0,int 0]]⟩:Row))) h7;have S7:=aB (aJ Hr j8 (some (⟨136,2,[[int 0,int 0]]⟩:Row))) j7 (some (⟨136,2,[[int 0,int 0]]⟩:Row));generalize aJ (aJ Hr j8 _) j7 _=G at S7 S8 ⊢;simp only[go_sem];refine aU S7 (by simp[fQ]) ?_;simp only[go_sem];refine aU (V7 S8 n78.symm) (by simp[fQ]) ?_;simp only[go_sem];refine kA fun _ Hm _ hm=>hK _ _ ⟨by simp only[go_sem],j7,j8,by simp only[go_sem],by simp only[go_sem],?_,?_,n78⟩
     · rw[hm j7 (by simp),aD _ _ _ _ n78,aB]
     · rw[hm j8 (by simp),aB]
theorem MJ{α:Type}{p:α→Bool}:∀l:List α,(∀c x,c<(l.takeWhile p).length→l[c]?=some x→p x=true)∧(∀x,l[(l.takeWhile p).length]?=some x→p x=false)
 | []=>⟨fun c x h _=>by simp at h,fun x h=>by simp at h⟩
 | a::r=>by
   obtain⟨h1,h2⟩:=MJ (p:=p) r;by_cases ha:p a=true
   · rw[List.takeWhile_cons,if_pos ha]
     refine⟨fun c x hc hx=>?_,fun x hx=>h2 x (by simpa using hx)⟩;cases c with
     | zero=>simp at hx;subst hx;exact ha
     | succ c=>exact h1 c x (by simpa using hc) (by simpa using hx)
   · rw[List.takeWhile_cons,if_neg ha]
     refine⟨fun c x hc _=>by simp at hc,fun x hx=>?_⟩;simp at hx;subst hx;simpa using ha
theorem Nj{p:Point}{t:Int}(hp:0≤p.t∧p.t≤4096∧p.t≤p.a∧p.a≤p.t+4096)(e:p.t=t):sC p t=p.a:=by
 unfold sC;subst e;rw[bU (n:=p.t+p.a) (by omega),bU (by omega)];omega
theorem U2{p q:Point}{t:Int}(hp:0≤p.t∧p.t≤4096∧p.t≤p.a∧p.a≤p.t+4096)(hq:0≤q.t∧q.t≤4096∧q.t≤q.a∧q.a≤q.t+4096)(hpq:p.t<q.t)(e:p.t=t):A6 p q t=p.a:=by
 unfold A6;subst e;rw[Int.sub_self,show W 0=0 from rfl,Int.zero_mul,show W 0=0 from rfl,Int.zero_add,bU (n:=q.t) (by omega),bU (n:=q.t-p.t) (by omega),bU (n:=q.t-p.t-1) (by omega),
   Int.tdiv_eq_ediv_of_nonneg (by omega),Int.ediv_eq_zero_of_lt (by omega) (by omega)]
 rw[show IntKind.i64.wrap 0=0 from rfl,Int.add_zero,bU (by omega)]
theorem WR{p q:Point}{t:Int}(hp:0≤p.t∧p.t≤4096∧p.t≤p.a∧p.a≤p.t+4096)(hq:0≤q.t∧q.t≤4096∧q.t≤q.a∧q.a≤q.t+4096)(ha:p.a≤q.a)(h1:p.t≤t)(h2:t<q.t):A6 p q t=Sx p q t:=by
 unfold A6 Sx;have hx:0≤t-p.t∧t-p.t≤4096:=by omega
 have hy:0≤q.a-p.a∧q.a-p.a≤8192:=by omega
 have hm0:0≤(t-p.t)*(q.a-p.a):=Int.mul_nonneg hx.1 hy.1;have hm1:(t-p.t)*(q.a-p.a)≤4096*8192:=Int.mul_le_mul hx.2 hy.2 hy.1 (by omega);rw[bU (n:=t-p.t) (by omega),bU (n:=q.a-p.a) (by omega),bU (n:=(t-p.t)*(q.a-p.a)) (by omega),bU (n:=q.t-p.t) (by omega)];generalize (t-p.t)*(q.a-p.a)=m at hm0 hm1;rw[bU (n:=m+q.t) (by omega),bU (n:=m+q.t-p.t) (by omega),bU (n:=m+(q.t-p.t)) (by omega),show m+q.t-p.t=m+(q.t-p.t)by omega]
def Ma(l:List Point)(t:Int):Int:=match (List.range (l.length-1)).find? (mQ l t)with
 | some k=>A6 (dC l k) (dC l (k+1)) t
 | none=>if decide (t>(dC l 0).t)=true then sC (dC l (l.length-1)) t else sC (dC l 0) t
theorem EL{l:List Point}{t:Int}{k:Nat}(h:(List.range (l.length-1)).find? (mQ l t)=some k):Ma l t=A6 (dC l k) (dC l (k+1)) t:=by unfold Ma;rw[h]
theorem Ic{l:List Point}{t:Int}(h:(List.range (l.length-1)).find? (mQ l t)=none)(h2:t>(dC l 0).t):Ma l t=sC (dC l (l.length-1)) t:=by unfold Ma;rw[h];exact if_pos (by simpa using h2)
theorem Im{l:List Point}{t:Int}(h:(List.range (l.length-1)).find? (mQ l t)=none)(h2:¬t>(dC l 0).t):Ma l t=sC (dC l 0) t:=by unfold Ma;rw[h];exact if_neg (by simpa using h2)
theorem W8{l:List Point}{t:Int}{i:Nat}(hi:bs l t=i)(h:i<l.length∧(dC l i).t=t):jA l t=(dC l i).a:=by
 unfold jA uU;rw[hi];exact if_pos (by simp;omega)
theorem Wm{l:List Point}{t:Int}{i:Nat}(hi:bs l t=i)(h:¬(i<l.length∧(dC l i).t=t)):jA l t=if((i:Int) == 0)=true then sC (dC l 0) t
 else if((i:Int) == (l.length:Int))=true then sC (dC l (i-1)) t else Sx (dC l (i-1)) (dC l i) t:=by
 unfold jA uU;rw[hi];exact if_neg (by simp;intro hc;omega)
theorem RS{l:List Point}{t:Int}(h:TravB l)(hr:hY l=[])(ht:0≤t∧t≤1073741824):iH l t=jA l t:=by
 have hl:=h.len;have hb:=VP l t;obtain⟨tw1,tw2⟩:=MJ (p:=fun p:Point=>decide (p.t<t)) l;have hlow:∀c,c<bs l t→(dC l c).t<t:=fun c hc=>by
   obtain⟨x,hx⟩:=bC (show c<l.length by omega);have:=tw1 c x hc hx;rw[dD hx];simpa using this
 have hhigh:bs l t<l.length→t≤(dC l (bs l t)).t:=fun hlt=>by
   obtain⟨x,hx⟩:=bC hlt;have:=tw2 x hx;rw[dD hx];simpa using this
 have hpt:∀c,c<l.length→0≤(dC l c).t∧(dC l c).t≤4096∧(dC l c).t≤(dC l c).a∧(dC l c).a≤(dC l c).t+4096:=fun c hc=>by
   obtain⟨x,hx⟩:=bC hc;rw[dD hx];exact h.pt x (List.mem_of_getElem? hx)
 unfold iH;have hbad:wZ l t=false:=by unfold wZ;rw[hr];simp;omega
 rw[if_neg (by rw[hbad];simp)];show Ma l t=jA l t;obtain⟨i,hi⟩:∃i,bs l t=i:=⟨_,rfl⟩;rw[hi]at hb hlow hhigh;have none_of:(∀c,c+1<l.length→mQ l t c=false)→(List.range (l.length-1)).find? (mQ l t)=none:=fun hn=>Eb fun c hc=>hn c (by have:=List.mem_range.1 hc;omega)
 have some_of:∀k,k+1<l.length→(∀c,c<k→mQ l t c=false)→mQ l t k=true→(List.range (l.length-1)).find? (mQ l t)=some k:=fun k hk hn hy=>Ix (k:=k) (fun y hy2=>by
   rw[List.take_range]at hy2;exact hn y (by have:=List.mem_range.1 hy2;omega)) (rN (by omega)) hy
 have seg_low:∀c,c+1<l.length→(dC l (c+1)).t≤t→mQ l t c=false:=fun c _ hc=>by unfold mQ;simp;omega
 by_cases hfd:i<l.length∧(dC l i).t=t
 · rw[W8 hi hfd]
   obtain⟨hil,he⟩:=hfd;have lowle:∀c,c+1<l.length→c+1≤i→mQ l t c=false:=fun c hc hci=>seg_low c hc (by
     by_cases e:c+1=i
     · rw[e];omega
     · have:=hlow (c+1) (by omega);omega)
   by_cases hlast:i+1<l.length
   · have hm:=h.mono i hlast
     rw[EL (some_of i hlast (fun c hc=>lowle c (by omega) (by omega)) (by unfold mQ;simp;omega))];exact U2 (hpt i hil) (hpt (i+1) hlast) hm.1 he
   · have hn:=none_of fun c hc=>lowle c hc (by omega)
     have hi1:i=l.length-1:=by omega
     by_cases h0:i=0
     · rw[h0]at he hil ⊢
       rw[Im hn (by omega)];exact Nj (hpt 0 hil) he
     · have:=hlow 0 (by omega)
       rw[Ic hn this,←hi1];exact Nj (hpt i hil) he
 · rw[Wm hi hfd]
   by_cases h0:i=0
   · subst h0
     have hh:=hhigh (by omega);have hne:(dC l 0).t≠t:=fun e=>hfd ⟨by omega,e⟩
     rw[Im (none_of fun c hc=>by
       have:(dC l 0).t≤(dC l c).t:=by
         by_cases e:c=0
         · rw[e];omega
         · have:=Gw h 0 c (by omega) (by omega);omega
       unfold mQ;simp;omega) (by omega),if_pos (by simp)]
   · rw[if_neg (by simp;omega)]
     by_cases hn:i=l.length
     · have:=hlow 0 (by omega)
       rw[Ic (none_of fun c hc=>seg_low c hc (by have:=hlow (c+1) (by omega);omega)) this,if_pos (by simp;omega),hn]
     · have hil:i<l.length:=by omega
       have hh:=hhigh hil;have hne:(dC l i).t≠t:=fun e=>hfd ⟨hil,e⟩
       have hlo:=hlow (i-1) (by omega);have e1:i-1+1=i:=by omega
       rw[EL (some_of (i-1) (by omega) (fun c hc=>seg_low c (by omega) (by have:=hlow (c+1) (by omega);omega)) (by unfold mQ;rw[e1];simp;omega)),if_neg (by simp;omega)];rw[e1];have hm:=h.mono (i-1) (by omega);rw[e1]at hm;exact WR (hpt (i-1) (by omega)) (hpt i hil) hm.2 (by omega) (by omega)
theorem Oy(l:List Point)(t:Int)(hr:hY l=[]):PC Tryz.prog 232 [.sl (l.map bR),int t] (int (iH l t)):=by
 have h:=Gi hr;refine PC.body (c:=Tryz.f232.body.getD .skip) (fun _=>false) mixed Tryz.func232 rfl (by kernel_rfl) ?_;unfold Tryz.f232;simp only[Option.getD_some];simp only[go_sem];refine PC.use (Hu _ _ _) ?_;simp only[go_sem];refine⟨_,fun _=>(Gl l h).q rfl,?_⟩;simp only[go_sem];have hbad:wZ l t=(!(decide (t≥0)&&decide (t≤1073741824))|| !true):=by
   unfold wZ;rw[hr,Bool.eq_iff_iff];simp
 rw[←hbad];refine aA (fun hb=>?_) (fun hb=>?_)
 · simp only[go_sem]
   exact fF (by unfold iH;rw[if_pos hb])
 have ht:0≤t∧t≤1073741824:=by unfold wZ at hb;simp at hb;omega
 simp only[go_sem];refine PC.use (Pc l t h ht) ?_;simp only[go_sem];exact fF (RS h hr ht).symm
theorem Jj(n:Network)(i:Int):PC Tryz.prog 192 [.agg (aP n),int i] (boo (FA n i)):=by
 refine PC.body (c:=Tryz.f192.body.getD .skip) (fun _=>false) mixed Tryz.func192 rfl (by kernel_rfl) ?_;unfold Tryz.f192;simp only[Option.getD_some];simp only[go_sem];exact .refl _
def IV(a:Arc):List AV:=[int a.src,int a.dst,int a.profile]
theorem VC(a:Arc):PC Tryz.prog 231 [.agg (fC a)] (.agg (IV a)):=by
 refine PC.body (c:=Tryz.f231.body.getD .skip) (fun t=>t == 2) mixed Tryz.func231 rfl (by kernel_rfl) ?_;unfold Tryz.f231;simp only[Option.getD_some];simp only[go_sem];refine aN fun j hj=>?_
 simp only[go_sem];refine aU (aB _ _ _) (by simp) ?_;simp only[go_sem];exact .refl _
structure NetOk(n:Network):Prop where
 arcs:n.arcs.length≤1048576
 travel:∀a∈n.arcs,hY a.travel=[]
 slow:∀a∈n.arcs,a.slow.length≤1048576
theorem Lk(a:Arc)(t:Int)(ha:hY a.travel=[])(hsl:a.slow.length≤1048576):PC Tryz.prog 194 [.agg (fC a),int t] (int (nZ a t)):=by
 refine PC.body (c:=Tryz.f194.body.getD .skip) (fun _=>false) mixed Tryz.func194 rfl (by kernel_rfl) ?_;unfold Tryz.f194;simp only[Option.getD_some];simp only[go_sem];refine PC.use (Oy a.travel t ha) ?_;simp only[go_sem];refine⟨fun ρ _=>∃k:Nat,k≤a.slow.length∧ρ 1=int t∧ρ 13=.sl (a.slow.map bR)∧ρ 14=int a.slow.length∧ρ 5=int ((a.slow.take k).foldl (mF t) (iH a.travel t))∧ρ 15=int k,fun ρ _=>a.slow.length-bQ (ρ 15),⟨0,Nat.zero_le _,rfl,rfl,rfl,rfl,rfl⟩,?_⟩;rintro ρ H ⟨k,hk,h1,h13,h14,h5,h15⟩;simp only[go_sem,h1,h13,h14,h5,h15];refine aA (fun hlt=>?_) (fun hge=>?_)
 · have hlt:=cA hlt
   obtain⟨p,hp⟩:=bC hlt;have b1:=inB hlt;have hs:(a.slow.take (k+1)).foldl (mF t) (iH a.travel t)=mF t ((a.slow.take k).foldl (mF t) (iH a.travel t)) p:=by rw[cN hp,List.foldl_append];rfl
   simp only[go_sem,h1,h13,h14,h5,h15,aH hp,b1];refine aN fun i7 hi70=>?_
   simp only[go_sem,h1,h13,h14,h5,h15];refine aU (aB _ _ _) (by simp[fQ]) ?_;generalize hGi7:aJ (aJ _ i7 _) i7 _=HGi7;have R7:HGi7 i7=some (⟨136,2,[bR p]⟩):=by rw[←hGi7,aB];rfl
   clear hGi7 hi70;simp only[go_sem,h1,h13,h14,h5,h15,R7];refine fU (fun ρ' _=>ρ' 1=int t∧ρ' 13=.sl (a.slow.map bR)∧ρ' 14=int a.slow.length∧ρ' 5=int ((a.slow.take (k+1)).foldl (mF t) (iH a.travel t))∧ρ' 15=int k) ?_ fun K hK _ _=>aA (fun hb=>?_) (fun hb=>?_)
   · clear h1 h13 h14 h5 h15
     rintro ρ H ⟨h1,h13,h14,h5,h15⟩;simp only[go_sem,h1,h13,h14,h5,h15,bG (show k≤4611686018427387904 by omega)];exact⟨⟨k+1,hlt,rfl,rfl⟩,by simp only[aI];omega⟩
   · simp only[go_sem,h1,h13,h14,h5,h15,R7]
     refine hK _ _ ⟨by simp only[go_sem,h1],by simp only[go_sem,h13],by simp only[go_sem,h14],?_,by simp only[go_sem,h15]⟩;simp only[go_sem];rw[hs,mF,if_pos hb];rfl
   · simp only[go_sem]
     refine hK _ _ ⟨by simp only[go_sem,h1],by simp only[go_sem,h13],by simp only[go_sem,h14],?_,by simp only[go_sem,h15]⟩;simp only[go_sem,h5];rw[hs,mF,if_neg (by rw[hb];simp)]
 · have hge:=cF hk hge
   subst hge;simp only[go_sem,h5];rw[List.take_length];exact .refl _
theorem UE(n:Network)(p f t:Int)(hl:n.arcs.length≤1048576):PC Tryz.prog 193 [.agg (aP n),int p,int f,int t] (.tup [.agg (fC ((lI n p f t).getD yV)),boo (lI n p f t).isSome]):=by
 refine PC.body (c:=Tryz.f193.body.getD .skip) (fun _=>false) mixed Tryz.func193 rfl (by kernel_rfl) ?_;unfold Tryz.f193;simp only[Option.getD_some];simp only[go_sem];refine aN fun j8 hj80=>?_
 generalize hGj8:aJ _ j8 _=HGj8;have R8:HGj8 j8=some (⟨139,6,[fC yV]⟩):=by rw[←hGj8,aB];rfl
 clear hGj8 hj80;simp only[go_sem,R8];refine aN fun j10 hj100=>?_
 have ne_j8_j10:j8≠j10:=aO R8 hj100;simp only[go_sem,R8];refine aU (aB _ _ _) (by simp[fQ]) ?_;generalize hGj10:aJ (aJ _ j10 _) j10 _=HGj10;replace R8:=(congrFun hGj10.symm j8).trans ((aD _ _ _ _ ne_j8_j10).trans ((aD _ _ _ _ ne_j8_j10).trans R8));have R10:HGj10 j10=some (⟨285,3,[[int f,int t,int p]]⟩):=by rw[←hGj10,aB];rfl
 clear hGj10 hj100;simp only[go_sem,R10,R8];refine⟨fun ρ H=>∃k:Nat,k≤n.arcs.length∧ρ 8=.op j8 0 0∧ρ 10=.op j10 0 0∧ρ 18=.sl (n.arcs.map fC)∧ρ 19=int n.arcs.length∧ρ 20=int k∧H j8=some (⟨139,6,[fC yV]⟩:Row)∧H j10=some (⟨285,3,[[int f,int t,int p]]⟩:Row)∧∀a∈n.arcs.take k,Jp p f t a=false,fun ρ _=>n.arcs.length-bQ (ρ 20),⟨0,Nat.zero_le _,rfl,rfl,rfl,rfl,rfl,R8,R10,by simp⟩,?_⟩;clear R8 R10;rintro ρ H ⟨k,hk,h8,h10,h18,h19,h20,R8,R10,hz⟩;simp only[go_sem,h8,h10,h18,h19,h20];refine aA (fun hlt=>?_) (fun hge=>?_)
 · have hlt:=cA hlt
   obtain⟨a,hak⟩:=bC hlt;have b1:=inB hlt;simp only[go_sem,h8,h10,h18,h19,h20,aH hak,b1];refine aN fun i12 hi120=>?_
   have ne_j8_i12:j8≠i12:=aO R8 hi120;have ne_j10_i12:j10≠i12:=aO R10 hi120;simp only[go_sem,h8,h10,h18,h19,h20,R8,R10];refine aU (aB _ _ _) (by simp[gY]) ?_;generalize hGi12:aJ (aJ _ i12 _) i12 _=HGi12;replace R8:=(congrFun hGi12.symm j8).trans ((aD _ _ _ _ ne_j8_i12).trans ((aD _ _ _ _ ne_j8_i12).trans R8));replace R10:=(congrFun hGi12.symm j10).trans ((aD _ _ _ _ ne_j10_i12).trans ((aD _ _ _ _ ne_j10_i12).trans R10));have R12:HGi12 i12=some (⟨139,6,[fC a]⟩):=by rw[←hGi12,aB];rfl
   clear hGi12 hi120;simp only[go_sem,h8,h10,h18,h19,h20,R12,R8,R10];refine gE [i12] [(0,true),(1,true),(2,false),(3,false)] (by simp[R12]) (by kernel_rfl) fun Hp Hr hp hr _ hr0=>?_
   have P12:=(hp i12 (by simp)).trans R12;have P10:=(hr j10 (by simp[ne_j10_i12])).trans R10;simp only[go_sem,h8,h10,h18,h19,h20,P12,P10];refine⟨_,(VC a).q rfl,?_⟩;simp only[go_sem,h8,h10,h18,h19,h20,P12,P10,IV];refine kA fun _ Hm hm1 hm2=>?_
   have M8:Hm j8=some (⟨139,6,[fC yV]⟩:Row):=by
     have n1:j8∉[i12]:=by simp[ne_j8_i12]
     rw[hm2 j8 n1];exact(hr j8 n1).trans R8
   have M12:=(hm1 i12 (by simp)).trans R12;have M10:Hm j10=_:=(hm2 j10 (by simp[ne_j10_i12])).trans P10;simp only[go_sem,h8,h10,h18,h19,h20,M8,M10,M12];have ea:(a.src == f&&(a.dst == t&&(a.profile == p&&true)))=Jp p f t a:=by unfold Jp;rw[Bool.and_true,Bool.and_assoc]
   rw[ea];refine aA (fun hb=>?_) (fun hb=>?_)
   · simp only[go_sem,h8,M12]
     refine aU M8 (by simp[gY]) ?_;simp only[go_sem,h8,gY];have:lI n p f t=some a:=Ix hz hak hb;rw[this];exact .refl _
   · simp only[go_sem,h8,h10,h18,h19,h20,bG (show k≤4611686018427387904 by omega)]
     exact⟨⟨k+1,hlt,rfl,M8,M10,bK (p:=fun a=>Jp p f t a=false) hak hb hz⟩,by simp only[aI];omega⟩
 · have hge:=cF hk hge
   subst hge;rw[List.take_length]at hz;simp only[go_sem,h8];refine aU R8 (by simp) ?_;simp only[go_sem,h8];have:lI n p f t=none:=Eb hz;rw[this];exact .refl _
theorem ZT(n:Network)(p f t time:Int)(hn:NetOk n):PC Tryz.prog 151 [.agg (aP n),int p,int f,int t,int time] (.tup [int (dX n p f t time).1,int (dX n p f t time).2.1,int (dX n p f t time).2.2]):=by
 refine PC.body (c:=Tryz.f151.body.getD .skip) (fun _=>false) mixed Tryz.func151 rfl (by kernel_rfl) ?_;unfold Tryz.f151;simp only[Option.getD_some];simp only[go_sem];refine PC.use (Jj n f) ?_;simp only[go_sem];refine⟨_,fun _=>(Jj n t).q rfl,?_⟩;simp only[go_sem];refine aA (fun h1=>?_) (fun h1=>?_)
 · simp only[go_sem]
   have:dX n p f t time=(0,0,11):=by unfold dX;rw[if_pos h1]
   rw[this];exact .refl _
 simp only[go_sem];refine aA (fun h2=>?_) (fun h2=>?_)
 · simp only[go_sem]
   have:dX n p f t time=(time,0,0):=by unfold dX;rw[if_neg (by rw[h1];simp),if_pos h2]
   rw[this];exact .refl _
 have hg:dX n p f t time=match lI n p f t with|some a=>(nZ a time,a.miles,0)|none=>(0,0,12):=by unfold dX;rw[if_neg (by rw[h1];simp),if_neg (by rw[h2];simp)];rfl
 rw[hg];simp only[go_sem];refine PC.use (UE n p f t hn.arcs) ?_;simp only[go_sem];refine aN fun j13 hj130=>?_
 simp only[go_sem];refine aU (aB _ _ _) (by simp[gY]) ?_;generalize hGj13:aJ (aJ _ j13 _) j13 _=HGj13;have R13:HGj13 j13=some (⟨139,6,[fC ((lI n p f t).getD yV)]⟩):=by rw[←hGj13,aB];rfl
 clear hGj13 hj130;simp only[go_sem,R13];cases hf:lI n p f t with
 | none=>
   refine aA (fun _=>?_) (fun hb=>by simp at hb);simp only[go_sem];exact .refl _
 | some a=>
   have ham:=List.mem_of_find?_eq_some hf;refine aA (fun hb=>by simp at hb) (fun _=>?_);rw[hf]at R13;simp only[go_sem,Option.getD_some,gY];refine gL (by rfl) (by kernel_rfl) ?_;simp only[go_sem,Option.getD_some,R13,gY];refine⟨_,(Lk a time (hn.travel a ham) (hn.slow a ham)).q rfl,?_⟩;simp only[go_sem,Option.getD_some,R13,gY];exact .refl _
theorem T1(s:Stop)(a:Int):PC Tryz.prog 195 [.agg (iA s),int a] (.tup [int (if kC a s.start>s.close then 0 else kC a s.start),int (if kC a s.start>s.close then 14 else 0)]):=by
 refine PC.body (c:=Tryz.f195.body.getD .skip) (fun _=>false) mixed Tryz.func195 rfl (by kernel_rfl) ?_;unfold Tryz.f195;simp only[Option.getD_some];simp only[go_sem];refine aA (fun hb=>?_) (fun hb=>?_)
 · have hb:kC a s.start>s.close:=by simpa using hb
   simp only[go_sem];rw[if_pos hb,if_pos hb];exact .refl _
 · have hb:¬kC a s.start>s.close:=by simpa using hb
   simp only[go_sem];rw[if_neg hb,if_neg hb];exact .refl _
end Go.Proofs.YtdlijlecpopadaaGreatDoor.Sq
