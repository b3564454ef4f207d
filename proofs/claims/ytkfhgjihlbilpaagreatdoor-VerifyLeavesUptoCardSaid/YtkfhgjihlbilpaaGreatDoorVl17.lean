import Derived.Test.YtkfhgjihlbilpaaGreatDoorVl16
set_option linter.unusedSimpArgs false
set_option linter.unusedVariables false
set_option linter.defProp false
set_option maxRecDepth 100000
namespace Go.Proofs.YtkfhgjihlbilpaaGreatDoor
open Go.Aw Go.Aw.D Go.Proofs Ty
namespace Nu
open Go.Proofs.Tryz
open Go.Nu
open Dec (kE fB dJ cX pJ mS)
abbrev Tl:Row:=⟨75,2,[[.sl [],.sl []]]⟩
structure BldS(H:aM)(i8 i11 jc jr:Nat)(f:Nat->Nat)(cost:List Int)(rows:List PRow):Prop where
 r8:H i8=some Tl
 p:H i11=some (ahV jc jr)
 c:H jc=some (gV cost)
 lin:LinH H jr f rows
 fc:∀i,i<rows.length->f i≠jc
 ne:i8≠i11
def LinH.mono{H H':aM}{jr:Nat}{f:Nat->Nat}{rows:List PRow}(h:LinH H jr f rows)(A:∀k row,H k=some row->H' k=some row):LinH H' jr f rows:=
 ⟨A _ _ h.row,fun i r E=>A _ _ (h.θ i r E),h.inj⟩
def BldS.mono{H H':aM}{i8 i11 jc jr:Nat}{f:Nat->Nat}{cost:List Int}{rows:List PRow}(h:BldS H i8 i11 jc jr f cost rows)(A:∀k row,H k=some row->H' k=some row):BldS H' i8 i11 jc jr f cost rows:=
 ⟨A _ _ h.r8,A _ _ h.p,A _ _ h.c,h.lin.mono A,h.fc,h.ne⟩
def FG{H:aM}{i:Nat}(A:H i=none)(a:Option Row):∀k row,H k=some row->aI H i a k=some row:=fun k row E=>by grind[aF]
theorem wO{H:aM}{i:Nat}(A:H i=none)(a b:Option Row):∀k row,H k=some row->aI (aI H i a) i b k=some row:=fun k row E=>by grind[aF]
def BldS.add{H F:aM}{i8 i11 jc jr:Nat}{f:Nat->Nat}{cost:List Int}{rows:List PRow}(h:BldS H i8 i11 jc jr f cost rows){jc':Nat}{f':Nat->Nat}{E:List Int}{A:List PRow}{k:Nat}
  (S:AddS H F i11 jc jr f rows.length jc' f' E A k):BldS F i8 i11 jc' jr f' E A:=by
 refine⟨S.keep i8 _ h.ne (fun e=>?_) (fun e=>?_) (fun i J e=>?_) h.r8,S.p,S.c,S.lin,S.fc,h.ne⟩
 ·have h1:=h.r8;rw[e,h.c]at h1
  grind
 ·have h1:=h.r8;rw[e,h.lin.row]at h1
  grind
 ·have h1:=h.r8;obtain⟨r,I⟩:=aK J;rw[e,h.lin.θ i r I]at h1
  grind
def kI(p:List Int×List PRow)(cost:Int)(col:List Int):List Int×List PRow:=(p.1++[cost],sQ p.2 col col.length)
def nN(x:Instance)(o:Int)(n k:Nat):List Int:=((eI x).take k).map (fun i=>xC (i == o))++List.replicate (n-k) 0
def lY(x:Instance)(o:Int)(n:Nat):List Int:=(eI x).map (fun i=>xC (i == o))++List.replicate (n-(eI x).length) 0
def sJ(x:Instance)(o:Int):Int:=(gT (cJ x o).1).1
def zY(x:Instance)(y8:List Cut)(ds:List Decision)(l:List Column):List Int×List PRow:=l.foldl (fun s c=>kI s c.o8 (tG x c y8 ds)) ([],mJ x y8 ds)
def Ae(x:Instance)(n:Nat)(s0:List Int×List PRow)(l:List Int):List Int×List PRow:=l.foldl (fun s o=>kI s (sJ x o) (lY x o n)) s0
def gB(x:Instance)(d:Nat)(cols:List Column)(y8:List Cut)(ds:List Decision):PLin×Int:=
 if vH x d cols y8 ds≠0 then(⟨[],[]⟩,vH x d cols y8 ds)
 else if fU x y8 ds>64\/(inM cols ds).length+(iG x ds).length>8192 then(⟨[],[]⟩,4)
 else(⟨(Ae x (fU x y8 ds) (zY x y8 ds (inM cols ds)) (iG x ds)).1,(Ae x (fU x y8 ds) (zY x y8 ds (inM cols ds)) (iG x ds)).2⟩,0)
theorem yP(p:List Int×List PRow)(cost:Int)(col:List Int):(kI p cost col).2.length=p.2.length/\(kI p cost col).1.length=p.1.length+1:=by grind[kI,tH]
def Sz(p:List Int×List PRow)(n k:Nat):Prop:=p.1.length=k/\p.2.length=n/\∀r∈p.2,r.θ.length=k
def Sz.add{p:List Int×List PRow}{n k:Nat}(h:Sz p n k)(cost:Int){col:List Int}(J:col.length=n):Sz (kI p cost col) n (k+1):=by
 obtain⟨h1,O,I⟩:=h;refine⟨by grind[yP],by grind[yP],fun r F=>?_⟩;obtain⟨i,E,rfl⟩:=List.getElem_of_mem F;have A:=List.getElem?_eq_getElem E;unfold kI at A E;rw[wF]at A;rw[tH]at E;rw[if_pos (by omega),List.getElem?_eq_getElem (by omega)]at A
 grind[kI,B6]
def SP(x:Instance)(y8:List Cut)(ds:List Decision):Sz ([],mJ x y8 ds) (fU x y8 ds) 0:=by
 refine⟨rfl,D3 x y8 ds,fun r A=>?_⟩
 grind[mJ,vJ,oW,pA,oP,Jq]
def DW{x:Instance}{y8:List Cut}{ds:List Decision}{l:List Column}{k:Nat}{c:Column}(h:l[k]?=some c):zY x y8 ds (l.take (k+1))=kI (zY x y8 ds (l.take k)) c.o8 (tG x c y8 ds):=by simp_all[zY,aY]
def D9{x:Instance}{n:Nat}{s0:List Int×List PRow}{l:List Int}{k:Nat}{o:Int}(h:l[k]?=some o):Ae x n s0 (l.take (k+1))=kI (Ae x n s0 (l.take k)) (sJ x o) (lY x o n):=by simp_all[Ae,aY]
def DL(x:Instance)(y8:List Cut)(ds:List Decision)(l:List Column):∀k,k<=l.length->Sz (zY x y8 ds (l.take k)) (fU x y8 ds) k
 | 0,_=>SP x y8 ds
 | k+1,hk=>by obtain⟨c,A⟩:=aK (show k<l.length by omega);rw[DW A];exact(DL x y8 ds l k (by omega)).add _ (Bw x c y8 ds)
theorem yO(x:Instance)(o:Int){n:Nat}(h:(eI x).length<=n):(lY x o n).length=n:=by grind[lY]
def JQ(x:Instance){n m:Nat}{s0:List Int×List PRow}(A:(eI x).length<=n)(h0:Sz s0 n m)(l:List Int):∀k,k<=l.length->Sz (Ae x n s0 (l.take k)) n (m+k)
 | 0,_=>h0
 | k+1,hk=>by obtain⟨c,E⟩:=aK (show k<l.length by omega);rw[D9 E];exact(JQ x A h0 l k (by omega)).add _ (yO x c A)
def ahX{H:aM}(f:Nat->Nat)(rows:List PRow)(h:∀(i:Nat) (r:PRow),rows[i]?=some r->H (f i)=some (gV r.θ)):ConvE H (rows.mapIdx (sP f)) (rows.map gP):=by
 induction rows generalizing f with
 | nil=>exact .nil
 | cons r l ih=>rw[List.mapIdx_cons,Xav];refine .cons _ _ _ _ (.cons _ _ _ _ (.row _ _ _ (h 0 r rfl) (ConvE.refl _)) (ConvL.refl _)) ?_;simp_all
def LS{x:Instance}{d:Nat}{A:List Column}{y8:List Cut}{ds:List Decision}(h:vH x d A y8 ds=0):kE x ds=0/\(∀q∈y8,jS x d q=0)/\∀c∈A,AH x c=false:=by
 unfold vH at h;split at h
 ·omega
 next h1=>
 split at h
 ·omega
 next J=>
 split at h
 ·cases h
 next F=>
 refine⟨by omega,fun q E=>Dec.zJ (by omega) _ (Xao.2 ⟨q,E,rfl⟩),fun c I=>?_⟩
 grind
def LX{x:Instance}{d:Nat}{q:Cut}(h:jS x d q=0):0<=q.set:=by grind[jS,vD]
def JZ{x:Instance}{c:Column}(h:AH x c=false):0<c.set:=by grind[AH]
theorem JO{α:Type}(a b:α)(R:List α):∀A:List α,(A++a::R).set A.length b=A++b::R
 | []=>rfl
 | c::A=>by simp
def VF{x:Instance}{o:Int}{n k:Nat}{i:Int}(h:(eI x)[k]?=some i)(E:k<n):nN x o n (k+1)=(nN x o n k).set k (xC (i == o)):=by
 have A:=(List.getElem?_eq_some_iff.1 h).1;unfold nN;rw[aY h,Xaq,show n-k=(n-(k+1))+1 by omega,List.replicate_succ,Xaw]
 grind[JO]
def Yo{x:Instance}{o:Int}{n k:Nat}(h:k<=(eI x).length)(A:(eI x).length<=n):(nN x o n k).length=n:=by grind[nN]
theorem apN(H:aM)(i:Nat)(a:Option Row)(h:H i=none):aI (aI H i a) i none=H:=by grind[aB,aF]
theorem ayQ(H:aM)(i:Nat)(a b:Option Row):aI (aI H i a) i b=aI H i b:=by grind[aB,aF]
def avU(x:Instance)(d:Nat)(E:List Column)(y8:List Cut)(ds:List Decision)(bp:LoadsOk x d)(bb:x.types≠[])(h:MIn x y8 ds)(hl:E.length<=1048576)(hs:∀c∈E,c.set<=9223372036854775807)(hq:∀q∈y8,q.set<=9223372036854775807):
  PC prog 36 [.agg (aD x),.sl (E.map bC),.sl (y8.map dD),.sl (ds.map aO)] (.tup [.agg (fJ (gB x d E y8 ds).1),int (gB x d E y8 ds).2]):=by
 have h1:=h.y5;have h2:=h.types;have h3:=h.cl;have h4:=h.dl;have bt:=oK x;refine pcb (fun t=>t == 39) func36 rfl rfl ?_;simp only[go_sem];refine aH fun i8 h8=>?_
 have R8:=aB bN i8 (some Tl);generalize aI bN i8 _=HGi8 at R8 |-;clear h8;simp only[go_sem];refine aL (awY x d E y8 ds bp bb h hl hs) ?_;unfold gB;simp only[go_sem];apply aA <;> intro hb
 ·rw[if_pos (by grind)];simp only[go_sem];refine aG R8 (by simp) ?_;simp only[go_sem];exact .refl _
 rw[if_neg (by grind)];simp only[go_sem];refine ayF x y8 ds h _ _ fun jr f H1 S=>?_
 have R8:=S.keep i8 _ R8;have Sl:=S.lin;have bd:=D3 x y8 ds;simp only[go_sem];refine aH fun ia ha=>?_
 refine aH fun ib au=>?_
 refine aH fun i11 ax=>?_
 simp only[go_sem];refine aG (aB _ _ _) (by simp) ?_;have B:BldS (aI (aI (aI (aI H1 ia (some (⟨3,1,[]⟩:Row))) ib (some ⟨161,3,[]⟩)) i11 (some Tl)) i11 (some (ahV ia jr))) i8 i11 ia jr f [] (mJ x y8 ds):=by
  have m1:=FG ha (some (⟨3,1,[]⟩:Row));have m2:=FG au (some (⟨161,3,[]⟩:Row));have m3:=wO ax (some Tl) (some (ahV ia jr));refine⟨m3 _ _ (m2 _ _ (m1 _ _ R8)),aB _ _ _,m3 _ _ (m2 _ _ (aB _ _ _)),((Sl.mono m1).mono m2).mono m3,fun i hi e=>?_,fun e=>?_⟩
  ·obtain⟨r,hr⟩:=aK hi;have:=Sl.θ i r hr
   grind
  grind
 generalize hG:aI (aI (aI (aI H1 ia _) ib _) i11 _) i11 _=G;replace B:BldS G i8 i11 ia jr f [] (mJ x y8 ds):=by rw[<-hG];exact B
 clear hG ax au ha Sl R8 S;simp only[go_sem];refine aL (G7 E ds hl h4) ?_;simp only[go_sem];refine aL (auV x ds h1 h4) ?_;have bx:(inM E ds).length<=E.length:=Xbs _ _;have bv:(iG x ds).length<=(eI x).length:=Xbs _ _;have bc:∀c∈inM E ds,c∈E:=fun c hc=>(List.mem_filter.1 hc).1
 obtain⟨_,bn,bh⟩:=LS (show vH x d E y8 ds=0 by grind);have bf:CutsB y8:=⟨fun q av=>⟨LX (bn q av),hq q av⟩⟩;have bq:∀o∈iG x ds,o∈eI x:=fun o ho=>(List.mem_filter.1 ho).1
 generalize inM E ds=L at *;generalize iG x ds=K at *;have w:IntKind.i64.wrap ((L.length:Int)+(K.length:Int))=((L.length+K.length:Nat):Int):=by grind[aW]
 simp only[go_sem,B.p,B.lin.row,List.length_mapIdx,Xac,bd,w];apply aA <;> intro hb
 ·rw[if_pos (by grind)];simp only[go_sem];refine aG B.r8 (by simp) ?_;simp only[go_sem];exact .refl _
 have bu:fU x y8 ds<=64/\L.length+K.length<=8192:=by grind
 rw[if_neg (by omega)];have an:(eI x).length<=fU x y8 ds:=by grind[fU]
 simp only[go_sem];refine⟨fun ρ H=>∃(k:Nat) (jc:Nat) (f:Nat->Nat),k<=L.length/\ρ 2=.sl (y8.map dD)/\ρ 3=.sl (ds.map aO)/\ρ 4=.rp (aD x) 0/\ρ 8=.op i8 0 0/\ρ 11=.op i11 0 0/\ρ 12=.sl (K.map aP)/\ρ 13=.fn 86 [.op i11 0 0]/\ρ 60=.sl (L.map bC)/\ρ 61=int (L.length:Nat)/\ρ 62=int k/\BldS H i8 i11 jc jr f (zY x y8 ds (L.take k)).1 (zY x y8 ds (L.take k)).2,fun ρ _=>L.length-aT (ρ 62),⟨0,ia,f,Xaa _,by rfl,by rfl,by rfl,by rfl,by rfl,by rfl,by rfl,by rfl,by rfl,(by rfl),B⟩,?_⟩;rintro ρ H ⟨k,jc,f,hk,e2,e3,e4,e8,O,ay,J,a5,a7,ao,B⟩;simp only[go_sem,a7,ao];refine aA (fun F=>?_) (fun T=>?_)
 ·have F:=ltB (by omega);obtain⟨c,hc⟩:=aK F;have b1:=inB F;have az:=bc c (Xab hc);have hz:=DL x y8 ds L k (by omega);have aj:=DW (x:=x) (y8:=y8) (ds:=ds) hc;generalize zY x y8 ds (L.take k)=p at *;simp only[go_sem,a5,ao,aC hc,b1];refine aH fun X ar=>?_
  simp only[go_sem,];refine aG (aB _ _ _) (by simp[dB]) ?_;have Z:=B.mono (wO ar (some (⟨115,7,[[int 0,int 0,int 0,int 0,int 0,.sl [],.sl []]]⟩:Row)) (some (⟨115,7,[bC c]⟩:Row)));generalize hG:aI (aI H X _) X _=HG;replace Z:BldS HG i8 i11 jc jr f p.1 p.2:=by rw[<-hG];exact Z
  have bm:HG X=some (⟨115,7,[bC c]⟩:Row):=by rw[<-hG,aB];rfl
  have be:∀q row,H q=some row->q≠X/\HG q=some row:=fun q row ai=>⟨(fun e=>by grind),(by rw[<-hG];grind[wO])⟩
  clear hG ar;simp only[go_sem,];refine gS [X] [(0,true),(1,true),(2,true),(3,true),(4,true),(5,true),(6,true),(7,false),(8,false)] (by grind) (by kernel_rfl) fun Hp Hr hp a8 _ b0=>?_
  have Pp:=(hp X (by simp)).trans bm;simp only[go_sem,e2,e3,e4,J,Pp];refine aL (avE x c y8 ds h ⟨by have:=JZ (bh c az);omega,hs c az⟩ bf) ?_;have B2:BldS Hr i8 i11 jc jr f p.1 p.2:=B.mono fun q row ai=>(a8 q (by grind)).trans (be q row ai).2
  have al:=Bw x c y8 ds;generalize tG x c y8 ds=C at *;simp only[go_sem,];refine azK c.o8 C i11 jc jr f p.1 p.2 Hr _ B2.p B2.c B2.lin B2.fc (by rw[al,hz.2.1]) (by omega) (by rw[hz.1];omega) (fun r hr=>by rw[hz.2.2 r hr];omega) fun a jc' f' Hn S=>?_
  have B3:=B2.add S;simp only[go_sem,];refine dO fun hd Hm _ br=>?_
  have B4:BldS Hm i8 i11 jc' jr f' (p.1++[c.o8]) (sQ p.2 C C.length):=B3.mono fun q row ai=>by grind
  simp only[go_sem,e2,e3,e4,e8,O,ay,J,a5,a7,ao,aQ k];refine⟨⟨k+1,jc',f',F,rfl,?_⟩,by grind[aJ]⟩;rw[aj];exact B4
 have T:=geB hk (by omega);subst T;rw[Xad]at B;have hz:=DL x y8 ds L L.length (Xae _);rw[Xad]at hz;generalize zY x y8 ds L=s1 at *;simp only[go_sem,e4,];refine aL (Ta x h1) ?_;simp only[go_sem,];refine aL (mN _) ?_;rw[P9 x h1];simp only[go_sem,ay,Xac];refine⟨fun ρ H=>∃(k:Nat) (jc:Nat) (f:Nat->Nat),k<=K.length/\ρ 4=.rp (aD x) 0/\ρ 8=.op i8 0 0/\ρ 11=.op i11 0 0/\ρ 13=.fn 86 [.op i11 0 0]/\ρ 16=.sl ((eI x).map aP)/\ρ 79=.sl (K.map aP)/\ρ 80=int (K.length:Nat)/\ρ 81=int k/\BldS H i8 i11 jc jr f (Ae x (fU x y8 ds) s1 (K.take k)).1 (Ae x (fU x y8 ds) s1 (K.take k)).2,fun ρ _=>K.length-aT (ρ 81),⟨0,jc,f,Xaa _,by simp only[go_sem,e4,],by simp only[go_sem,e8,],by simp only[go_sem,O],by simp only[go_sem,J],by rfl,by rfl,by rfl,(by rfl),B⟩,?_⟩;rintro ρ H ⟨k,jc,f,hk,e4,e8,O,J,ab,ac,aa,Y,B⟩;simp only[go_sem,aa,Y];refine aA (fun F=>?_) (fun T=>?_)
 ·have F:=ltB (by omega);obtain⟨o,ho⟩:=aK F;have b1:=inB F;have ae:=JQ x an hz K k (by omega);have aj:=D9 (x:=x) (n:=fU x y8 ds) (s0:=s1) ho;generalize Ae x (fU x y8 ds) s1 (K.take k)=p at *;simp only[go_sem,O,ac,Y,aC ho,b1,B.p,B.lin.row,List.length_mapIdx,ae.2.1];refine⟨by omega,aH fun A bi=>?_⟩;have a4:aI H A (some (⟨3,1,List.replicate (fU x y8 ds) [int 0]⟩:Row)) A=some (gV (nN x o (fU x y8 ds) 0)):=by rw[aB];exact congrArg (fun l=>some (⟨3,1,l⟩:Row)) (by unfold nN;rw[List.take_zero,Xbn,Xbi,Nat.sub_zero,List.map_replicate];rfl)
  have Z:BldS (aI (aI H A (some (⟨3,1,List.replicate (fU x y8 ds) [int 0]⟩:Row))) A none) i8 i11 jc jr f p.1 p.2:=by grind[apN]
  generalize aI H A (some _)=HG at a4 Z |-;generalize bw:fU x y8 ds=N at *;clear bi;simp only[go_sem,ab,Xac];generalize k=k0 at *;refine⟨fun ρ H=>∃(k:Nat),k<=(eI x).length/\ρ 4=.rp (aD x) 0/\ρ 8=.op i8 0 0/\ρ 11=.op i11 0 0/\ρ 13=.fn 86 [.op i11 0 0]/\ρ 16=.sl ((eI x).map aP)/\ρ 18=int o/\ρ 19=.os A/\ρ 79=.sl (K.map aP)/\ρ 80=int (K.length:Nat)/\ρ 81=int (k0:Nat)/\ρ 89=.sl ((eI x).map aP)/\ρ 90=int ((eI x).length:Nat)/\ρ 91=int k/\H A=some (gV (nN x o N k))/\BldS (aI H A none) i8 i11 jc jr f p.1 p.2,fun ρ _=>(eI x).length-aT (ρ 91),⟨0,Xaa _,by simp only[go_sem,e4,],by simp only[go_sem,e8,],by simp only[go_sem,O,],by simp only[go_sem,J,],by simp only[go_sem,ab,],by rfl,by rfl,by simp only[go_sem,ac,],by simp only[go_sem,aa],by simp only[go_sem,Y],by rfl,by rfl,(by rfl),a4,Z⟩,?_⟩;rintro ρ H ⟨k,hk,e4,e8,O,J,ab,ak,ap,ac,aa,Y,aw,a0,ah,R,B⟩;simp only[go_sem,a0,ah];refine aA (fun F=>?_) (fun T=>?_)
  ·have F:=ltB (by omega);obtain⟨i,hi⟩:=aK F;have b2:=inB F;have bz:=Yo (x:=x) (o:=o) hk an;simp only[go_sem,ak,ap,aw,ah,aC hi,b2];refine aL (Nd _) ?_;simp only[go_sem,R,Xac];have am:((nN x o N k).map aP).set k (qF (((nN x o N k).map aP).getD k []) 0 [int (xC (i == o))])=(nN x o N (k+1)).map aP:=by obtain⟨v,hv⟩:=aK (l:=nN x o N k) (k:=k) (by omega);rw[aC hv,VF hi (by omega),List.map_set];rfl
   refine⟨by omega,bP so3 R ⟨by grind,rfl,by simp⟩ ?_⟩;have R2:aI H A (some (⟨3,1,((nN x o N k).map aP).set k (qF (((nN x o N k).map aP).getD k []) 0 [int (xC (i == o))])⟩:Row)) A=some (gV (nN x o N (k+1))):=by rw[aB,am]
   have B2:BldS (aI (aI H A (some (⟨3,1,((nN x o N k).map aP).set k (qF (((nN x o N k).map aP).getD k []) 0 [int (xC (i == o))])⟩:Row))) A none) i8 i11 jc jr f p.1 p.2:=by grind[ayQ]
   simp only[go_sem,e4,e8,O,J,ab,ak,ap,ac,aa,Y,aw,a0,ah,aQ k];exact⟨⟨k+1,F,rfl,(aB _ _ _).symm.trans R2,B2⟩,by grind[aJ]⟩
  have T:=geB hk (by omega);subst T;have bg:nN x o N (eI x).length=lY x o N:=by grind[nN,lY]
  rw[bg]at R;have al:=yO x o an;generalize lY x o N=C at *;simp only[go_sem,e4,ak,];refine aL (Iq x o) ?_;have a9:(gT (cJ x o).1).1=sJ x o:=rfl;generalize cJ x o=U at *;obtain⟨U,eU⟩:=U;simp only[go_sem,];refine aH fun I a6=>?_
  simp only[go_sem,];refine aG (aB _ _ _) (by simp[cP]) ?_;have af:A≠I:=aV R a6;have aq:∀a b:Option Row,aI (aI (aI H I a) I b) A none=aI (aI (aI H A none) I a) I b:=by grind[aI]
  have ag:aI H A none I=none:=by grind[aF]
  have Z:BldS (aI (aI (aI H I (some (⟨125,4,[[int 0,int 0,int 0,int 0]]⟩:Row))) I (some (⟨125,4,[bD U]⟩:Row))) A none) i8 i11 jc jr f p.1 p.2:=by rw[aq];exact B.mono (wO ag _ _)
  generalize hG:aI (aI H I _) I _=HG;have R1:HG A=some (gV C):=by rw[<-hG,aF _ _ _ _ af,aF _ _ _ _ af];exact R
  replace Z:BldS (aI HG A none) i8 i11 jc jr f p.1 p.2:=by rw[<-hG];exact Z
  have bo:HG I=some (⟨125,4,[bD U]⟩:Row):=by rw[<-hG,aB];rfl
  clear hG a6 ag aq;simp only[go_sem,bo];refine aL (D2 U) ?_;rw[a9];simp only[go_sem,J,ap,];refine bQ.frz [A] (args':=[int (sJ x o),.sl (C.map aP),.op i11 0 0]) (.cons _ _ _ _ (.refl _) (.cons _ _ _ _ (.row _ _ _ (by simp;exact R1) (ConvE.refl _)) (.cons _ _ _ _ (.refl _) .nil))) ?_;rw[show(fun q=>if q∈[A]then none else HG q)=aI HG A none from funext fun q=>by grind[aI]];refine azK (sJ x o) C i11 jc jr f p.1 p.2 _ _ Z.p Z.c Z.lin Z.fc (by rw[al,ae.2.1]) (by omega) (by rw[ae.1];omega) (fun r hr=>by rw[ae.2.2 r hr];omega) fun a jc' f' Hn S=>?_
  have B3:=Z.add S;simp only[go_sem,e4,e8,O,J,ab,ac,aa,Y,aQ k0];refine⟨⟨k0+1,jc',f',by omega,rfl,?_⟩,by grind[aJ]⟩;rw[aj];exact B3
 have T:=geB hk (by omega);subst T;rw[Xad]at B;generalize Ae x (fU x y8 ds) s1 K=s2 at *;simp only[go_sem,e8,O,B.p];refine aG B.r8 (by simp) ?_;have bj:jc≠i8:=fun e=>by
  have h1:=B.r8;rw[<-e,B.c]at h1
  grind
 have ba:jr≠i8:=fun e=>by
  have h1:=B.r8;rw[<-e,B.lin.row]at h1
  grind
 have bk:∀(i:Nat) (r:PRow),s2.2[i]?=some r->f i≠i8:=fun i r hr e=>by
  have h1:=B.r8;rw[<-e,B.lin.θ i r hr]at h1
  grind
 simp only[go_sem,e8,];refine .tup _ _ (.cons _ _ _ _ (.agg _ _ (.cons _ _ _ _ (.row _ _ _ (by rw[aF _ _ _ _ bj];exact B.c) (ConvE.refl _)) (.cons _ _ _ _ (.row _ _ _ (by rw[aF _ _ _ _ ba];exact B.lin.row) (ahX f s2.2 fun i r hr=>(aF _ _ _ _ (bk i r hr)).trans (B.lin.θ i r hr))) .nil))) (.cons _ _ _ _ (.refl _) .nil))
end Nu
namespace Nu
open Go.Nu
open Dec (kE fB dJ cX pJ mS)
def is0(s:ByteArray):Bool:=bl s == [48]
def is1(s:ByteArray):Bool:=bl s == [49]
def Mu(s:ByteArray):Bool:= !is0 s&& !is1 s
def E3(rows:List PRow):Prop:=∀r∈rows,(∀n∈r.θ,n=0\/n=1)/\rK r.right
def VG{rows:List PRow}{col:List Int}(h:E3 rows)(J:∀n∈col,n=0\/n=1):E3 (sQ rows col col.length):=by
 intro r I;obtain⟨i,A,rfl⟩:=List.getElem_of_mem I;have F:=List.getElem?_eq_getElem A;rw[wF]at F;rw[tH]at A;have O:=h _ (List.getElem_mem A);by_cases E:i<col.length
 ·rw[if_pos E,List.getElem?_eq_getElem A]at F
  grind[B6,List.getElem_mem]
 grind
structure RightB(x:Instance)(y8:List Cut)(ds:List Decision):Prop where
 types:∀t∈x.types,rK t.count
 y8:∀q∈y8,rK q.n
 ds:∀d∈ds,rK d.n
def atA{x:Instance}{y8:List Cut}{ds:List Decision}(h:RightB x y8 ds):E3 (mJ x y8 ds):=by
 intro r A;have h1:rK 1:=by grind[rK]
 unfold mJ vJ oW pA oP at A;simp only[List.mem_append,Xao,List.mem_filterMap]at A;rcases A with((A|⟨t,J,rfl⟩)|⟨q,I,rfl⟩)|⟨d,F,A⟩
 ·grind
 ·exact⟨fun n E=>(by cases E),h.types t J⟩
 ·refine⟨fun n E=>(by cases E),?_⟩;show rK (Ed q).2;unfold Ed;split
  ·exact h1
  ·split
   ·exact h.y8 q I
   grind[rK]
 ·unfold Jq at A;split at A
  ·cases A;exact⟨fun n E=>(by cases E),h.ds d F⟩
  ·split at A
   ·cases A;exact⟨fun n E=>(by cases E),h.ds d F⟩
   grind
def abG{x:Instance}{y8:List Cut}{ds:List Decision}(h:RightB x y8 ds)(l:List Column):∀k,k<=l.length->E3 (zY x y8 ds (l.take k)).2
 | 0,_=>atA h
 | k+1,hk=>by obtain⟨c,A⟩:=aK (show k<l.length by omega);rw[DW A];exact VG (abG h l k (by omega)) fun n E=>adT E
def WU{x:Instance}{o:Int}{n:Nat}{m:Int}(h:m∈lY x o n):m=0\/m=1:=by grind[lY,aaD]
def ZF{x:Instance}{n:Nat}{s0:List Int×List PRow}(h:E3 s0.2)(l:List Int):∀k,k<=l.length->E3 (Ae x n s0 (l.take k)).2
 | 0,_=>h
 | k+1,hk=>by obtain⟨c,A⟩:=aK (show k<l.length by omega);rw[D9 A];exact VG (ZF h l k (by omega)) fun n E=>WU E
def Kt{x:Instance}{d:Nat}{A:List Column}{y8:List Cut}{ds:List Decision}(h:(gB x d A y8 ds).2=0)(T:RightB x y8 ds):
  vH x d A y8 ds=0/\(gB x d A y8 ds).1.cost.length=(inM A ds).length+(iG x ds).length/\(inM A ds).length+(iG x ds).length<=8192/\(gB x d A y8 ds).1.rows.length=fU x y8 ds/\fU x y8 ds<=64 /\
   (∀r∈(gB x d A y8 ds).1.rows,r.θ.length=(inM A ds).length+(iG x ds).length)/\E3 (gB x d A y8 ds).1.rows:=by
 unfold gB at h |-;split at h
 ·omega
 next h1=>
 split at h
 ·cases h
 next U=>
 rw[if_neg h1,if_neg U];have O:=DL x y8 ds (inM A ds) _ (Xae _);have E:=abG T (inM A ds) _ (Xae _);rw[Xad]at O E;have J:(eI x).length<=fU x y8 ds:=by grind[fU]
 have I:=JQ x J O (iG x ds) _ (Xae _);have F:=ZF (x:=x) (n:=fU x y8 ds) E (iG x ds) _ (Xae _);rw[Xad]at I F;exact⟨by omega,I.1,by omega,I.2.1,by omega,I.2.2,F⟩
def Pm{x:Instance}{d:Nat}{A:List Column}{y8:List Cut}{ds:List Decision}(h:(gB x d A y8 ds).2=0)(E:RightB x y8 ds):LinB (gB x d A y8 ds).1:=by obtain⟨_,h1,T,J,O,_,F⟩:=Kt h E;exact⟨by omega,by omega,fun r E n I=>by rcases(F r E).1 n I with e|e <;> unfold rK <;> omega,fun r E=>(F r E).2⟩
def BC{H:aM}{i j:Nat}{a b:Row}(A:H i=some a)(F:H j=some b)(E:(a.e == b.e)=false):i≠j:=fun e=>by grind
end Nu
namespace Nu.Ps
open Go.Nu Go.So
open Dec (kE fB dJ cX pJ mS)
open Sq (EvalB BestQ oJ rT dZ azG)
structure PrOk(x:Instance)(d:Nat):Prop where
 ev:EvalB x
 n8:x.y5.length<=8
 ty:x.types.length<=1000
 lo:LoadsOk x d
 ne:x.types≠[]
end Nu.Ps
namespace Nu.Ps
open Go.Nu Go.So
open Dec (kE fB dJ cX pJ mS)
open Sq (EvalB BestQ oJ rT dZ fT)
def anT(x:Instance)(r:Route): -9223372036854775808<=(fT x r).1/\(fT x r).1<=9223372036854775807:=by
 unfold fT;split
 ·simp
 ·unfold Sq.gT;split
  ·simp
  ·split
   ·simp
   ·exact Rx.VK _
structure ColQ(x:Instance)(c:Column):Prop where
 b:ColB c
 o8: -9223372036854775808<=c.o8/\c.o8<=9223372036854775807
def JH{x:Instance}{c:Column}(A:x.y5.length<=8)(h:c∈oJ x):ColQ x c:=by
 obtain⟨k,s,h⟩:=rT A h;obtain⟨l,E,_,_,_⟩:=h.is;have h1:=h.pos;have I:=h.top;have F:(2:Int)^x.y5.length<=256:=by
  have:2^x.y5.length<=256:=Xaf (Xah (by decide) A) (by decide)
  exact_mod_cast this
 rw[E];exact⟨⟨by grind⟩,anT _ _⟩
end Nu.Ps
namespace Nu
open Go.Proofs.Tryz
open Go.Nu
open Dec (kE fB dJ cX pJ mS)
def Iw(x:Instance)(o:Int)(k:Nat):List Int:=(List.range k).map fun i=>xC (decide (i<(eI x).length)&&(eI x).getD i 0 == o)
def apA(x:Instance)(o:Int){n:Nat}(h:(eI x).length<=n):Iw x o n=lY x o n:=by
 refine List.ext_getElem? fun i=>?_
 unfold Iw lY;rw[List.getElem?_map];by_cases E:i<(eI x).length
 ·grind
 ·rw[List.getElem?_append_right (by grind),Xac,List.getElem?_replicate];by_cases A:i<n
  ·rw[List.getElem?_range A,if_pos (by omega)]
   grind[xC]
  grind
def akQ(x:Instance)(o:Int)(n:Nat)(hx:x.y5.length<=62)(hn:(eI x).length<=n)(ae:n<=1048576):PC prog 51 [.agg (aD x),int o,int n] (.sl ((lY x o n).map aP)):=by
 have af:=oK x;rw[<-apA x o hn];refine pcb (fun t=>t == 8) func51 rfl rfl ?_;simp only[go_sem];refine aL (tQ x (by omega)) ?_;simp only[go_sem];refine eJ fun j aa Y (R:aa j=some (gV [])) N=>?_
 clear N Y;simp only[go_sem,R];refine⟨fun ρ H=>∃(k:Nat) (j:Nat),k<=n/\ρ 1=int o/\ρ 2=int n/\ρ 7=.sl ((eI x).map aP)/\ρ 9=int k/\ρ 8=.os j/\H j=some (gV (Iw x o k)),fun ρ _=>n-aT (ρ 9),⟨0,j,Xaa _,by rfl,by rfl,by rfl,(by rfl),by rfl,R⟩,?_⟩;rintro ρ H ⟨k,j,hk,J,E,I,F,O,R⟩;simp only[go_sem,J,E,I,F,O];refine aA (fun T=>?_) (fun X=>?_)
 ·have T:=ltB (by omega);have hl:(Iw x o k).length=k:=by grind[Iw]
  have hs:Iw x o (k+1)=Iw x o k++[xC (decide (k<(eI x).length)&&(eI x).getD k 0 == o)]:=by grind[Iw,Xas]
  have ac:decide ((k:Int)<((eI x).length:Int))=decide (k<(eI x).length):=by simp
  by_cases A:k<(eI x).length
  ·obtain⟨i,hi⟩:=aK A;have b1:=inB A;simp only[go_sem,J,E,I,F,O,Xac,aC hi,b1];refine aL (Fx _) ?_;simp only[go_sem,J,E,I,F,O];refine aU R ⟨rfl,rfl⟩ ⟨rfl,trivial⟩ (by grind) (fun j' ab=>?_);simp only[go_sem,J,E,I,F,O,aQ k];refine⟨⟨k+1,j',T,rfl,rfl,?_⟩,by grind[aJ]⟩;rw[hs,List.getD,hi,decide_eq_true A];simp only[Xbb,Xay];exact eK rfl
  ·have U:decide ((k:Int)<((eI x).length:Int))=false:=by grind
   have Z:(List.map aP (eI x)).getD k []=[]:=by grind
   simp only[go_sem,J,E,I,F,O,Xac,U,Z];refine aL (Fx _) ?_;simp only[go_sem,J,E,I,F,O];refine aU R ⟨rfl,rfl⟩ ⟨rfl,trivial⟩ (by grind) (fun j' ab=>?_);simp only[go_sem,J,E,I,F,O,aQ k];refine⟨⟨k+1,j',T,rfl,rfl,?_⟩,by grind[aJ]⟩;rw[hs,decide_eq_false A];simp only[Bool.false_and];exact eK rfl
 have X:=geB hk (by omega);subst X;simp only[go_sem,J,E,I,F,O];exact .row _ _ _ R (ConvE.refl _)
def ahM{x:Instance}{d:Decision}(h:Dec.fB x d=0)(F:x.y5.length<=62)(s:Int):dJ d s= !cX d s:=by
 have E:∀i:Int,Dec.xS x i=true->Dec.dI s i=mS s i:=by
  intro i A;unfold Dec.xS at A;simp only[Xak,decide_eq_true_eq]at A
  grind[Dec.dI,mS]
 unfold Dec.fB at h;unfold dJ cX
 grind
def axR{x:Instance}{ds:List Decision}(h:kE x ds=0):∀d∈ds,Dec.fB x d=0:=by
 unfold kE at h;split at h
 ·cases h
 ·exact fun d A=>Dec.zJ h _ (Xao.2 ⟨d,A,rfl⟩)
def K0(x:Instance)(A:List Column)(ds:List Decision)(ae:kE x ds=0)(hx:x.y5.length<=62)(hl:A.length<=1048576)(hd:ds.length<=1048576)(af:∀d∈ds,pJ d)(hs:∀c∈A,0<=c.set/\c.set<=9223372036854775807):
  PC prog 45 [.sl (A.map bC),.sl (ds.map aO)] (.sl ((inM A ds).map bC)):=by
 refine pcb (fun t=>t == 5) func45 rfl rfl ?_;simp only[go_sem];refine eJ fun j aa Y (R:aa j=some (JW [])) N=>?_
 clear N Y;simp only[go_sem];refine⟨fun ρ H=>∃(k:Nat) (j:Nat),k<=A.length/\ρ 0=.sl (A.map bC)/\ρ 1=.sl (ds.map aO)/\ρ 6=int k/\ρ 5=.os j/\H j=some (JW (inM (A.take k) ds)),fun ρ _=>A.length-aT (ρ 6),⟨0,j,Xaa _,rfl,rfl,(by rfl),rfl,R⟩,?_⟩;rintro ρ H ⟨k,j,hk,I,Z,T,X,R⟩;simp only[go_sem,I,T];refine aA (fun E=>?_) (fun O=>?_)
 ·have E:=ltB (by omega);obtain⟨c,U⟩:=aK E;have b1:=inB E;have J:=hs c (Xab U);have F:inM (A.take (k+1)) ds=inM (A.take k) ds++(if(ds.all fun d=>dJ d c.set)=true then[c]else[]):=oV (p:=fun c:Column=>ds.all fun d=>dJ d c.set) U;have ah:(inM (A.take k) ds).length<=k:=D4 _ _ _;have ac:(ds.all fun d=> !cX d c.set)=ds.all fun d=>dJ d c.set:=by rw[Xaz,Xap,Xap];exact forall_congr' fun d=>forall_congr' fun ab=>by rw[ahM (axR ae d ab) hx]
  simp only[go_sem,I,Z,T,aC U,b1];refine aL (Dec.Xy ds c hd af J.1 J.2) ?_;rw[ac];simp only[go_sem,];refine aA (fun hb=>?_) (fun hb=>?_)
  ·rw[if_pos hb]at F;simp only[go_sem,I,T,X,aC U,b1];refine aU R ⟨rfl,rfl⟩ ⟨rfl,trivial⟩ (by grind) (fun j' ag=>?_);simp only[go_sem,I,Z,T,aQ k]
   grind[aJ,eK]
  ·rw[if_neg (by grind),Xat]at F;simp only[go_sem,I,Z,T,X,aQ k]
   grind[aJ]
 have O:=geB (by omega) (by omega);subst O;rw[Xad]at R;simp only[go_sem,X];exact .row _ _ _ R (ConvE.refl _)
def GH(s:Nat)(l:List Int):Nat:=(l.map fun i=>if dI s i=true then 2^i.toNat else 0).sum
def aiO{s:Nat}{l:List Int}{k:Nat}{i:Int}(h:l[k]?=some i):GH s (l.take (k+1))=GH s (l.take k)+(if dI s i=true then 2^i.toNat else 0):=by simp_all[GH,aY]
def auB(s:Nat)(l:List Int)(k:Nat):GH s (l.take k)<=GH s l:=by grind[GH,Xbt]
def Zt(x:Instance)(s:Nat):∀k,k<=x.y5.length->x.y5.length<=62->GH s (L8 x k)=uX (fun i=>uK (fun _=>true) x.y5 i&&s.testBit i) k
 | 0,_,_=>rfl
 | k+1,hk,h62=>by
  obtain⟨o,A⟩:=aK (show k<x.y5.length by omega);have ih:=Zt x s k (by omega) h62;rw[Lv A,uX,<-ih];have e:=xM (q:=fun _=>true) A;unfold GH;rw[Xaq,List.sum_append];cases E:o.off
  ·rw[if_neg (by simp),e,E];simp only[Xav,Xbn,List.sum_cons,List.sum_nil,Xal,Xbx,Xay,Xbk,Nat.add_zero]
   grind[jW]
  grind
def asK(x:Instance)(s:Nat)(h:x.y5.length<=62):GH s (eI x)=s &&& Gu x:=by
 have:GH s (eI x)=uX (fun i=>uK (fun _=>true) x.y5 i&&s.testBit i) x.y5.length:=Zt x s _ (Xae _) h;rw[this];refine Nat.eq_of_testBit_eq fun i=>?_
 have A:(Gu x).testBit i=(decide (i<x.y5.length)&&uK (fun _=>true) x.y5 i):=qR _ _ _
 grind[qR]
def aoX(s i:Int)(A:s<0):PC prog 112 [int s,int i] (boo false):=by
 refine pcd func112 rfl rfl ?_;simp only[go_sem]
 grind[cB]
def ahW(x:Instance)(c:Column)(hx:x.y5.length<=62)(ht:x.types.length<=1048576)(hs:rK c.set):PC prog 106 [.agg (aD x),.agg (bC c)] (boo (!AH x c)):=by
 have ah:=oK x;refine pcd func106 rfl rfl ?_;simp only[go_sem];refine aL (tQ x (by omega)) ?_;simp only[go_sem];by_cases aa:c.set<0
 ·skip
  refine⟨fun ρ H=>∃(k:Nat),k<=(eI x).length/\ρ 2=.rp (aD x) 0/\ρ 3=.rp (bC c) 0/\ρ 6=.sl ((eI x).map aP)/\ρ 7=int k/\ρ 5=int c.set,fun ρ _=>(eI x).length-aT (ρ 7),⟨0,Xaa _,by rfl,by rfl,by rfl,(by rfl),by rfl⟩,?_⟩;rintro ρ H ⟨k,hk,I,O,F,J,E⟩;simp only[go_sem,I,O,F,J,E];refine aA (fun A=>?_) (fun T=>?_)
  ·have A:=ltB (by omega);obtain⟨i,U⟩:=aK A;have b1:=inB A;simp only[go_sem,I,O,F,J,E];refine jK [(0,true),(1,true),(2,true),(3,true),(4,true),(5,true),(6,false)] (by kernel_rfl) ?_;simp only[go_sem,I,O,F,J,E,aC U,b1];refine aL (aoX c.set i aa) ?_;simp only[go_sem,I,O,F,J,E];refine aA (fun X=>by cases X) (fun X=>?_);simp only[go_sem,I,O,F,J,E,aQ k]
   grind[aJ]
  have T:=geB hk (by omega);subst T;simp only[go_sem,I,O,F,J,E,Xac]
  grind[cB,AH]
 obtain⟨s,Z⟩:=Int.eq_ofNat_of_zero_le (show 0<=c.set by omega);have Y:s<2^63:=by have:=hs.2;omega
 have ac:=asK x s hx;have ae:s &&& Gu x<=s:=Nat.and_le_left;rw[Z];refine⟨fun ρ H=>∃(k:Nat),k<=(eI x).length/\ρ 2=.rp (aD x) 0/\ρ 3=.rp (bC c) 0/\ρ 6=.sl ((eI x).map aP)/\ρ 7=int k/\ρ 5=int ((s-GH s ((eI x).take k):Nat):Int),fun ρ _=>(eI x).length-aT (ρ 7),⟨0,Xaa _,by rfl,by rfl,by rfl,(by rfl),by rfl⟩,?_⟩;rintro ρ H ⟨k,hk,I,O,F,J,E⟩;simp only[go_sem,I,O,F,J,E];refine aA (fun A=>?_) (fun T=>?_)
 ·have A:=ltB (by omega);obtain⟨i,U⟩:=aK A;have b1:=inB A;obtain⟨n,o,rfl,hn,ho,af⟩:=acK (Xab U);have ab:=aiO (s:=s) U;have ai:=auB s (eI x) (k+1);simp only[go_sem,I,O,F,J,E];refine jK [(0,true),(1,true),(2,true),(3,true),(4,true),(5,true),(6,false)] (by kernel_rfl) ?_;simp only[go_sem,I,O,F,J,E,aC U,b1,Z];refine aL (ZO s _ Y) ?_;simp only[go_sem,I,O,F,J,E];refine aA (fun X=>?_) (fun X=>?_)
  ·rw[if_pos X,Xal]at ab;have hu:IntKind.u64.wrap ((n:Nat):Int)=((n:Nat):Int):=by show((n:Nat):Int)%18446744073709551616=_;omega
   have ag:2^n<=2^62:=Xah (by decide) (by omega);have hw:IntKind.i64.wrap (((s-GH s ((eI x).take k):Nat):Int)-((2^n:Nat):Int))=((s-GH s ((eI x).take (k+1)):Nat):Int):=by grind[aW]
   simp only[go_sem,I,O,F,J,E,aC U,b1,hu,GO (show n<=62 by omega),hw,aQ k]
   grind[aJ]
  ·rw[if_neg (by grind),Nat.add_zero]at ab;simp only[go_sem,I,O,F,J,E,aQ k];exact⟨⟨k+1,A,rfl,by grind⟩,by grind[aJ]⟩
 have T:=geB hk (by omega);subst T;rw[Xad,ac]at E;simp only[go_sem,I,O,F,J,E,Xac];refine cB ?_;unfold AH
 grind
end Nu
namespace Nu
open Go.Proofs.Tryz
open Go.Nu
open Dec (kE dJ cX pJ mS)
abbrev Iy(l:List PRow):Row:=⟨161,3,l.map gP⟩
def ajH(x:Instance)(y8:List Cut)(ds:List Decision)(h:MIn x y8 ds):
  PC prog 44 [.agg (aD x),.sl (y8.map dD),.sl (ds.map aO)] (.sl ((mJ x y8 ds).map gP)):=by
 have h1:=h.y5;have h2:=h.types;have h3:=h.cl;have h4:=h.dl;have aj:=oK x;unfold mJ;refine pcb (fun t=>t == 7) func44 rfl rfl ?_;simp only[go_sem];refine eJ fun j ac ab (R:ac j=some (Iy [])) N=>?_
 clear N ab;simp only[go_sem];refine⟨fun ρ H=>∃(k j:Nat),k<=(eI x).length/\ρ 1=.sl (y8.map dD)/\ρ 2=.sl (ds.map aO)/\ρ 3=.rp (aD x) 0/\ρ 8=int k/\ρ 7=.os j/\H j=some (Iy (vJ k)),fun ρ _=>(eI x).length-aT (ρ 8),⟨0,j,Xaa _,by rfl,by rfl,by rfl,by rfl,by rfl,R⟩,?_⟩;rintro ρ H ⟨k,j,Y,T,I,Z,e8,J,R⟩;simp only[go_sem,Z,e8];refine aL (tQ x (by omega)) ?_;simp only[go_sem,Xac];refine aA (fun A=>?_) (fun E=>?_)
 ·have A:=ltB (by omega);simp only[go_sem,J];refine aU R ⟨rfl,rfl⟩ ⟨rfl,trivial⟩ (by grind[vJ]) (fun j' U=>?_);simp only[go_sem,T,I,Z,e8,aQ k];refine⟨⟨k+1,j',A,rfl,rfl,?_⟩,by grind[aJ]⟩;rw[show vJ (k+1)=vJ k++[⟨[],2,1⟩]from List.replicate_succ'];exact eK rfl
 have E:=geB Y (by omega);subst E;simp only[go_sem,];generalize hB:vJ (eI x).length=B at R;have ai:B.length<=62:=by grind[vJ]
 refine⟨fun ρ H=>∃(k:Nat) (j:Nat),k<=x.types.length/\ρ 1=.sl (y8.map dD)/\ρ 2=.sl (ds.map aO)/\ρ 3=.rp (aD x) 0/\ρ 9=int k/\ρ 7=.os j/\H j=some (Iy (B++oW (x.types.take k))),fun ρ _=>x.types.length-aT (ρ 9),⟨0,j,Xaa _,by simp only[go_sem,T,],by simp only[go_sem,I],by simp only[go_sem,Z],(by rfl),J,by grind[oW]⟩,?_⟩;rintro ρ H ⟨k,j,Y,T,I,Z,e9,J,R⟩;simp only[go_sem,Z,e9];refine aA (fun A=>?_) (fun E=>?_)
 ·have A:=ltB (by omega);obtain⟨t,ht⟩:=aK A;have O:=inB A;have X:(B++oW (x.types.take k)).length<=62+k:=by grind[oW]
  simp only[go_sem,Z,e9,J,aC ht,O];refine aU R ⟨rfl,rfl⟩ ⟨rfl,trivial⟩ (by grind) (fun j' U=>?_);have e:B++oW (x.types.take (k+1))=B++oW (x.types.take k)++[⟨[],1,t.count⟩]:=by simp_all[oW,aY]
  simp only[go_sem,T,I,Z,e9,aQ k];refine⟨⟨k+1,j',A,rfl,rfl,?_⟩,by grind[aJ]⟩;rw[e];exact eK rfl
 have E:=geB Y (by omega);subst E;rw[Xad]at R;simp only[go_sem,];generalize ag:B++oW x.types=B2 at R;have af:B2.length<=62+1048576:=by grind[oW]
 refine⟨fun ρ H=>∃(k:Nat) (j:Nat),k<=y8.length/\ρ 1=.sl (y8.map dD)/\ρ 2=.sl (ds.map aO)/\ρ 10=int k/\ρ 7=.os j/\H j=some (Iy (B2++pA (y8.take k))),fun ρ _=>y8.length-aT (ρ 10),⟨0,j,Xaa _,by simp only[go_sem,T],by simp only[go_sem,I],(by rfl),J,by grind[pA]⟩,?_⟩;rintro ρ H ⟨k,j,Y,T,I,aa,J,R⟩;simp only[go_sem,T,aa];refine aA (fun A=>?_) (fun E=>?_)
 ·have A:=ltB (by omega);obtain⟨q,hq⟩:=aK A;have O:=inB A;have X:(B2++pA (y8.take k)).length<=62+1048576+k:=by grind[pA]
  simp only[go_sem,T,aa,aC hq,O];refine aL (auZ q) ?_;simp only[go_sem,J];refine aU R ⟨rfl,rfl⟩ ⟨rfl,trivial⟩ (by grind) (fun j' U=>?_);have e:B2++pA (y8.take (k+1))=B2++pA (y8.take k)++[⟨[],(Ed q).1,(Ed q).2⟩]:=by simp_all[pA,aY]
  simp only[go_sem,T,I,aa,aQ k];refine⟨⟨k+1,j',A,rfl,rfl,?_⟩,by grind[aJ]⟩;rw[e];exact eK rfl
 have E:=geB Y (by omega);subst E;rw[Xad]at R;simp only[go_sem,];generalize ah:B2++pA y8=B3 at R;have ae:B3.length<=62+1048576+1048576:=by grind[pA]
 refine⟨fun ρ H=>∃(k:Nat) (j:Nat),k<=ds.length/\ρ 2=.sl (ds.map aO)/\ρ 13=int k/\ρ 7=.os j/\H j=some (Iy (B3++oP (ds.take k))),fun ρ _=>ds.length-aT (ρ 13),⟨0,j,Xaa _,I,(by rfl),J,by grind[oP]⟩,?_⟩;rintro ρ H ⟨k,j,Y,I,F,J,R⟩;simp only[go_sem,I,F];refine aA (fun A=>?_) (fun E=>?_)
 ·have A:=ltB (by omega);obtain⟨d,hd⟩:=aK A;have O:=inB A;have hs:=Dk hd;have X:(B3++oP (ds.take k)).length<=62+1048576+1048576+k:=by grind[Hh]
  simp only[go_sem,I,F,aC hd,O];apply aA <;> intro hb
  ·have h3:d.kind=3:=by grind
   rw[show Jq d=some ⟨[],1,d.n⟩from if_pos h3]at hs;have e:B3++oP (ds.take (k+1))=B3++oP (ds.take k)++[⟨[],1,d.n⟩]:=by grind
   simp only[go_sem,I,F,J,aC hd,O];refine aU R ⟨rfl,rfl⟩ ⟨rfl,trivial⟩ (by grind) (fun j' U=>?_);simp only[go_sem,I,F,aC hd,O];apply aA <;> intro hb
   ·simp at hb;omega
   simp only[go_sem,I,F,aQ k];refine⟨⟨k+1,j',A,rfl,rfl,?_⟩,by grind[aJ]⟩;rw[e];exact eK rfl
  have h3:d.kind≠3:=by grind
  simp only[go_sem,I,F,aC hd,O];apply aA <;> intro hb
  ·have h4:d.kind=4:=by grind
   rw[show Jq d=some ⟨[],3,d.n⟩from(if_neg h3).trans (if_pos h4)]at hs;have e:B3++oP (ds.take (k+1))=B3++oP (ds.take k)++[⟨[],3,d.n⟩]:=by grind
   simp only[go_sem,I,F,J,aC hd,O];refine aU R ⟨rfl,rfl⟩ ⟨rfl,trivial⟩ (by grind) (fun j' U=>?_);simp only[go_sem,I,F,aQ k];refine⟨⟨k+1,j',A,rfl,rfl,?_⟩,by grind[aJ]⟩;rw[e];exact eK rfl
  have h4:d.kind≠4:=by grind
  rw[show Jq d=none from(if_neg h3).trans (if_neg h4)]at hs;simp only[go_sem,I,F,J,aQ k]
  grind[aJ]
 have E:=geB Y (by omega);subst E;rw[Xad]at R;simp only[go_sem,J];exact .row _ _ _ R (ConvE.refl _)
def uJ(x:Instance)(d:Nat)(cols:List Column)(y8:List Cut)(ds:List Decision):Int:=
 if vH x d cols y8 ds≠0 then vH x d cols y8 ds else if fU x y8 ds>64\/(inM cols ds).length+(iG x ds).length>8192 then 4 else 0
def ahB(x:Instance)(d:Nat)(A:List Column)(y8:List Cut)(ds:List Decision)(ah:LoadsOk x d)(ac:x.types≠[])(h:MIn x y8 ds)(hl:A.length<=1048576)(hs:∀c∈A,rK c.set)(hq:∀q∈y8,q.set<=9223372036854775807)(ai:∀d∈ds,pJ d):
  PC prog 43 [.agg (aD x),.sl (A.map bC),.sl (y8.map dD),.sl (ds.map aO)] (int (uJ x d A y8 ds)):=by
 have h1:=h.y5;have h2:=h.types;have h3:=h.cl;have h4:=h.dl;have am:=oK x;unfold uJ vH;refine pcd func43 rfl rfl ?_;simp only[go_sem];refine aL (Dec.aaL x ds h4) ?_;simp only[go_sem];apply aA <;> intro F
 ·have F:kE x ds≠0:=by grind
  rw[if_pos F,if_pos F];simp only[go_sem];exact .refl _
 have ag:kE x ds=0:=by grind
 rw[if_neg (show ¬kE x ds≠0 by omega)];simp only[go_sem];refine⟨fun ρ H=>∃(k:Nat),k<=y8.length/\ρ 1=.sl (A.map bC)/\ρ 2=.sl (y8.map dD)/\ρ 3=.sl (ds.map aO)/\ρ 4=.rp (aD x) 0/\ρ 10=int k/\(∀e∈(y8.map (jS x d)).take k,e=0),fun ρ _=>y8.length-aT (ρ 10),⟨0,Xaa _,by rfl,by rfl,by rfl,by rfl,(by rfl),by simp⟩,?_⟩;rintro ρ H ⟨k,hk,T,X,e3,O,Z,J⟩;simp only[go_sem,X,Z];refine aA (fun E=>?_) (fun I=>?_)
 ·have E:=ltB (by omega);obtain⟨q,aa⟩:=aK E;have b1:=inB E;have hm:(y8.map (jS x d))[k]?=some (jS x d q):=by grind
  have ak:=hq q (Xab aa);simp only[go_sem,];refine jK [(0,true),(1,true),(2,true),(3,true),(4,true),(5,false),(6,false)] (by kernel_rfl) ?_;simp only[go_sem,X,O,Z,aC aa,b1];refine aL (Nt x d q ah ac (by omega)) ?_;simp only[go_sem,];apply aA <;> intro F
  ·have he:=Dec.vW J hm F;have hn:jS x d q≠0:=by grind
   rw[he,if_pos hn,if_pos hn];simp only[go_sem];exact .refl _
  ·simp only[go_sem,T,X,e3,O,Z,aQ k];exact⟨⟨k+1,E,rfl,dW (p:=fun e:Int=>e=0) hm (by grind) J⟩,by grind[aJ]⟩
 have I:=geB hk (by omega);subst I;rw[Xai (by simp)]at J;rw[Dec.uF J,if_neg (show ¬(0:Int)≠0 by simp)];simp only[go_sem,];refine⟨fun ρ H=>∃(k:Nat),k<=A.length/\ρ 1=.sl (A.map bC)/\ρ 2=.sl (y8.map dD)/\ρ 3=.sl (ds.map aO)/\ρ 4=.rp (aD x) 0/\ρ 12=int k/\(∀c∈A.take k,AH x c=false),fun ρ _=>A.length-aT (ρ 12),⟨0,Xaa _,by simp only[go_sem,T,],by simp only[go_sem,X,],by simp only[go_sem,e3],by simp only[go_sem,O],(by rfl),by simp⟩,?_⟩;rintro ρ H ⟨k,hk,T,X,e3,O,U,J⟩;simp only[go_sem,T,U];refine aA (fun E=>?_) (fun I=>?_)
 ·have E:=ltB (by omega);obtain⟨c,Y⟩:=aK E;have b1:=inB E;simp only[go_sem,];refine jK [(0,true),(1,true),(2,true),(3,true),(4,true),(5,false),(6,false)] (by kernel_rfl) ?_;simp only[go_sem,T,O,U,aC Y,b1];refine aL (ahW x c h1 h2 (hs c (Xab Y))) ?_;simp only[go_sem,];apply aA <;> intro F
  ·have F:AH x c=true:=by grind
   have ha:A.any (AH x)=true:=Xaj.2 ⟨c,Xab Y,F⟩;rw[if_pos ha];simp only[go_sem];exact .refl _
  ·have F:AH x c=false:=by grind
   simp only[go_sem,T,X,e3,O,U,aQ k];exact⟨⟨k+1,E,rfl,dW (p:=fun c=>AH x c=false) Y F J⟩,by grind[aJ]⟩
 have I:=geB hk (by omega);subst I;rw[Xad]at J;have ab:¬A.any (AH x)=true:=by grind
 rw[if_neg ab,if_neg (show ¬(0:Int)≠0 by simp)];have ae:=K0 x A ds ag h1 hl h4 ai fun c Y=>by have:=JZ (J c Y);have:=(hs c Y).2;omega
 have al:(inM A ds).length<=A.length:=Xbs _ _;have aj:(iG x ds).length<=(eI x).length:=Xbs _ _;have af:=Nk x ds h1 h4;generalize inM A ds=L at *;generalize iG x ds=K at *;have w:IntKind.i64.wrap ((L.length:Int)+(K.length:Int))=((L.length+K.length:Nat):Int):=by grind[aW]
 simp only[go_sem,];refine jK [(0,true),(1,true),(2,true),(3,true),(4,true),(5,true),(6,true),(7,true),(10,true),(11,true),(8,false),(9,true),(12,false),(13,false),(14,false),(15,false),(16,false)] (by kernel_rfl) ?_;simp only[go_sem,X,e3,O];refine⟨_,(akM x y8 ds h).q rfl,?_⟩;simp only[go_sem,T,e3,O];refine⟨_,fun _=>ae.qn,?_⟩;simp only[go_sem,Xac];refine⟨_,fun _=>af.qn,?_⟩;simp only[go_sem,Xac,w];apply aA <;> intro F
 ·rw[if_pos (by grind)];simp only[go_sem];exact .refl _
 ·rw[if_neg (by grind)];simp only[go_sem];exact .refl _
def AI(rows:List PRow)(col:List Int):List PRow:=rows.mapIdx fun i r=>B6 r (col.getD i 0)
theorem apL(rows:List PRow)(col:List Int):AI rows col=sQ rows col rows.length:=by
 refine List.ext_getElem? fun i=>?_
 simp_all[AI,wF]
def Wq{rows:List PRow}{col:List Int}{k:Nat}{r:PRow}(h:rows[k]?=some r):AI (rows.take (k+1)) col=AI (rows.take k) col++[B6 r (col.getD k 0)]:=by
 unfold AI;rw[aY h,List.mapIdx_append]
 grind
def Zf:∀l:List Int,cT 1 (l.map aP)
 | []=>trivial
 | _::r=>⟨rfl,Zf r⟩
def VO(rows:List PRow)(col:List Int)(hr:rows.length<=1048576)(hc:rows.length<=col.length)(ap:∀r∈rows,r.θ.length<=1048576):
  PC prog 46 [.sl (rows.map gP),.sl (col.map aP)] (.sl ((AI rows col).map gP)):=by
 refine pcb (fun t=>t == 5||t == 18||t == 30) func46 rfl rfl ?_;simp only[go_sem];refine eJ fun j ak ai (R:ak j=some (Iy [])) N=>?_
 clear N ai;simp only[go_sem];refine⟨fun ρ H=>∃(k:Nat) (j:Nat),k<=rows.length/\ρ 0=.sl (rows.map gP)/\ρ 1=.sl (col.map aP)/\ρ 6=int k/\ρ 5=.os j/\H j=some (Iy (AI (rows.take k) col)),fun ρ _=>rows.length-aT (ρ 6),⟨0,j,Xaa _,by rfl,by rfl,(by rfl),by rfl,R⟩,?_⟩;rintro ρ H ⟨k,j,hk,e0,e1,e6,e5,R⟩;simp only[go_sem,e0,e6];refine aA (fun Z=>?_) (fun ag=>?_)
 ·have Z:=ltB (by omega);obtain⟨r,ac⟩:=aK Z;obtain⟨m,hm⟩:=aK (show k<col.length by omega);have b1:=inB Z;have b2:=inB (show k<col.length by omega);have hs:=Wq (col:=col) ac;simp only[go_sem,e0,e6,aC ac,b1];refine aH fun i7 O=>?_
  simp only[go_sem,];refine bW O (by simp[rH]) fun af (R7:af i7=some (⟨161,3,[gP r]⟩)) N=>?_
  replace R:=N R;obtain⟨A,R⟩:=R;clear N O;simp only[go_sem,];have aw:=ap r (Xab ac);refine xD (fun E H'=>E 0=.sl (rows.map gP)/\E 1=.sl (col.map aP)/\E 5=.os j/\E 6=int k/\E 7=.op i7 0 0/\H' j=some (Iy (AI (rows.take k) col))/\∃j',H' i7=some (⟨161,3,[[.os j',int r.kind,int r.right]]⟩:Row)/\H' j'=some (gV (r.θ++[m]))) ?_ fun K hK=>?_
  rotate_left
  ·refine uB [] (.q 1 (.q 4 (.q 5 (.q 6 (.q 7 (.a3 0 (.a2 2 (.a2 3 (.a1 8 (.a1 9 (.a1 10 (.a1 11 .nil)))) 8 (.a1 3 (.a1 9 (.a1 10 (.a1 11 .nil))))) 8 (.a1 2 (.a1 3 (.a1 9 (.a1 10 (.a1 11 .nil)))))) 2 (.a2 0 (.a2 3 (.a1 8 (.a1 9 (.a1 10 (.a1 11 .nil)))) 8 (.a1 3 (.a1 9 (.a1 10 (.a1 11 .nil))))) 8 (.a1 0 (.a1 3 (.a1 9 (.a1 10 (.a1 11 .nil)))))) 8 (.a2 0 (.a1 2 (.a1 3 (.a1 9 (.a1 10 (.a1 11 .nil))))) 2 (.a1 0 (.a1 3 (.a1 9 (.a1 10 (.a1 11 .nil)))))))))))) (by simp) (by kernel_rfl) fun Hp Hr _ hq _ _=>?_
   replace R:=(hq j (by simp)).trans R;replace R7:=(hq i7 (by simp)).trans R7;simp only[go_sem,e1,e6,aC hm,b2]
   repeat' (first|(refine ajY ?_ ?_ ?_)|(refine jG ?_ ?_)|(refine aH fun X ah=>?_;have ae:=aV R7 ah;have nj:=aV R ah;generalize J:aI Hr X _=G;have R':G j=some _:=by { rw[<-J,aF _ _ _ _ nj];exact R };have U:G i7=some _:=by { rw[<-J,aF _ _ _ _ ae];exact R7 };have am:G X=some (gV []):=by { rw[<-J,aB];rfl };clear J)|(simp only[go_sem,U,gP])|(simp only[go_sem,R7,gP]))
   all_goals
    refine aU am ⟨rfl,rfl⟩ (Zf _) (by simp only[Xac,List.length_nil];omega) (fun F I=>?_);have R2:=cM (r':=(⟨3,1,(gV []).es++r.θ.map aP⟩:Row)) R' nj.symm I;have T:=cM (r':=(⟨3,1,(gV []).es++r.θ.map aP⟩:Row)) U ae.symm I;have aj:=aV (j:=F) U I;have ao:=aV (j:=F) R' I;generalize J:aI (aI G X none) F _=G2;rw[J]at R2 T;have an:G2 F=some (gV r.θ):=by rw[<-J,aB];rfl
    clear J;simp only[go_sem,];refine aU an ⟨rfl,rfl⟩ ⟨rfl,trivial⟩ (by simp only[Xac,Xag,List.length_nil];omega) (fun ab Y=>?_);have R3:=cM (r':=(⟨3,1,(gV r.θ).es++[aP m]⟩:Row)) R2 ao.symm Y;have ar:=cM (r':=(⟨3,1,(gV r.θ).es++[aP m]⟩:Row)) T aj.symm Y;have al:=aV (j:=ab) T Y;simp only[go_sem,];refine bP aiR ar ⟨by simp,rfl,by simp⟩ ?_;refine dO fun _ Hm _ aa=>hK _ _ ⟨by simp only[go_sem,e0,],by simp only[go_sem,e1,],by simp only[go_sem,e5],by simp only[go_sem,e6],rfl,(aa j (by simp)).trans ((aF _ _ _ _ A).trans R3),ab,(aa i7 (by simp)).trans (aB _ _ _),(aa ab (by simp)).trans ((aF _ _ _ _ al.symm).trans ((aB _ _ _).trans ?_))⟩
    exact congrArg (fun l=>some (⟨3,1,l⟩:Row)) (Xaq (f:=aP) (l₁:=r.θ) (l₂:=[m])).symm
  rintro ρ H ⟨e0,e1,e5,e6,e7,R,j',R7,R'⟩;have av:j≠j':=BC R R' rfl;simp only[go_sem,e5,e7,R7];refine atM [j'] (gP (B6 r m)) ⟨.inr ⟨j',_,by simp,rfl,R',rfl⟩,.inl rfl,.inl rfl,trivial⟩ fun Hq _ aq=>?_
  replace R:=(aq j (by grind)).trans R;have au:(AI (rows.take k) col).length=k:=by grind[AI]
  simp only[go_sem,];refine aU R ⟨rfl,rfl⟩ ⟨rH _,trivial⟩ (by grind) (fun j2 ax=>?_);simp only[go_sem,e0,e1,e6,aQ k]
  grind[aJ,eK]
 have ag:=geB hk (by omega);subst ag;rw[Xad]at R;simp only[go_sem,e5];exact .row _ _ _ R (ConvE.refl _)
abbrev U9(jc:Nat)(rows:List PRow):Row:=⟨75,2,[[.os jc,.sl (rows.map gP)]]⟩
structure SpS(H:aM)(i8 i11 jc:Nat)(cost:List Int)(rows:List PRow):Prop where
 r8:H i8=some Tl
 p:H i11=some (U9 jc rows)
 c:H jc=some (gV cost)
 ne:i8≠i11
def SpS.mono{H H':aM}{i8 i11 jc:Nat}{cost:List Int}{rows:List PRow}(h:SpS H i8 i11 jc cost rows)(A:∀k row,H k=some row->H' k=some row):SpS H' i8 i11 jc cost rows:=
 ⟨A _ _ h.r8,A _ _ h.p,A _ _ h.c,h.ne⟩
def SpS.app{H:aM}{i8 i11 jc:Nat}{cost:List Int}{rows:List PRow}(h:SpS H i8 i11 jc cost rows){j':Nat}(A:H j'=none)(n:Int):
  SpS (aI (aI (aI H jc none) j' (some ⟨3,1,cost.map aP++[[int n]]⟩)) i11 (some (U9 j' rows))) i8 i11 j' (cost++[n]) rows:=by
 have I:i8≠jc:=BC h.r8 h.c rfl;have J:i11≠jc:=BC h.p h.c rfl;have E:i8≠j':=aV h.r8 A;have F:i11≠j':=aV h.p A;refine⟨?_,aB _ _ _,?_,h.ne⟩
 ·rw[aF _ _ _ _ h.ne,aF _ _ _ _ E,aF _ _ _ _ I];exact h.r8
 ·rw[aF _ _ _ _ F.symm,aB];simp[aP]
def SpS.put{H:aM}{i8 i11 jc:Nat}{cost:List Int}{rows:List PRow}(h:SpS H i8 i11 jc cost rows)(A:List PRow):SpS (aI H i11 (some (U9 jc A))) i8 i11 jc cost A:=
 ⟨by rw[aF _ _ _ _ h.ne];exact h.r8,aB _ _ _,by rw[aF _ _ _ _ (BC h.p h.c rfl).symm];exact h.c,h.ne⟩
def UX(x:Instance)(d:Nat)(A:List Column)(y8:List Cut)(ds:List Decision):gB x d A y8 ds=if uJ x d A y8 ds≠0 then(⟨[],[]⟩,uJ x d A y8 ds)else
  (⟨(Ae x (fU x y8 ds) (zY x y8 ds (inM A ds)) (iG x ds)).1,(Ae x (fU x y8 ds) (zY x y8 ds (inM A ds)) (iG x ds)).2⟩,0):=by
 unfold gB uJ
 grind
def Q0{x:Instance}{d:Nat}{A:List Column}{y8:List Cut}{ds:List Decision}(h:uJ x d A y8 ds=0):vH x d A y8 ds=0/\fU x y8 ds<=64/\(inM A ds).length+(iG x ds).length<=8192:=by grind[uJ]
def Ft{p:List Int×List PRow}{cost:Int}{col:List Int}(h:col.length=p.2.length):AI p.2 col=(kI p cost col).2:=by grind[apL,kI]
def aiB(x:Instance)(d:Nat)(A:List Column)(y8:List Cut)(ds:List Decision)(ba:LoadsOk x d)(av:x.types≠[])(h:MIn x y8 ds)(hl:A.length<=1048576)(hs:∀c∈A,rK c.set)(hq:∀q∈y8,q.set<=9223372036854775807)(ar:∀d∈ds,pJ d):
  PC prog 17 [.agg (aD x),.sl (A.map bC),.sl (y8.map dD),.sl (ds.map aO)] (.tup [.agg (fJ (gB x d A y8 ds).1),int (gB x d A y8 ds).2]):=by
 have h1:=h.y5;have h2:=h.types;have h3:=h.cl;have h4:=h.dl;have bc:=oK x;refine pcb (fun t=>t == 33) func17 rfl rfl ?_;simp only[go_sem];refine aH fun i8 h8=>?_
 have R8:=aB bN i8 (some Tl);generalize aI bN i8 _=HGi8 at R8 |-;clear h8;simp only[go_sem];refine aL (ahB x d A y8 ds ba av h hl hs hq ar) ?_;rw[UX];simp only[go_sem];apply aA <;> intro hb
 ·rw[if_pos (by grind)];simp only[go_sem];refine aG R8 (by simp) ?_;simp only[go_sem];exact .refl _
 rw[if_neg (by grind)];obtain⟨aw,bb,aa⟩:=Q0 (show uJ x d A y8 ds=0 by grind);obtain⟨a9,a8,a5⟩:=LS aw;have az:CutsB y8:=⟨fun q al=>⟨LX (a8 q al),hq q al⟩⟩;have ah:∀c∈A,0<=c.set/\c.set<=9223372036854775807:=fun c hc=>⟨by have:=JZ (a5 c hc);omega,(hs c hc).2⟩
 have aj:(eI x).length<=fU x y8 ds:=by grind[fU]
 simp only[go_sem];refine aL (ajH x y8 ds h) ?_;simp only[go_sem];refine aH fun ia ha=>?_
 refine aH fun ib ak=>?_
 refine aH fun i11 am=>?_
 simp only[go_sem];refine aG (aB _ _ _) (by simp) ?_;have S:SpS (aI (aI (aI (aI HGi8 ia (some (⟨3,1,[]⟩:Row))) ib (some ⟨161,3,[]⟩)) i11 (some Tl)) i11 (some (U9 ia (mJ x y8 ds)))) i8 i11 ia [] (mJ x y8 ds):=by
  have m1:=FG ha (some (⟨3,1,[]⟩:Row));have m2:=FG ak (some (⟨161,3,[]⟩:Row));have m3:=wO am (some Tl) (some (U9 ia (mJ x y8 ds)));refine⟨m3 _ _ (m2 _ _ (m1 _ _ R8)),aB _ _ _,m3 _ _ (m2 _ _ (aB _ _ _)),fun e=>?_⟩
  grind
 generalize hG:aI (aI (aI (aI HGi8 ia _) ib _) i11 _) i11 _=G;replace S:SpS G i8 i11 ia [] (mJ x y8 ds):=by rw[<-hG];exact S
 clear hG am ak ha R8;simp only[go_sem];refine aL (K0 x A ds a9 h1 hl h4 ar ah) ?_;simp only[go_sem];have be:(inM A ds).length<=A.length:=Xbs _ _;have bd:(iG x ds).length<=(eI x).length:=Xbs _ _;have ax:∀c∈inM A ds,c∈A:=fun c hc=>(List.mem_filter.1 hc).1
 have ag:=Nk x ds h1 h4;generalize inM A ds=L at *;generalize iG x ds=K at *;refine⟨fun ρ H=>∃(k:Nat) (jc:Nat),k<=L.length/\ρ 2=.sl (y8.map dD)/\ρ 3=.sl (ds.map aO)/\ρ 4=.rp (aD x) 0/\ρ 8=.op i8 0 0/\ρ 11=.op i11 0 0/\ρ 12=.sl (L.map bC)/\ρ 13=int k/\SpS H i8 i11 jc (zY x y8 ds (L.take k)).1 (zY x y8 ds (L.take k)).2,fun ρ _=>L.length-aT (ρ 13),⟨0,ia,Xaa _,by rfl,by rfl,by rfl,by rfl,by rfl,by rfl,(by rfl),S⟩,?_⟩;rintro ρ H ⟨k,jc,hk,e2,e3,e4,e8,E,I,O,S⟩;simp only[go_sem,I,O];refine aA (fun F=>?_) (fun Z=>?_)
 ·have F:=ltB (by omega);obtain⟨c,hc⟩:=aK F;have b1:=inB F;have an:=ax c (Xab hc);have hz:=DL x y8 ds L k (by omega);have af:=DW (x:=x) (y8:=y8) (ds:=ds) hc;generalize zY x y8 ds (L.take k)=p at *;have ac:=Bw x c y8 ds;have a0:=agS x c y8 ds h ⟨(ah c an).1,(ah c an).2⟩ az;generalize tG x c y8 ds=C at *;have hw:=Ft (p:=p) (cost:=c.o8) (show C.length=p.2.length by rw[ac,hz.2.1]);simp only[go_sem,];refine xD (fun J H'=>J 2=.sl (y8.map dD)/\J 3=.sl (ds.map aO)/\J 4=.rp (aD x) 0/\J 8=.op i8 0 0/\J 11=.op i11 0 0/\J 12=.sl (L.map bC)/\J 13=int k/\∃jc',SpS H' i8 i11 jc' (p.1++[c.o8]) p.2) ?_ fun K hK=>?_
  rotate_left
  ·refine uB [] (.q 0 (.q 2 (.q 3 (.q 4 (.q 5 (.q 6 (.a2 1 (.a1 7 (.a1 8 (.a1 9 (.a1 10 .nil)))) 7 (.a1 1 (.a1 8 (.a1 9 (.a1 10 .nil))))))))))) (by simp) (by kernel_rfl) fun Hp Hr _ hq _ _=>?_
   replace S:=S.mono fun q row h=>(hq q (by simp)).trans h
   simp only[go_sem,E,I,O,aC hc,b1]
   repeat' (first|(refine jG ?_ ?_)|(simp only[go_sem,S.p]))
   all_goals
    refine aU S.c ⟨rfl,rfl⟩ ⟨rfl,trivial⟩ (by simp only[Xac,Xag,List.length_nil];rw[hz.1];omega) (fun j' X=>?_);have T:=S.app X c.o8;have P2:=cM (r':=(⟨3,1,p.1.map aP++[[int c.o8]]⟩:Row)) S.p (BC S.p S.c rfl).symm X;simp only[go_sem,E,];refine bP aiR P2 ⟨by simp,rfl,by simp⟩ ?_;exact dO fun _ Hm _ Y=>hK _ _ ⟨by simp only[go_sem,e2,],by simp only[go_sem,e3,],by simp only[go_sem,e4,],by simp only[go_sem,e8,],by simp only[go_sem,E,],by simp only[go_sem,I],by simp only[go_sem,O],j',T.mono fun q row h=>(Y q (by simp)).trans h⟩
  clear S e2 e3 e4 e8 E I O;rintro ρ H ⟨e2,e3,e4,e8,E,I,O,jc',S⟩;simp only[go_sem,];refine uB [] (.q 0 (.q 2 (.q 3 (.q 4 (.q 5 (.q 6 (.q 7 (.q 8 (.a2 1 (.a1 9 (.a1 10 (.a1 11 (.a1 12 .nil)))) 9 (.a1 1 (.a1 10 (.a1 11 (.a1 12 .nil))))))))))))) (by simp) (by kernel_rfl) fun Hp Hr _ hq _ _=>?_
  replace S:=S.mono fun q row h=>(hq q (by simp)).trans h
  simp only[go_sem,e2,e3,e4,E,I,O,aC hc,b1]
  repeat' (first|(refine jG ?_ ?_)|(refine aL a0 ?_)|(refine aL (VO p.2 C (by rw[hz.2.1];omega) (by rw[ac,hz.2.1];exact Xae _) (fun r hr=>by rw[hz.2.2 r hr];omega)) ?_)|(simp only[go_sem,E,S.p]))
  all_goals
   refine bP aA2 S.p ⟨by simp,rfl,by simp⟩ ?_;have T:=S.put (AI p.2 C);refine dO fun _ Hm _ Y=>?_
   replace T:=T.mono fun q row h=>(Y q (by simp)).trans h
   simp only[go_sem,e2,e3,e4,e8,E,I,O,aQ k];refine⟨⟨k+1,jc',F,rfl,?_⟩,msr F⟩;rw[af,<-hw];exact T
 have Z:=geB hk (by omega);subst Z;rw[Xad]at S;have hz:=DL x y8 ds L L.length (Xae _);rw[Xad]at hz;simp only[go_sem,e3,e4,];refine aL ag ?_;simp only[go_sem,];generalize zY x y8 ds L=s1 at *;refine⟨fun ρ H=>∃(k:Nat) (jc:Nat),k<=K.length/\ρ 4=.rp (aD x) 0/\ρ 8=.op i8 0 0/\ρ 11=.op i11 0 0/\ρ 14=.sl (K.map aP)/\ρ 15=int k/\SpS H i8 i11 jc (Ae x (fU x y8 ds) s1 (K.take k)).1 (Ae x (fU x y8 ds) s1 (K.take k)).2,fun ρ _=>K.length-aT (ρ 15),⟨0,jc,Xaa _,by simp only[go_sem,e4,],by simp only[go_sem,e8],by simp only[go_sem,E],by rfl,(by rfl),S⟩,?_⟩;rintro ρ H ⟨k,jc,hk,e4,e8,E,ab,ae,S⟩;simp only[go_sem,ab,ae];refine aA (fun F=>?_) (fun Z=>?_)
 ·have F:=ltB (by omega);obtain⟨o,ho⟩:=aK F;have b1:=inB F;have aa:=JQ x aj hz K k (by omega);have af:=D9 (x:=x) (n:=fU x y8 ds) (s0:=s1) ho;generalize Ae x (fU x y8 ds) s1 (K.take k)=p at *;have ac:=yO x o aj;have ay:=akQ x o (fU x y8 ds) h1 aj (by omega);generalize lY x o (fU x y8 ds)=C at *;generalize fU x y8 ds=N at *;have hw:=Ft (p:=p) (cost:=sJ x o) (show C.length=p.2.length by rw[ac,aa.2.1]);have au:sJ x o=(gT (cJ x o).1).1:=rfl;have a6:=PT x o;have ao:=KA (cJ x o).1;rw[<-au]at ao;generalize sJ x o=W at *;generalize cJ x o=U at *;simp only[go_sem,];refine jK [(0,true),(1,true),(2,true),(3,true),(4,true),(5,true),(6,true),(7,true),(8,true),(9,false),(10,false),(11,false)] (by kernel_rfl) ?_;simp only[go_sem,e4,ab,ae,aC ho,b1];refine⟨_,a6.q rfl,?_⟩;simp only[go_sem,];refine aH fun ai aq=>?_
  simp only[go_sem,];refine aG (aB _ _ _) (by simp[cP]) ?_;replace S:=S.mono (wO aq (some (⟨125,4,[[int 0,int 0,int 0,int 0]]⟩:Row)) (some (⟨125,4,[bD U.1]⟩:Row)));generalize hG:aI (aI H ai _) ai _=HG;replace S:SpS HG i8 i11 jc p.1 p.2:=by rw[<-hG];exact S
  have ap:HG ai=some (⟨125,4,[bD U.1]⟩:Row):=by rw[<-hG,aB];rfl
  clear hG aq;simp only[go_sem,ap];refine aL ao ?_;simp only[go_sem,E,S.p];refine aU S.c ⟨rfl,rfl⟩ ⟨rfl,trivial⟩ (by simp only[Xac,Xag,List.length_nil];rw[aa.1];omega) (fun j' X=>?_);have T:=S.app X W;have P2:=cM (r':=(⟨3,1,p.1.map aP++[[int W]]⟩:Row)) S.p (BC S.p S.c rfl).symm X;simp only[go_sem,E,];refine bP aiR P2 ⟨by simp,rfl,by simp⟩ ?_;replace T:SpS _ i8 i11 j' (p.1++[W]) p.2:=T;generalize hG:aI _ i11 _=HG2;replace T:SpS HG2 i8 i11 j' (p.1++[W]) p.2:=by rw[<-hG];exact T
  clear hG P2 S ap;simp only[go_sem,];refine uB [] (.q 0 (.q 2 (.q 3 (.q 4 (.q 5 (.q 6 (.q 7 (.a2 1 (.a1 8 (.q 9 (.a1 10 (.a1 11 (.a1 12 (.a1 13 .nil)))))) 8 (.q 9 (.a2 1 (.a1 10 (.a1 11 (.a1 12 (.a1 13 .nil)))) 10 (.a1 1 (.a1 11 (.a1 12 (.a1 13 .nil)))))))))))))) (by simp) (by kernel_rfl) fun Hp Hr _ hq _ _=>?_
  replace T:=T.mono fun q row h=>(hq q (by simp)).trans h
  have a4:p.2.length=N:=aa.2.1;simp only[go_sem,e4,E,ab,ae,aC ho,b1,Xac]
  repeat' (first|(refine jG ?_ ?_)|(refine aL ay ?_)|(refine aL (VO p.2 C (by omega) (by omega) (fun r hr=>by rw[aa.2.2 r hr];omega)) ?_)|(simp only[go_sem,E,T.p,Xac,a4]))
  all_goals
   refine bP aA2 T.p ⟨by simp,rfl,by simp⟩ ?_;have S3:=T.put (AI p.2 C);refine dO fun _ Hm _ Y=>?_
   replace S3:=S3.mono fun q row h=>(Y q (by simp)).trans h
   simp only[go_sem,e4,e8,E,ab,ae,aQ k];refine⟨⟨k+1,j',F,rfl,?_⟩,msr F⟩;rw[af,<-hw];exact S3
 have Z:=geB hk (by omega);subst Z;rw[Xad]at S;generalize Ae x (fU x y8 ds) s1 K=s2 at *;simp only[go_sem,e8,E,S.p];refine aG S.r8 (by simp) ?_;have a7:jc≠i8:=BC S.c S.r8 rfl;simp only[go_sem,e8];refine .tup _ _ (.cons _ _ _ _ (.agg _ _ (.cons _ _ _ _ (.row _ _ _ (by rw[aF _ _ _ _ a7];exact S.c) (ConvE.refl _)) (.cons _ _ _ _ (.refl _) .nil))) (.cons _ _ _ _ (.refl _) .nil))
end Nu
namespace Nu
open Go.Nu
open Dec (kE dJ cX pJ mS)
def Mf(n:Int):qU (n:Rat)=zed n:=by rfl
def afO{n:Int}(h:n.natAbs<cN):vG (n:Rat):=⟨by simp_all,by rw[Rat.den_intCast];exact ET (k:=1) (by decide) (by decide)⟩
def Pe{n:Int}(h:n.natAbs<cN):bZ (zed n)=true:=by rw[<-Mf];exact rA (afO h)
def Zm(n:Int):FE (zed n)=(n:Rat):=by rw[<-Mf,gY]
def auE{a b:Int}(E:a.natAbs<cN)(A:b.natAbs<cN):zX (zed a) (zed b)=iH a b:=by simp_all[zX,Pe,Zm,P3,Jh]
def oQ(r:PRow)(l:List (Int×List Int))(i:Nat):PRow:=⟨r.θ++l.map fun c=>c.2.getD i 0,r.kind,r.right⟩
def wR(p:List Int×List PRow)(l:List (Int×List Int)):List Int×List PRow:=l.foldl (fun s c=>kI s c.1 c.2) p
def Du:∀(l:List (Int×List Int)) (p:List Int×List PRow),(wR p l).1=p.1++l.map (·.1)
 | [],p=>by simp[wR]
 | c::l,p=>by show(wR (kI p c.1 c.2) l).1=_;rw[Du l];unfold kI;simp
def EN:∀(l:List (Int×List Int)) (p:List Int×List PRow),(∀c∈l,c.2.length=p.2.length)->∀i r,p.2[i]?=some r->(wR p l).2[i]?=some (oQ r l i)
 | [],p,_,i,r,h=>by show p.2[i]?=_;simp_all[oQ]
 | c::l,p,hl,i,r,h=>by
  show(wR (kI p c.1 c.2) l).2[i]?=_;have E:=(List.getElem?_eq_some_iff.1 h).1;have A:(kI p c.1 c.2).2[i]?=some (B6 r (c.2.getD i 0)):=by simp_all[kI,wF]
  rw[EN l _ (fun d F=>by grind[yP]) i _ A]
  grind[oQ,B6]
theorem Ku:∀(l:List (Int×List Int)) (p:List Int×List PRow),(wR p l).2.length=p.2.length
 | [],p=>rfl
 | c::l,p=>by show(wR (kI p c.1 c.2) l).2.length=_;rw[Ku l,(yP p c.1 c.2).1]
def aCm(x:Instance)(y8:List Cut)(ds:List Decision)(c:Column):Int×List Int:=(c.o8,tG x c y8 ds)
def aB2(x:Instance)(n:Nat)(o:Int):Int×List Int:=(sJ x o,lY x o n)
def ajR(x:Instance)(y8:List Cut)(ds:List Decision)(l:List Column):zY x y8 ds l=wR ([],mJ x y8 ds) (l.map (aCm x y8 ds)):=by unfold zY wR;rw[List.foldl_map];rfl
def aoG(x:Instance)(n:Nat)(s0:List Int×List PRow)(l:List Int):Ae x n s0 l=wR s0 (l.map (aB2 x n)):=by unfold Ae wR;rw[List.foldl_map];rfl
def aA9(x:Instance)(y8:List Cut)(ds:List Decision)(L:List Column)(K:List Int)(i:Nat):List Int:=L.map (fun c=>(tG x c y8 ds).getD i 0)++K.map fun o=>(lY x o (fU x y8 ds)).getD i 0
def WM{x:Instance}{d:Nat}{A:List Column}{y8:List Cut}{ds:List Decision}(h:(gB x d A y8 ds).2=0):
  (gB x d A y8 ds).1.cost=(inM A ds).map (·.o8)++(iG x ds).map (sJ x) /\
  ∀(i:Nat) (r:PRow),(mJ x y8 ds)[i]?=some r->(gB x d A y8 ds).1.rows[i]?=some (⟨aA9 x y8 ds (inM A ds) (iG x ds) i,r.kind,r.right⟩:PRow):=by
 have J:(eI x).length<=fU x y8 ds:=by grind[fU]
 unfold gB at h |-;split at h
 ·omega
 next h1=>
 split at h
 ·cases h
 next O=>
 rw[if_neg h1,if_neg O];show(Ae x (fU x y8 ds) (zY x y8 ds (inM A ds)) (iG x ds)).1=_/\∀(i:Nat) (r:PRow),(mJ x y8 ds)[i]?=some r->(Ae x (fU x y8 ds) (zY x y8 ds (inM A ds)) (iG x ds)).2[i]?=some (⟨aA9 x y8 ds (inM A ds) (iG x ds) i,r.kind,r.right⟩:PRow);generalize inM A ds=L;generalize iG x ds=K;rw[ajR,aoG];refine⟨?_,fun i r F=>?_⟩
 ·rw[Du,Du,Xbi,List.map_map,List.map_map];rfl
 ·have E:r.θ=[]:=List.eq_nil_of_length_eq_zero ((SP x y8 ds).2.2 r (Xab F));have I:=EN (L.map (aCm x y8 ds)) ([],mJ x y8 ds) (fun c E=>by obtain⟨a,_,rfl⟩:=Xao.1 E;show(tG x a y8 ds).length=(mJ x y8 ds).length;rw[Bw,D3]) i r F;rw[EN (K.map (aB2 x (fU x y8 ds))) _ (fun c E=>by
   obtain⟨a,_,rfl⟩:=Xao.1 E;show(lY x a (fU x y8 ds)).length=_
   grind[yO,Ku,D3]) i _ I]
  unfold oQ aA9;rw[E,Xbi,List.map_map,List.map_map];rfl
end Nu
namespace Nu
open Go.Proofs.Tryz
open Go.Nu
open Dec (kE fB dJ cX pJ mS)
open Sq (EvalB BestQ oJ rT dZ fT)
open Ps (PrOk)
def oA(x:Instance)(b:Bool):Row:=⟨68,9,[[.sl (x.τ.places.map Go.Aw.D.dK),.sl (x.τ.o9.map fL),.sl (x.types.map bI),.sl (x.y5.map bE),.sl (x.apart.map dN),.sl (x.before.map dN),.sl (if b=true then(oJ x).map bC else[]),int 0,boo b]]⟩
def aBZ(x:Instance){d:Nat}(h:PrOk x d)(b:Bool){j:Nat}{H:aM}{K:AV->aM->Prop}(A:H j=some (oA x b))(T:∀H',H' j=some (oA x true)->(∀k r,k≠j->H k=some r->H' k=some r)->K (.tup [.sl ((oJ x).map bC),int 0]) H'):bQ prog 35 [.op j 0 0] H K:=by
 have J:=Sq.NC.pc2 (Sq.azG x h.ev h.n8 h.ty);refine bQ.body (c:=f35.body.getD .skip) (fun _=>false) mixed func35 rfl (by kernel_rfl) ?_;unfold f35;simp only[Xbb];simp only[go_sem];simp only[go_sem,A,oA];apply aA <;> intro E
 ·have E:b=false:=by grind
  subst E;simp only[go_sem,A,oA];refine aL (args:=[.agg (aD x)]) J ?_;simp only[go_sem];refine bP ⟨_,rfl,rfl⟩ A (by simp[oA]) ?_;simp only[go_sem];refine bP ⟨_,rfl,rfl⟩ (aB _ _ _) (by simp[oA]) ?_;simp only[go_sem];refine bP ⟨_,rfl,rfl⟩ (aB _ _ _) (by simp[oA]) ?_;generalize F:aI _ j _=G;have R:G j=some (oA x true):=by rw[<-F,aB];rfl
  have U:∀k r,k≠j->H k=some r->G k=some r:=fun k r I O=>by rw[<-F,aF _ _ _ _ I,aF _ _ _ _ I,aF _ _ _ _ I];exact O
  clear F;simp only[go_sem];refine dC ?_;simp only[go_sem,R,oA]
  grind
 ·have E:b=true:=by grind
  subst E;simp only[go_sem];refine dC ?_;simp only[go_sem,A,oA]
  grind
def OW(s:ByteArray)(n:Int):Bool:=(AF s).2 == 0&&decide (zX (AF s).1 (zed n)>=0)
def PV(p:PLin)(n:TNode)(o8:Int):Int:=
 if(n.kind == 2)=true then(if(!Cs p n.ψ)=true then 26 else 0)
 else if(!(pE p n.ψ).2|| !OW (pE p n.ψ).1 o8)=true then 26 else 0
def CW(x:Instance)(d:Nat)(ds:List Decision)(n:TNode)(o8:Int):Int:=
 if(!n.leaf||(n.kind != 1&&n.kind != 2))=true then 28
 else if(kE x ds != 0)=true then kE x ds
 else if n.y8.length>24 then 27
 else if(n.y8.any fun k=>jS x d k != 0)=true then 27
 else if((gB x d (oJ x) n.y8 ds).2 != 0)=true then(gB x d (oJ x) n.y8 ds).2
 else PV (gB x d (oJ x) n.y8 ds).1 n o8
theorem ahK(a b:ByteArray):(Fg a b).1.size<=1048576:=by
 unfold Fg szZ;split
 ·split
  ·grind[dP]
  ·exact Xaa _
 ·exact Xaa _
def adN(s:ByteArray)(h:s.size<=1048576):(AF s).1.size<=1048576:=by
 obtain⟨_,_,A⟩:=Iu s h;unfold AF;split
 ·exact Xaa _
 grind[ahK]
structure LeafB(x:Instance)(n:TNode)(ds:List Decision)(o8:Int):Prop where
 types:∀t∈x.types,rK t.count
 y8:∀q∈n.y8,rK q.n/\q.set<=9223372036854775807
 dsn:∀d∈ds,rK d.n
 dl:ds.length<=1048576
 cl:n.y8.length<=1048576
 ψ:VarB n.ψ
 o8:rK o8
def afE(s:Score):rK (gT s).1:=by
 unfold gT rK;split
 ·decide
 ·split
  ·decide
  ·exact Rx.VK _
def KN{x:Instance}{d:Nat}{A:List Column}{y8:List Cut}{ds:List Decision}(E:∀c∈A,rK c.o8)(h:(gB x d A y8 ds).2=0)(i:Nat):rK ((gB x d A y8 ds).1.cost.getD i 0):=by
 rw[(WM h).1,List.getD];cases e:((inM A ds).map (·.o8)++(iG x ds).map (sJ x))[i]? with
 | none=>exact⟨by decide,by decide⟩
 | some n=>
  rcases List.mem_append.1 (Xab e)with hm|hm <;> obtain⟨c,F,rfl⟩:=Xao.1 hm
  ·exact E c (List.mem_filter.1 F).1
  ·exact afE _
def WX(x:Instance){d:Nat}(h:PrOk x d)(b:Bool)(ds:List Decision)(n:TNode)(o8:Int)(E:LeafB x n ds o8){j:Nat}{H:aM}{K:AV->aM->Prop}(hj:H j=some (oA x b))(hK:∀H' b',H' j=some (oA x b')->K (int (CW x d ds n o8)) H'):bQ prog 13 [.op j 0 0,.sl (ds.map aO),.agg (bY n),int o8] H K:=by
 have hM:MIn x n.y8 ds:=⟨Xaf h.n8 (by decide),Xaf h.ty (by decide),E.cl,E.dl⟩;have aj:(oJ x).length<=1048576:=by have h8:2^x.y5.length<=256:=Xaf (Xah (by decide) h.n8) (by decide);exact Xaf (Sq.AN x _) (Xaf (Nat.mul_le_mul h.ty h8) (by decide))
 have hB:=avU x d (oJ x) n.y8 ds h.lo h.ne hM aj (fun c hc=>(Ps.JH h.n8 hc).b.1.2) (fun q I=>(E.y8 q I).2);have hL:(gB x d (oJ x) n.y8 ds).2=0->LinW (gB x d (oJ x) n.y8 ds).1:=fun e=>⟨Pm e ⟨E.types,fun q I=>(E.y8 q I).1,E.dsn⟩,fun r hr=>by obtain⟨_,h1,_,_,_,h5,_⟩:=Kt e ⟨E.types,fun q I=>(E.y8 q I).1,E.dsn⟩;grind,fun i _=>KN (fun c hc=>(Ps.JH h.n8 hc).o8) e i⟩
 obtain⟨L,hC⟩:∃L,L=CW x d ds n o8:=⟨_,rfl⟩;rw[<-hC]at hK;unfold CW at hC;refine bQ.body (c:=f13.body.getD .skip) (fun _=>false) mixed func13 rfl (by kernel_rfl) ?_;unfold f13;simp only[Xbb];simp only[go_sem];apply aA <;> intro A
 ·rw[if_pos A]at hC;simp only[go_sem]
  grind
 rw[if_neg (by grind)]at hC;simp only[go_sem,hj,oA];refine aL (args:=[.agg (aD x),.sl (ds.map aO)]) (Dec.alW x ds E.dl) ?_;simp only[go_sem];apply aA <;> intro A
 ·rw[if_pos A]at hC;simp only[go_sem]
  grind
 rw[if_neg (by grind)]at hC;simp only[go_sem,Xac];apply aA <;> intro A
 ·rw[if_pos (by grind)]at hC;simp only[go_sem]
  grind
 rw[if_neg (by grind)]at hC;simp only[go_sem,Xac];refine⟨fun ρ H=>∃(k:Nat),k<=n.y8.length/\ρ 0=.op j 0 0/\ρ 1=.sl (ds.map aO)/\ρ 3=int o8/\ρ 6=.rp (bY n) 0/\ρ 44=.sl (n.y8.map dD)/\ρ 45=int (n.y8.length:Nat)/\ρ 46=int k/\H j=some (oA x b)/\(∀q∈n.y8.take k,jS x d q=0),fun ρ _=>n.y8.length-aT (ρ 46),⟨0,Xaa _,by rfl,by rfl,by rfl,by rfl,by rfl,by rfl,(by rfl),hj,by simp⟩,?_⟩;rintro ρ H ⟨k,hk,e0,e1,e3,U,ag,ac,X,R,hz⟩;simp only[go_sem,ac,X];refine aA (fun J=>?_) (fun ae=>?_)
 ·have J:=ltB (by omega);obtain⟨q,I⟩:=aK J;have b1:=inB J;simp only[go_sem,ag,X,aC I,b1,Xac];refine aH fun i11 F=>?_
  simp only[go_sem,];refine bW F (by simp[xZ]) fun Y (ak:Y i11=some (⟨109,3,[dD q]⟩)) N=>?_
  replace R:=(N R).2;clear N F;simp only[go_sem,];refine dC ?_;simp only[go_sem,e0,R,ak,oA];refine⟨_,(VN x d q h.lo h.ne).q rfl,?_⟩;simp only[go_sem];apply aA <;> intro ai
  ·rw[if_pos (Xaj.2 ⟨q,Xab I,ai⟩)]at hC;simp only[go_sem]
   grind
  simp only[go_sem,e0,e1,e3,U,ag,ac,X,mT (show k<=4611686018427387904 by grind)];refine⟨⟨k+1,J,rfl,R,?_⟩,by grind[aJ]⟩;exact dW (p:=fun q=>jS x d q=0) I (by grind) hz
 have ae:=geB hk (by omega);subst ae;rw[Xad]at hz;rw[if_neg (by grind)]at hC;simp only[go_sem,e0,];refine aBZ x h b R fun H2 T ah=>?_
 simp only[go_sem];refine aA (fun A=>by cases A) (fun A=>?_);simp only[go_sem,];generalize al:gB x d (oJ x) n.y8 ds=p at *;have hB:PC prog 36 [.agg (List.take 6 ((oA x true).es.getD 0 [])),.sl ((oJ x).map bC),.sl (n.y8.map dD),.sl (ds.map aO)] (.tup [.agg (fJ p.1),int p.2]):=hB;refine oU [j] (.q 0 (.q 1 (.q 2 (.q 3 (.q 4 (.q 5 (.q 6 (.q 7 (.a2 8 (.q 9 (.q 10 (.q 11 (.a1 12 (.a1 13 (.q 14 .nil)))))) 12 (.a1 8 (.q 9 (.q 10 (.q 11 (.a1 13 (.q 14 .nil))))))))))))))) (fun O H'=>O 3=int o8/\O 6=.rp (bY n) 0/\O 13=int p.2/\∃i,O 14=.op i 0 0/\H' i=some ⟨75,2,[fJ p.1]⟩/\H' j=some (oA x true)) (by grind) (by kernel_rfl) (fun K' aa Hp Hr hp hr _ am=>?_) ?_
 ·have ab:=(hp j (by simp)).trans T;simp only[go_sem,e0,e1,U,ab];refine⟨⟨by simp[oA],by simp[oA]⟩,jG ?_ ?_⟩
  ·simp only[go_sem,];refine aL hB ?_;simp only[go_sem];refine aH fun i h0=>?_
   simp only[go_sem];refine aG (aB _ _ _) (by simp[yV]) ?_;simp only[go_sem];refine tD hr h0 fun h1=>aa _ _ ⟨by simp only[go_sem,e3,],by simp only[go_sem,U,],by rfl,i,by rfl,(aB _ _ _).trans rfl,?_⟩
   rw[aF _ _ _ _ (aV T h1),aF _ _ _ _ (aV T h1)];exact T
  ·simp only[go_sem,];refine aH fun i h0=>?_
   simp only[go_sem];refine aL hB ?_;simp only[go_sem];refine aG (aB _ _ _) (by simp[yV]) ?_;simp only[go_sem];refine tD hr h0 fun h1=>aa _ _ ⟨by simp only[go_sem,e3,],by simp only[go_sem,U,],by rfl,i,by rfl,(aB _ _ _).trans rfl,?_⟩
   rw[aF _ _ _ _ (aV T h1),aF _ _ _ _ (aV T h1)];exact T
 clear R T ah;rintro ρ H ⟨e3,U,af,i,Z,Ri,R⟩;simp only[go_sem,af];apply aA <;> intro A
 ·rw[if_pos A]at hC;simp only[go_sem,af]
  grind
 rw[if_neg (by grind)]at hC;have h0:p.2=0:=by grind
 unfold PV at hC;simp only[go_sem,U];apply aA <;> intro A
 ·rw[if_pos A]at hC;simp only[go_sem,U,Z,Ri];refine aL (aiK p.1 n.ψ (hL h0) E.ψ) ?_;simp only[go_sem];apply aA <;> intro A
  ·rw[if_pos A]at hC;simp only[go_sem]
   grind
  ·rw[if_neg (by grind)]at hC;simp only[go_sem]
   grind
 rw[if_neg (by grind)]at hC;simp only[go_sem,U,Z,Ri];refine aL (aoV p.1 n.ψ (hL h0) E.ψ) ?_;simp only[go_sem,e3];have hs:(pE p.1 n.ψ).1.size<=1048576:=by
  unfold pE;split
  ·decide
  ·split
   ·grind[uI]
   ·decide
 unfold OW at hC;refine⟨_,fun _=>(aBM (pE p.1 n.ψ).1 o8 hs E.o8.1 E.o8.2 (adN _ hs)).q rfl,?_⟩;simp only[go_sem];apply aA <;> intro A
 ·rw[if_pos A]at hC;simp only[go_sem]
  grind
 ·rw[if_neg (fun h=>Bool.noConfusion (A.symm.trans h))]at hC;simp only[go_sem]
  grind
end Nu
namespace Sq
open Go.Proofs.Tryz
open Go.Proofs.YtkfhgjihlbilpaaGreatDoor.Nu (ltB geB)
open Dec (aS)
abbrev AK(l:List Int):Row:=⟨3,1,l.map aP⟩
def CS(r:Route)(i:Nat):Int:=(lN r.y7).1/2^i%2
def GN(l:List Route)(i:Nat):Int:=(l.map fun r=>CS r i).sum
def xO(n:Nat)(l:List Route):List Int:=(List.range n).map fun i=>GN l i
def xP(n:Nat)(l:List Route)(r:Route)(m:Nat):List Int:=(List.range n).map fun i=>GN l i+if i<m then CS r i else 0
def akI(l:List Route)(r:Route)(i:Nat):GN (l++[r]) i=GN l i+CS r i:=by simp[GN]
def V6(n:Nat)(l:List Route)(r:Route):xP n l r 0=xO n l:=by simp[xP,xO]
def Yj(n:Nat)(l:List Route)(r:Route):xP n l r n=xO n (l++[r]):=by simp_all[xP,xO,akI]
def abP(r:Route)(i:Nat):0<=CS r i/\CS r i<=1:=by grind[CS]
def auJ(l:List Route)(i:Nat):0<=GN l i/\GN l i<=l.length:=by
 induction l with
 | nil=>simp[GN]
 | cons r l ih=>
  have:=abP r i
  grind[GN]
def GJ{n:Nat}{l:List Route}{r:Route}{m i:Nat}(h:i<n):(xP n l r m)[i]?=some (GN l i+if i<m then CS r i else 0):=by grind[xP]
def aeV{n:Nat}{l:List Route}{r:Route}{m:Nat}(h:m<n):(xP n l r m).set m (GN l m+CS r m)=xP n l r (m+1):=by
 refine List.ext_getElem? fun i=>?_
 have E:(xP n l r m).length=n:=by simp[xP]
 by_cases A:i<n
 ·rw[GJ A,List.getElem?_set];by_cases e:m=i
  ·grind
  ·rw[if_neg e,GJ A]
   grind
 grind[xP]
def awH(l:List Visit):0<=(lN l).1/\(lN l).1<9223372036854775808:=by
 unfold lN;split
 ·rename_i h;rw[Xap]at h;have:=Qx (m:=63) l fun v A=>by grind[okV]
  omega
 simp
def kG(n:Nat)(l:List Int):List Int:=(List.range n).map fun i:Nat=>(l.countP (fun u=>u == (i:Int)):Int)
theorem UN{n:Nat}{l:List Int}{u:Int}{i:Nat}(A:u=(i:Int))(E:i<n):(kG n l).set i ((l.countP (fun w=>w == (i:Int)):Int)+1)=kG n (l++[u]):=by
 subst A;refine List.ext_getElem? fun m=>?_
 have F:(kG n l).length=n:=by simp[kG]
 by_cases I:m<n
 ·have e:∀l',(kG n l')[m]?=some (l'.countP (fun u=>u == (m:Int)):Int):=fun l'=>by grind[kG]
  rw[e,List.getElem?_set,List.countP_append];simp_all;grind
 grind[kG]
theorem K3(n:Nat):(some ⟨3,1,List.replicate n [int 0]⟩:Option Row)=some (AK (xO n [])):=by
 have:xO n []=List.replicate n 0:=by simp[xO,List.eq_replicate_iff,GN]
 simp_all[aP]
theorem GZ(n:Nat):(some ⟨3,1,List.replicate n [int 0]⟩:Option Row)=some (AK (kG n [])):=by
 have:kG n []=List.replicate n 0:=by simp[kG,List.eq_replicate_iff]
 simp_all[aP]
def amI(x:Instance)(p:Plan)(hx:x.y5.length<=62)(hp:PlanB p):PC prog 69 [.agg (aD x),.agg (mA p)]
  (.tup [.sl ((if(p.y9.any fun u=>cH u x.y5.length)=true then[]else xO x.y5.length p.x9).map aP),.sl ((if(p.y9.any fun u=>cH u x.y5.length)=true then[]else kG x.y5.length p.y9).map aP),boo !(p.y9.any fun u=>cH u x.y5.length)]):=by
 have be:=hp.x9;have bd:=hp.y9;refine pcd func69 rfl rfl ?_;simp only[go_sem];refine oU [] (.q 0 (.q 1 (.q 2 (.q 4 (.q 5 (.q 6 (.a2 3 (.q 8 (.a1 7 (.q 9 .nil))) 7 (.a1 3 (.q 8 (.q 9 .nil))))))))))
  (fun ab H'=>ab 2=.rp (aD x) 0/\ab 3=.rp (mA p) 0/\∃j4 j5,ab 4=.os j4/\ab 5=.os j5/\j4≠j5/\H' j4=some (AK (xO x.y5.length []))/\H' j5=some (AK (kG x.y5.length []))) (by simp) (by kernel_rfl) (fun K' aj Hp Hr a8 hr _ bg=>?_) ?_
 ·simp only[go_sem];refine jG ?_ ?_
  ·simp only[go_sem];refine⟨by omega,aH fun ja ak=>?_⟩;simp only[go_sem];refine⟨by omega,aH fun jb an=>?_⟩;have ne:=aV (aB _ _ _) an;simp only[go_sem];refine dO fun _ Hm _ h2=>aj _ _ ⟨by rfl,by rfl,ja,jb,by rfl,by rfl,ne,?_,?_⟩
   all_goals grind[aF,aB,K3,GZ]
  ·simp only[go_sem];refine⟨by omega,aH fun jb an=>?_⟩;simp only[go_sem];refine⟨by omega,aH fun ja ak=>?_⟩;have ne:=aV (aB _ _ _) ak;simp only[go_sem];refine dO fun _ Hm _ h2=>aj _ _ ⟨by rfl,by rfl,ja,jb,by rfl,by rfl,ne.symm,?_,?_⟩
   all_goals grind[aB,K3,aF,GZ]
 ·rintro ρ H ⟨X,e3,j4,j5,T,U,a9,E,O⟩;simp only[go_sem,e3,];refine⟨fun ρ H=>∃(k:Nat),k<=p.x9.length/\ρ 2=.rp (aD x) 0/\ρ 3=.rp (mA p) 0/\ρ 23=.sl (p.x9.map bJ)/\ρ 4=.os j4/\ρ 5=.os j5/\ρ 24=int (p.x9.length:Nat)/\ρ 25=int k/\H j4=some (AK (xO x.y5.length (p.x9.take k)))/\H j5=some (AK (kG x.y5.length [])),fun ρ _=>p.x9.length-aT (ρ 25),⟨0,Xaa _,by simp only[go_sem,X,],by simp only[go_sem,e3,],by rfl,by simp only[go_sem,T],by simp only[go_sem,U],by rfl,(by rfl),E,O⟩,?_⟩;rintro ρ H ⟨k,hk,X,e3,J,T,U,I,F,E,O⟩;simp only[go_sem,I,F];refine aA (fun A=>?_) (fun Y=>?_)
  ·have A:=ltB (by omega);obtain⟨r,hr⟩:=aK A;have b1:=inB A;have hs:=aY hr;have bf:(p.x9.take k).length<=k:=by grind
   have av:=fun i=>auJ (p.x9.take k) i
   rw[<-V6 x.y5.length (p.x9.take k) r]at E;generalize p.x9.take k=PR at *;simp only[go_sem,J,F,aC hr,b1];refine aH fun i8 ac=>?_
   simp only[go_sem,];refine bW ac (by simp[nD]) fun ap (R8:ap i8=some (⟨101,4,[bJ r]⟩)) N=>?_
   replace E:=(N E).2;replace O:=(N O).2;clear N ac;simp only[go_sem,R8,];refine aL (O4 r (hp.y7 r (Xab hr))) ?_;have ax:=awH r.y7;have aw:∀i,CS r i=(lN r.y7).1/2^i%2:=fun i=>rfl
   generalize (lN r.y7)=OV at *;obtain⟨s,e⟩:=OV;simp only at ax aw;simp only[go_sem,T,E];have al:∀m,(xP x.y5.length PR r m).length=x.y5.length:=fun m=>by simp[xP]
   refine⟨fun ρ H=>∃m:Nat,m<=x.y5.length/\ρ 2=.rp (aD x) 0/\ρ 3=.rp (mA p) 0/\ρ 4=.os j4/\ρ 5=.os j5/\ρ 9=int s/\ρ 23=.sl (p.x9.map bJ)/\ρ 24=int p.x9.length/\ρ 25=int (k:Nat)/\ρ 35=int x.y5.length/\ρ 36=int (m:Nat)/\H j4=some (AK (xP x.y5.length PR r m))/\H j5=some (AK (kG x.y5.length [])),fun ρ _=>x.y5.length-aT (ρ 36),⟨0,Xaa _,by simp only[go_sem,X,],by simp only[go_sem,e3,],by simp only[go_sem,T,],by simp only[go_sem,U,],by rfl,by simp only[go_sem,J,],by simp only[go_sem,I],by simp only[go_sem,F],(by simp only[go_sem,al]),(by rfl),E,O⟩,?_⟩;clear X e3 T U J I F E O;rintro ρ H ⟨m,hm,X,e3,T,U,e9,J,I,F,au,af,E,O⟩;simp only[go_sem,au,af];refine jI hm (fun aa=>?_) (fun a4=>?_)
   ·have aq:=GJ (l:=PR) (r:=r) (m:=m) aa;rw[if_neg (Nat.lt_irrefl m),Int.add_zero]at aq;have b3:=inB (show m<(xP x.y5.length PR r m).length by grind);have ba:=av m;have bc:=abP r m;have ah:=aeV (l:=PR) (r:=r) aa;have ao:vY .and .i64 (shV .shr .i64 s (m:Int)) 1=CS r m:=by grind[vE,auU]
    simp only[go_sem,af];refine jK [(0,true),(1,true),(4,true),(5,true),(6,true),(7,true),(2,false),(3,false),(8,false),(9,false),(10,false)] (by kernel_rfl) ?_;simp only[go_sem,T,e9,E,aC aq,b3,Xac,al];refine⟨by omega,by omega,by omega,?_⟩;rw[ao,aW (by omega)];refine bP so3 E (by grind) ?_;simp only[go_sem,X,e3,T,U,e9,J,I,F,au,af,aQ m];refine⟨⟨m+1,aa,rfl,?_,?_⟩,msr aa⟩
    all_goals grind[aP,List.map_set,aF]
   ·subst a4;rw[Yj,<-hs]at E;simp only[go_sem,X,e3,T,U,J,I,F,aQ k];exact⟨⟨k+1,A,rfl,E,O⟩,msr A⟩
  have Y:=geB hk (by omega);subst Y;rw[Xad]at E;clear J I F;have a0:∀l:List Int,(kG x.y5.length l).length=x.y5.length:=fun l=>by simp[kG]
  simp only[go_sem,e3,];refine⟨fun ρ H=>∃(k:Nat),k<=p.y9.length/\ρ 2=.rp (aD x) 0/\ρ 52=.sl (p.y9.map aP)/\ρ 4=.os j4/\ρ 5=.os j5/\ρ 53=int (p.y9.length:Nat)/\ρ 54=int k/\H j4=some (AK (xO x.y5.length p.x9))/\H j5=some (AK (kG x.y5.length (p.y9.take k)))/\(∀u∈p.y9.take k,cH u x.y5.length=false),fun ρ _=>p.y9.length-aT (ρ 54),⟨0,Xaa _,by simp only[go_sem,X,],by rfl,by simp only[go_sem,T],by simp only[go_sem,U],by rfl,(by rfl),E,O,by simp⟩,?_⟩;rintro ρ H ⟨k,hk,X,ai,T,U,ar,ag,E,O,hz⟩;simp only[go_sem,ar,ag];refine aA (fun A=>?_) (fun Y=>?_)
  ·have A:=ltB (by omega);obtain⟨u,hu⟩:=aK A;have b1:=inB A;have hs:=aY hu;have az:∀i:Nat,(p.y9.take k).countP (fun w=>w == (i:Int))<=k:=fun i=>Xaf List.countP_le_length (by grind)
   have ah:∀i:Nat,u=(i:Int)->i<x.y5.length->(kG x.y5.length (p.y9.take k)).set i (((p.y9.take k).countP (fun w=>w == (i:Int)):Int)+1)=kG x.y5.length (p.y9.take (k+1)):=fun i h1 h2=>by grind[UN]
   have am:∀i:Nat,i<x.y5.length->(kG x.y5.length (p.y9.take k))[i]?=some ((p.y9.take k).countP (fun w=>w == (i:Int)):Int):=fun i hi=>by grind[kG,List.getElem?_range]
   have a7:=a0 (p.y9.take k);have ay:cH u x.y5.length=false->∀w∈p.y9.take (k+1),cH w x.y5.length=false:=fun h=>aS hu h hz
   generalize p.y9.take k=PU at *;simp only[go_sem,X,ai,ag,aC hu,b1,Xac];apply aA <;> intro hb
   ·have Z:(p.y9.any fun u=>cH u x.y5.length)=true:=Xaj.2 ⟨u,Xab hu,hb⟩;rw[if_pos Z,if_pos Z,Z];simp only[go_sem];exact .refl _
   ·have a5:cH u x.y5.length=false:=hb;simp only[Xam,decide_eq_false_iff_not]at hb;obtain⟨i,hi⟩:=Int.eq_ofNat_of_zero_le (show 0<=u by omega);have a6:i<x.y5.length:=by omega
    have hg:=am i a6;have bb:=az i;have b3:=inB (show i<(kG x.y5.length PU).length by omega);subst hi;simp only[go_sem,U,O,aC hg,b3,Xac];refine⟨by omega,?_⟩;rw[aW (by omega)];refine bP so3 O (by grind) ?_;simp only[go_sem,X,ai,T,U,ar,ag,aQ k];refine⟨⟨k+1,A,rfl,?_,?_,ay a5⟩,msr A⟩
    ·grind[aF]
    grind[aP,List.map_set]
  have Y:=geB hk (by omega);subst Y;rw[Xad]at O hz;have ae:(p.y9.any fun u=>cH u x.y5.length)=false:=Xba.2 fun u hu=>by grind
  rw[ae,if_neg (by simp),if_neg (by simp)];simp only[go_sem,T,U,];exact .tup _ _ (.cons _ _ _ _ (.row _ _ _ E (ConvE.refl _)) (.cons _ _ _ _ (.row _ _ _ O (ConvE.refl _)) (.cons _ _ _ _ (.refl _) .nil)))
def Dm(x:Instance)(p:Plan):Bool:=(List.range x.types.length).any fun i=>decide ((p.x9.countP (fun r=>r.type == (i:Int)):Int)>(x.types[i]?.map (·.count)).getD 0)
def adV(x:Instance)(p:Plan)(hx:x.types.length<=1000)(hp:PlanB p)(ht:∀r∈p.x9,0<=r.type/\r.type<(x.types.length:Int)):PC prog 72 [.agg (aD x),.agg (mA p)] (boo (Dm x p)):=by
 have al:=hp.x9;refine pcd func72 rfl rfl ?_;simp only[go_sem];refine⟨by omega,aH fun j hj=>?_⟩;simp only[go_sem];have E:aI bN j (some ⟨3,1,List.replicate x.types.length [int 0]⟩) j=some (AK (kG x.types.length ([].map (·.type:Route->Int)))):=by grind[aB,GZ]
 refine⟨fun ρ H=>∃(k:Nat),k<=p.x9.length/\ρ 2=.rp (aD x) 0/\ρ 15=.sl (p.x9.map bJ)/\ρ 5=.os j/\ρ 16=int (p.x9.length:Nat)/\ρ 17=int k/\H j=some (AK (kG x.types.length ((p.x9.take k).map (·.type)))),fun ρ _=>p.x9.length-aT (ρ 17),⟨0,Xaa _,by rfl,by rfl,by rfl,by rfl,(by rfl),E⟩,?_⟩;rintro ρ H ⟨k,hk,e2,ag,e5,Y,O,E⟩;simp only[go_sem,Y,O];refine aA (fun A=>?_) (fun F=>?_)
 ·have A:=ltB (by omega);obtain⟨r,hr⟩:=aK A;have b1:=inB A;have hs:(p.x9.take (k+1)).map (·.type)=(p.x9.take k).map (·.type)++[r.type]:=by simp_all[aY]
  have ah:((p.x9.take k).map (·.type)).length<=k:=by grind
  obtain⟨h0,h1⟩:=ht r (Xab hr);obtain⟨i,X⟩:=Int.eq_ofNat_of_zero_le h0;have ai:i<x.types.length:=by omega
  generalize an:(p.x9.take k).map (·.type)=PU at *;have J:(kG x.types.length PU).length=x.types.length:=by simp[kG]
  have hg:(kG x.types.length PU)[i]?=some (PU.countP (fun w=>w == (i:Int)):Int):=by grind[kG]
  have am:PU.countP (fun w=>w == (i:Int))<=k:=Xaf List.countP_le_length ah;have ak:=UN (l:=PU) X ai;have b3:=inB (show i<(kG x.types.length PU).length by omega);simp only[go_sem,ag,O,aC hr,b1];refine aH fun i7 I=>?_
  simp only[go_sem,];refine bW I (by simp[nD]) fun ab (R7:ab i7=some (⟨101,4,[bJ r]⟩)) N=>?_
  replace E:=(N E).2;clear N I;simp only[go_sem,e5,R7,E];simp only[go_sem,E,X,aC hg,b3,Xac];refine⟨by omega,?_⟩;rw[aW (by omega)];refine bP so3 E (by grind) ?_;simp only[go_sem,e2,ag,e5,Y,O,aQ k];refine⟨⟨k+1,A,rfl,?_⟩,msr A⟩
  grind[aP,List.map_set]
 have F:=geB hk (by omega);subst F;rw[Xad]at E;have J:(kG x.types.length (p.x9.map (·.type))).length=x.types.length:=by simp[kG]
 have ac:∀i c,(kG x.types.length (p.x9.map (·.type)))[i]?=some c->i<x.types.length/\c=(p.x9.countP (fun r=>r.type == (i:Int)):Int):=fun i c h=>by
  have X:i<x.types.length:=by grind
  unfold kG at h;rw[List.getElem?_map,List.getElem?_range X]at h;injection h with h;refine⟨X,h.symm.trans ?_⟩;show((List.countP _ (List.map _ p.x9):Nat):Int)=_;rw[List.countP_map];rfl
 generalize kG x.types.length (p.x9.map (·.type))=U at *;simp only[go_sem,e5,E];refine⟨fun ρ H=>∃(k:Nat),k<=x.types.length/\ρ 2=.rp (aD x) 0/\ρ 29=.os j/\ρ 30=int (x.types.length:Nat)/\ρ 31=int k/\H j=some (AK U)/\(∀i∈(List.range x.types.length).take k,decide ((p.x9.countP (fun r=>r.type == ((i:Nat):Int)):Int)>(x.types[i]?.map (·.count)).getD 0)=false),fun ρ _=>x.types.length-aT (ρ 31),⟨0,Xaa _,by simp only[go_sem,e2,J],by rfl,by simp only[go_sem,J],(by rfl),E,by simp⟩,?_⟩;rintro ρ H ⟨k,hk,e2,Z,aa,T,E,hz⟩;simp only[go_sem,aa,T];refine aA (fun A=>?_) (fun F=>?_)
 ·have A:=ltB (by omega);obtain⟨t,aj⟩:=aK A;obtain⟨c,hc⟩:=aK (show k<U.length by omega);have b1:=inB A;have b2:=inB (show k<U.length by omega);obtain⟨_,ao⟩:=ac k c hc;have ae:(List.range x.types.length)[k]?=some k:=List.getElem?_range A;simp only[go_sem,e2,Z,T,E,aC aj,aC hc,b1,b2,Xac];have af:decide ((p.x9.countP (fun r=>r.type == (k:Int)):Int)>(x.types[k]?.map (·.count)).getD 0)=decide (c>t.count):=by grind
  refine⟨by omega,aA (fun hb=>?_) (fun hb=>?_)⟩
  ·rw[show Dm x p=true from Xaj.2 ⟨k,Xab ae,af.trans hb⟩];simp only[go_sem];exact .refl _
  ·simp only[go_sem,e2,Z,aa,T,aQ k];exact⟨⟨k+1,A,rfl,E,aS ae (af.trans hb) hz⟩,msr A⟩
 have F:=geB hk (by omega);subst F;rw[Xai (by simp)]at hz;rw[show Dm x p=false from Xba.2 fun i X=>by grind];simp only[go_sem,];exact .refl _
end Sq
namespace Sq
open Go.Proofs.Tryz
open Go.Proofs.YtkfhgjihlbilpaaGreatDoor.Nu (ltB geB)
def Ss(x:Instance)(p:Nat->Order->Bool):Bool:=(List.range x.y5.length).any fun i=>(x.y5[i]?.map (p i)).getD false
def akW(x:Instance)(fn:AV)(g:Nat)(cap:List AV)(p:Nat->Order->Bool)(hl:x.y5.length<=1048576)
  (F:M3 fn=some (g,[],cap)) (hw:∀(G:Option Bool) (k:AV->Prop),cE G fn k=k fn) (I:aE prog g=true) (hg:∀i o,x.y5[i]?=some o->PC prog g (int (i:Nat)::.agg (bE o)::cap) (boo (p i o))):
  PC prog 70 [fn,.rp (aD x) 0] (boo (Ss x p)):=by
 have Z:Ss x p=(List.range x.y5.length).any fun i=>(x.y5[i]?.map (p i)).getD false:=rfl
 generalize Ss x p=R at *;subst Z;refine pcd func70 rfl rfl ?_;simp only[go_sem];refine⟨fun ρ _=>∃k:Nat,k<=x.y5.length/\ρ 0=fn/\ρ 7=.sl (x.y5.map bE)/\ρ 8=int x.y5.length/\ρ 9=int k/\∀q∈(List.range x.y5.length).take k,(x.y5[q]?.map (p q)).getD false=false,fun ρ _=>x.y5.length-aT (ρ 9),⟨0,Xaa _,by rfl,by rfl,by rfl,rfl,by simp⟩,?_⟩;rintro ρ H ⟨k,hk,h0,U,T,E,hz⟩;simp only[go_sem,T,E];apply aA <;> intro O
 ·have A:=ltB O;obtain⟨o,X⟩:=aK A;have Y:=inB A;simp only[go_sem,U,E,aC X,Y,Xac];refine aH fun i hi=>?_
  simp only[go_sem];refine aG (aB _ _ _) (by simp[nI]) ?_;simp only[go_sem,h0,hw,F,I,aB];refine aL (hg k o X) ?_;simp only[go_sem,];have J:(List.range x.y5.length)[k]?=some k:=List.getElem?_range A;apply aA <;> intro O
  ·simp only[go_sem];have:((List.range x.y5.length).any fun i=>(x.y5[i]?.map (p i)).getD false)=true:=Xaj.2 ⟨k,Xab J,by grind⟩;rw[this];exact .refl _
  ·simp only[go_sem,h0,U,T,E,aQ k]
   grind[aJ]
 ·have:=geB hk O;subst this;simp only[go_sem];have:((List.range x.y5.length).any fun i=>(x.y5[i]?.map (p i)).getD false)=false:=by grind
  rw[this];exact .refl _
def L2(o:Order)(i:Nat)(A us:List Int)(h1:i<A.length)(F:i<us.length):PC prog 71 [int i,.agg (bE o),.rp [.sl (A.map aP)] 0,.rp [.sl (us.map aP)] 0] (boo (decide (W (A.getD i 0+us.getD i 0)>1))):=by
 refine pcd func71 rfl rfl ?_;simp only[go_sem];obtain⟨r,E⟩:=aK h1;obtain⟨u,I⟩:=aK F;have O:=inB h1;have J:=inB F;refine dC ?_;simp only[go_sem,aC E,aC I,O,J,Xac];rw[List.getD_eq_getElem?_getD,List.getD_eq_getElem?_getD,E,I]
 repeat' (first|exact .refl _|(refine⟨by omega,?_⟩))
def aAK(o:Order)(i:Nat)(us:List Int)(A:i<us.length):PC prog 73 [int i,.agg (bE o),.rp [.sl (us.map aP)] 0] (boo (o.off&&decide (us.getD i 0>0))):=by
 refine pcd func73 rfl rfl ?_;simp only[go_sem];obtain⟨u,E⟩:=aK A;have F:=inB A;simp only[go_sem,aC E,F];rw[List.getD_eq_getElem?_getD,E]
 repeat' (first|exact .refl _|(refine⟨fun _=>by omega,?_⟩))
def aAt(o:Order)(i:Nat)(A us:List Int)(h1:i<A.length)(F:i<us.length):PC prog 74 [int i,.agg (bE o),.rp [.sl (A.map aP)] 0,.rp [.sl (us.map aP)] 0] (boo (!o.off&&(W (A.getD i 0+us.getD i 0) == 0||(decide (us.getD i 0>0)&&o.η == -1)))):=by refine pcd func74 rfl rfl ?_;simp only[go_sem];obtain⟨r,E⟩:=aK h1;obtain⟨u,I⟩:=aK F;have O:=inB h1;have J:=inB F;refine dC ?_;simp only[go_sem,aC E,aC I,O,J,Xac];rw[List.getD_eq_getElem?_getD,List.getD_eq_getElem?_getD,E,I];exact .refl _
def Dn:List Int->Int
 | []=>0
 | e::r=>if(e != 0)=true then e else Dn r
def TO:∀{l:List Int} {k:Nat} {e:Int},(∀d∈l.take k,d=0)->l[k]?=some e->(e != 0)=true->Dn l=e
 | [],k,e,_,h,_=>by grind
 | a::l,0,e,_,h,he=>by simp_all[Dn]
 | a::l,k+1,e,h0,h,he=>by have E:a=0:=h0 a (by simp);rw[Dn,if_neg (by grind)];exact TO (k:=k) (fun d A=>h0 d (by simp[A])) (by simpa using h) he
def O2:∀{l:List Int},(∀d∈l,d=0)->Dn l=0
 | [],_=>rfl
 | a::l,h=>by rw[Dn,if_neg (by rw[h a (by simp)];simp)];exact O2 fun d A=>h d (by simp[A])
def awG(r u:List Int)(i:Nat)(_:Order):Bool:=decide (W (r.getD i 0+u.getD i 0)>1)
def acX(u:List Int)(i:Nat)(o:Order):Bool:=o.off&&decide (u.getD i 0>0)
def Zc(r u:List Int)(i:Nat)(o:Order):Bool:= !o.off&&(W (r.getD i 0+u.getD i 0) == 0||(decide (u.getD i 0>0)&&o.η == -1))
def rN(x:Instance)(p:Plan):Int:=
 if(Dn (p.x9.map fun r=>(fK x r).2.2) != 0)=true then Dn (p.x9.map fun r=>(fK x r).2.2)
 else if(p.y9.any fun u=>cH u x.y5.length)=true then 2
 else if Ss x (awG (xO x.y5.length p.x9) (kG x.y5.length p.y9))=true then 6
 else if Dm x p=true then 22
 else if Ss x (acX (kG x.y5.length p.y9))=true then 9
 else if Ss x (Zc (xO x.y5.length p.x9) (kG x.y5.length p.y9))=true then 23
 else 0
def Zk(x:Instance)(p:Plan)(hx:EvalB x)(hn:x.y5.length<=62)(ab:x.types.length<=1000)(hp:PlanB p)(hv:∀r∈p.x9,r.y7.length<=1048575)(ht:Dn (p.x9.map fun r=>(fK x r).2.2)=0->∀r∈p.x9,0<=r.type/\r.type<(x.types.length:Int)):
  PC prog 31 [.agg (aD x),.agg (mA p)] (int (rN x p)):=by
 obtain⟨R,hC⟩:∃R,R=rN x p:=⟨_,rfl⟩;rw[<-hC];unfold rN at hC;refine pcd func31 rfl rfl ?_;simp only[go_sem];refine⟨fun ρ _=>∃k:Nat,k<=p.x9.length/\ρ 2=.rp (aD x) 0/\ρ 3=.rp (mA p) 0/\ρ 13=.sl (p.x9.map bJ)/\ρ 14=int p.x9.length/\ρ 15=int k/\∀d∈(p.x9.map fun r=>(fK x r).2.2).take k,d=0,fun ρ _=>p.x9.length-aT (ρ 15),⟨0,Xaa _,by rfl,by rfl,by rfl,by rfl,rfl,by simp⟩,?_⟩;rintro ρ H ⟨k,hk,Y,h3,X,U,F,hz⟩;simp only[go_sem,U,F];apply aA <;> intro A
 ·have J:=ltB A;obtain⟨r,hr⟩:=aK J;have b1:=inB J;have Z:(p.x9.map fun r=>(fK x r).2.2)[k]?=some (fK x r).2.2:=by grind
  simp only[go_sem,X,F,aC hr,b1,Xac];refine aH fun i hi=>?_
  simp only[go_sem];refine aG (aB _ _ _) (by simp[nD]) ?_;simp only[go_sem,Y,aB];refine aL (axT x r hx (hv r (Xab hr))) ?_;simp only[go_sem];apply aA <;> intro A
  ·simp only[go_sem];have e:=TO hz Z A;rw[hC,e,if_pos A];exact .refl _
  ·simp only[go_sem,Y,h3,X,U,F,mT (show k<=4611686018427387904 by have:=hp.x9;omega)];refine⟨⟨k+1,J,rfl,?_⟩,by grind[aJ]⟩;rw[aY Z]
   grind
 have ac:=geB hk A;subst ac;have he:Dn (p.x9.map fun r=>(fK x r).2.2)=0:=O2 (by grind[Xai]);rw[he,if_neg (by simp)]at hC;simp only[go_sem,Y,h3];refine aL (amI x p hn hp) ?_;simp only[go_sem,];by_cases E:(p.y9.any fun u=>cH u x.y5.length)=true
 ·rw[if_pos E]at hC;rw[E];simp only[if_true,Xbn];refine aH fun i8 h8=>?_
  simp only[go_sem];refine aH fun i9 O=>?_
  simp only[go_sem];refine bP ⟨_,rfl,rfl⟩ (r:=⟨48,1,[[.sl []]]⟩) (by rw[aF _ _ _ _ (aV (aB _ _ _) O)];grind[aB]) (by simp) ?_;simp only[go_sem];refine bP ⟨_,rfl,rfl⟩ (r:=⟨48,1,[[.sl []]]⟩) (by rw[aF _ _ _ _ (Ne.symm (aV (aB _ _ _) O))];grind[aB]) (by simp) ?_;simp only[go_sem];refine aA (fun A=>?_) (fun A=>by cases A);simp only[go_sem];rw[hC];exact .refl _
 rw[if_neg E]at hC;have I:(p.y9.any fun u=>cH u x.y5.length)=false:=by grind
 rw[I];simp only[Xbe,if_false];refine aH fun i8 h8=>?_
 simp only[go_sem];refine aH fun i9 O=>?_
 simp only[go_sem];refine bP ⟨_,rfl,rfl⟩ (r:=⟨48,1,[[.sl []]]⟩) (by rw[aF _ _ _ _ (aV (aB _ _ _) O)];grind[aB]) (by simp) ?_;simp only[go_sem];refine bP ⟨_,rfl,rfl⟩ (r:=⟨48,1,[[.sl []]]⟩) (by rw[aF _ _ _ _ (Ne.symm (aV (aB _ _ _) O))];grind[aB]) (by simp) ?_;simp only[go_sem];refine aA (fun A=>by cases A) (fun A=>?_);have aa:=aV (show aI H i8 (some ⟨48,1,[[.sl []]]⟩) i8=_ from aB _ _ _) O;generalize hP:aI (aI _ i8 _) i9 _=G;have R9:G i9=some ⟨48,1,[[.sl ((kG x.y5.length p.y9).map aP)]]⟩:=by rw[<-hP,aB]
 have R8:G i8=some ⟨48,1,[[.sl ((xO x.y5.length p.x9).map aP)]]⟩:=by rw[<-hP,aF _ _ _ _ aa,aB]
 clear hP h8 O;simp only[go_sem,Y];have lr:(xO x.y5.length p.x9).length=x.y5.length:=by simp[xO]
 have lu:(kG x.y5.length p.y9).length=x.y5.length:=by simp[kG]
 have T:x.y5.length<=1048576:=by omega
 have A2:=akW x (.fn 71 [.rp [.sl ((xO x.y5.length p.x9).map aP)] 0,.rp [.sl ((kG x.y5.length p.y9).map aP)] 0]) 71 _ (awG (xO x.y5.length p.x9) (kG x.y5.length p.y9)) T rfl (fun _ _=>rfl) (by rfl) (fun i o ho=>L2 o i _ _ (by grind) (by grind));have A3:=akW x (.fn 73 [.rp [.sl ((kG x.y5.length p.y9).map aP)] 0]) 73 _ (acX (kG x.y5.length p.y9)) T rfl (fun _ _=>rfl) (by rfl) (fun i o ho=>aAK o i _ (by grind));have A4:=akW x (.fn 74 [.rp [.sl ((xO x.y5.length p.x9).map aP)] 0,.rp [.sl ((kG x.y5.length p.y9).map aP)] 0]) 74 _ (Zc (xO x.y5.length p.x9) (kG x.y5.length p.y9)) T rfl (fun _ _=>rfl) (by rfl) (fun i o ho=>aAt o i _ _ (by grind) (by grind));have C8:Conv G (.op i8 0 0) (.rp [.sl ((xO x.y5.length p.x9).map aP)] 0):=.ptr _ _ _ _ _ R8 (Nat.zero_lt_succ 0) (ConvL.refl _);have C9:Conv G (.op i9 0 0) (.rp [.sl ((kG x.y5.length p.y9).map aP)] 0):=.ptr _ _ _ _ _ R9 (Nat.zero_lt_succ 0) (ConvL.refl _);refine BX.use ⟨_,.cons _ _ _ _ (.fn _ _ _ (.cons _ _ _ _ C8 (.cons _ _ _ _ C9 .nil))) (ConvL.refl _),A2,rfl⟩ ?_;simp only[go_sem,];apply aA <;> intro A
 ·rw[if_pos A]at hC;simp only[go_sem];rw[hC];exact .refl _
 rw[if_neg (by grind)]at hC;simp only[go_sem,Y,h3];refine aL (adV x p ab hp (ht he)) ?_;simp only[go_sem,];apply aA <;> intro A
 ·rw[if_pos A]at hC;simp only[go_sem];rw[hC];exact .refl _
 rw[if_neg (by grind)]at hC;simp only[go_sem,];refine BX.use ⟨_,.cons _ _ _ _ (.fn _ _ _ (.cons _ _ _ _ C9 .nil)) (ConvL.refl _),A3,rfl⟩ ?_;simp only[go_sem,];apply aA <;> intro A
 ·rw[if_pos A]at hC;simp only[go_sem];rw[hC];exact .refl _
 rw[if_neg (by grind)]at hC;simp only[go_sem,];refine BX.use ⟨_,.cons _ _ _ _ (.fn _ _ _ (.cons _ _ _ _ C8 (.cons _ _ _ _ C9 .nil))) (ConvL.refl _),A4,rfl⟩ ?_;simp only[go_sem,];apply aA <;> intro A
 ·rw[if_pos A]at hC;simp only[go_sem];rw[hC];exact .refl _
 rw[if_neg (by grind)]at hC;simp only[go_sem];rw[hC];exact .refl _
end Sq
namespace Sq
open Go.Proofs.Tryz
def avP(s:Score):PC prog 196 [.agg (bD s)] (.agg (bD s)):=by
 refine pcd func196 rfl rfl ?_;simp only[go_sem];refine aH fun j A=>?_
 simp only[go_sem]
 repeat' (first|(refine⟨by decide,?_⟩)|(simp only[go_sem]))
 refine aG (aB _ _ _) (by simp) ?_;simp only[go_sem];exact .refl _
def asV(a b:Score)(k:Nat):List AV:=[int (if 0<k then W (a.cost+b.cost)else a.cost),int (if 1<k then W (a.moved+b.moved)else a.moved),int (if 2<k then W (a.other+b.other)else a.other),int (if 3<k then W (a.work+b.work)else a.work)]
abbrev Gx(l:List AV):Row:=⟨203,4,[l]⟩
def asP(a b:Score):PC prog 136 [.agg (bD a),.agg (bD b)] (.agg (bD (AE a b))):=by
 refine pcd func136 rfl rfl ?_;simp only[go_sem];refine aH fun J h4=>?_
 generalize hP:aI bN J _=G;have F:G J=some ⟨125,4,[[int 0,int 0,int 0,int 0]]⟩:=by rw[<-hP];grind[aB]
 clear hP h4;simp only[go_sem];refine oU [] (.q 0 (.q 1 (.q 2 (.q 3 (.a2 4 (.a1 5 (.a1 6 (.a1 7 .nil))) 5 (.a1 4 (.a1 6 (.a1 7 .nil)))))))) (fun T H'=>∃I X:Nat,I≠X/\J≠I/\T 4=.op J 0 0/\T 5=.op I 0 0/\T 6=.op X 0 0/\H' J=some ⟨125,4,[[int 0,int 0,int 0,int 0]]⟩/\H' I=some (Gx (bD a))/\H' X=some (Gx (bD b))) (by simp) (by kernel_rfl) (fun K' aa Hp Hr _ hr _ _=>?_) ?_
 ·obtain rfl:Hr=G:=funext fun k=>hr k (by simp)
  simp only[go_sem];refine⟨_,(CX a).q rfl,?_⟩;simp only[go_sem];refine⟨_,(CX b).q rfl,?_⟩;simp only[go_sem];refine jG ?_ ?_
  all_goals
   simp only[go_sem];refine aH fun x hx=>?_
   have n1:=aV F hx;simp only[go_sem];refine aH fun y hy=>?_
   have n2:=aV (fA F hx) hy;have n3:x≠y:=fun e=>by subst e;rw[aB]at hy;cases hy
   simp only[go_sem]
  ·refine aG (r:=⟨203,4,[[int 0,int 0,int 0,int 0]]⟩) (by grind[aF,aB]) (by simp[cP]) ?_;simp only[go_sem];refine aG (r:=⟨203,4,[[int 0,int 0,int 0,int 0]]⟩) (by simp_all[aF,Ne.symm,aB]) (by simp[cP]) ?_;simp only[go_sem];refine dO fun _ Hm _ hm=>?_
   obtain rfl:Hm=_:=funext fun k=>hm k (by simp)
   refine aa _ _ ⟨x,y,n3,n1,by rfl,by rfl,by rfl,?_,?_,aB _ _ _⟩
   all_goals grind[aF,aB]
  ·refine aG (r:=⟨203,4,[[int 0,int 0,int 0,int 0]]⟩) (aB _ _ _) (by simp[cP]) ?_;simp only[go_sem];refine aG (r:=⟨203,4,[[int 0,int 0,int 0,int 0]]⟩) (by grind[aF,aB]) (by simp[cP]) ?_;simp only[go_sem];refine dO fun _ Hm _ hm=>?_
   obtain rfl:Hm=_:=funext fun k=>hm k (by simp)
   refine aa _ _ ⟨y,x,Ne.symm n3,n2,by rfl,by rfl,by rfl,?_,?_,aB _ _ _⟩
   ·grind[aF]
   simp_all[aF,Ne.symm,aB]
 ·rintro ρ H ⟨I,X,n1,n2,U,E,Z,F,O,Y⟩;simp only[go_sem,];refine⟨fun ρ H=>∃k:Nat,k<=4/\ρ 4=.op J 0 0/\ρ 5=.op I 0 0/\ρ 6=.op X 0 0/\ρ 12=int k/\H J=some ⟨125,4,[[int 0,int 0,int 0,int 0]]⟩/\H I=some (Gx (asV a b k))/\H X=some (Gx (bD b)),fun ρ _=>4-aT (ρ 12),⟨0,by omega,U,E,Z,rfl,F,O,Y⟩,?_⟩;clear U E Z F O Y;rintro ρ H ⟨k,hk,U,E,Z,A,F,O,Y⟩;simp only[go_sem,A];apply aA <;> intro hb
  ·have ab:k<4:=by grind
   obtain rfl|rfl|rfl|rfl:k=0\/k=1\/k=2\/k=3:=by omega
   all_goals
    simp only[go_sem,A];refine uB [] (.q 0 (.q 1 (.q 3 (.q 4 (.a2 2 (.a1 5 (.q 6 (.q 7 (.a1 8 .nil)))) 5 (.a1 2 (.q 6 (.q 7 (.a1 8 .nil))))))))) (by simp) (by kernel_rfl) fun Hp Hr _ hr _ _=>?_
    obtain rfl:Hr=H:=funext fun k=>hr k (by simp)
    simp only[go_sem,E,Z,asV,bD];refine⟨by decide,by decide,?_⟩;refine jG ?_ ?_
    all_goals
     simp only[go_sem,E,O,Y,asV,bD]
     repeat' (first|(refine⟨by decide,?_⟩)|(simp only[go_sem,U,E,Z,A,O,Y,asV,bD]))
     refine bP so3 O (by simp[asV]) ?_;simp only[go_sem];refine dO fun _ Hm _ hm=>?_
     obtain rfl:Hm=_:=funext fun k=>hm k (by simp)
     simp only[go_sem,U,E,Z,A];refine⟨⟨_,ab,rfl,?_,?_,?_⟩,by decide⟩
     ·rw[aF _ _ _ _ n2];exact F
     ·rfl
     ·rw[aF _ _ _ _ (Ne.symm n1)];exact Y
  ·have h4:k=4:=by grind
   subst h4;simp only[go_sem,E,O];refine aL (avP (AE a b)) ?_;simp only[go_sem,U];refine aG F (by simp[cP]) ?_;simp only[go_sem,U,aB];exact .refl _
end Sq
namespace Sq
open Go.Proofs.Tryz
open Go.Proofs.YtkfhgjihlbilpaaGreatDoor.Nu (ltB geB)
abbrev mE(s:Score):Row:=⟨125,4,[bD s]⟩
def rM(x:Instance)(l:List Route):Score:=(l.map fun r=>(fK x r).2.1).foldl AE bK
def L6(x:Instance)(s:Score)(l:List Int):Score:=(l.map fun u=>(cJ x u).1).foldl AE s
def WS(x:Instance)(u:Int):PC prog 91 [.agg (aD x),int u] (.tup [.agg (bD (cJ x u).1),int (cJ x u).2]):=by
 have h:=Nu.Iq x u;have I:Go.Aw.D.bD (Nu.cJ x u).1=bD (cJ x u).1/\(Nu.cJ x u).2=(cJ x u).2:=by
  unfold Nu.cJ cJ;by_cases F:cH u x.y5.length=true
  ·have A:Nu.cH u x.y5.length=true:=F;rw[if_pos F,if_pos A];exact⟨rfl,rfl⟩
  ·have A:¬Nu.cH u x.y5.length=true:=F;rw[if_neg F,if_neg A];cases x.y5[u.toNat]? with
   | none=>exact⟨rfl,rfl⟩
   | some o=>
    show Go.Aw.D.bD (Nu.fR o).1=bD (fR o).1/\(Nu.fR o).2=(fR o).2;unfold Nu.fR fR;by_cases h1:o.off=true
    ·rw[if_pos h1,if_pos h1];exact⟨rfl,rfl⟩
    ·rw[if_neg h1,if_neg h1];by_cases E:(o.η == -1)=true
     ·rw[if_pos E,if_pos E];exact⟨rfl,rfl⟩
     ·rw[if_neg E,if_neg E];exact⟨rfl,rfl⟩
 rw[I.1,I.2]at h;exact h
def axN(x:Instance)(p:Plan)(hx:EvalB x)(hn:x.y5.length<=62)(ay:x.types.length<=1000)(hp:PlanB p)(hv:∀r∈p.x9,r.y7.length<=1048575)(ht:Dn (p.x9.map fun r=>(fK x r).2.2)=0->∀r∈p.x9,0<=r.type/\r.type<(x.types.length:Int))
  (h0:rN x p=0) (a4:∀r∈p.x9,(fK x r).2.2=0) (ax:∀u∈p.y9,(cJ x u).2=0):PC prog 75 [.agg (aD x),.agg (mA p)] (.tup [.agg (bD (L6 x (rM x p.x9) p.y9)),int 0]):=by
 have a6:=hp.x9;have a5:=hp.y9;refine pcd func75 rfl rfl ?_;simp only[go_sem];refine eJ fun J am an (A:am J=some (mE bK)) N=>?_
 clear N an;simp only[go_sem];refine aL (Zk x p hx hn ay hp hv ht) ?_;rw[h0];simp only[go_sem];refine aA (fun X=>by cases X) (fun X=>?_);simp only[go_sem];refine eJ fun I ar au (E:ar I=some (mE bK)) N=>?_
 replace A:=N A;obtain⟨ah,A⟩:=A;clear N au;simp only[go_sem,];refine⟨fun ρ H=>∃(k:Nat),k<=p.x9.length/\ρ 2=.rp (aD x) 0/\ρ 3=.rp (mA p) 0/\ρ 4=.op J 0 0/\ρ 7=.op I 0 0/\ρ 25=.sl (p.x9.map bJ)/\ρ 26=int (p.x9.length:Nat)/\ρ 27=int k/\H J=some (mE bK)/\H I=some (mE (rM x (p.x9.take k))),fun ρ _=>p.x9.length-aT (ρ 27),⟨0,Xaa _,by rfl,by rfl,by rfl,by rfl,by rfl,by rfl,(by rfl),A,E⟩,?_⟩;rintro ρ H ⟨k,hk,e2,e3,e4,U,av,ap,aa,A,E⟩;simp only[go_sem,ap,aa];refine aA (fun F=>?_) (fun O=>?_)
 ·have F:=ltB (by omega);obtain⟨r,hr⟩:=aK F;have b1:=inB F;have he:=a4 r (Xab hr);simp only[go_sem,av,aa,aC hr,b1,Xac];refine aH fun i9 Y=>?_
  simp only[go_sem,];refine bW Y (by simp[nD]) fun al (R9:al i9=some (⟨101,4,[bJ r]⟩)) N=>?_
  replace A:=N A;obtain⟨aj,A⟩:=A;replace E:=N E;obtain⟨ai,E⟩:=E;clear N Y;simp only[go_sem,e2,R9,];refine aL (EF x r hx (hv r (Xab hr))) ?_;rw[he];simp only[go_sem,];refine aH fun ae af=>?_
  have n4:=aV A af;have n7:=aV E af;simp only[go_sem,];refine aH fun i11 aw=>?_
  have m4:J≠i11:=fun e=>by grind[aF]
  have m7:I≠i11:=fun e=>by grind[aF]
  have ao:ae≠i11:=fun e=>by grind[aB]
  simp only[go_sem,];refine aG (by rw[aF _ _ _ _ ao];exact aB _ _ _) (by simp[gR]) ?_;simp only[go_sem,];refine aG (by rw[aF _ _ _ _ (Ne.symm ao)];exact aB _ _ _) (by simp[cP]) ?_;generalize T:aI (aI (aI (aI _ ae _) i11 _) ae _) i11 _=HP;replace A:HP J=some (mE bK):=by rw[<-T,aF _ _ _ _ m4,aF _ _ _ _ n4,aF _ _ _ _ m4,aF _ _ _ _ n4];exact A
  replace E:HP I=some (mE (rM x (p.x9.take k))):=by rw[<-T,aF _ _ _ _ m7,aF _ _ _ _ n7,aF _ _ _ _ m7,aF _ _ _ _ n7];exact E
  have a0:HP i11=some (mE (fK x r).2.1):=by rw[<-T];exact aB _ _ _
  clear T af aw;simp only[go_sem,];refine aA (fun X=>by cases X) (fun X=>?_);simp only[go_sem,U,E,a0];refine aL (asP _ _) ?_;simp only[go_sem,U,];refine aG E (by simp[cP]) ?_;generalize hQ:aI HP I _=HQ;have ac:J≠I:=by omega
  replace A:HQ J=some (mE bK):=by rw[<-hQ,aF _ _ _ _ ac];exact A
  replace E:HQ I=some (mE (AE (rM x (p.x9.take k)) (fK x r).2.1)):=by rw[<-hQ,aB];rfl
  clear hQ;simp only[go_sem,e2,e3,e4,U,av,ap,aa,aQ k];refine⟨⟨k+1,F,rfl,A,?_⟩,by grind[aJ]⟩;simp_all[aY,rM]
 have O:=geB hk (by omega);subst O;rw[Xad]at E;simp only[go_sem,e3,];generalize rM x p.x9=S0 at *;refine⟨fun ρ H=>∃(k:Nat),k<=p.y9.length/\ρ 2=.rp (aD x) 0/\ρ 4=.op J 0 0/\ρ 7=.op I 0 0/\ρ 47=.sl (p.y9.map aP)/\ρ 48=int (p.y9.length:Nat)/\ρ 49=int k/\H J=some (mE bK)/\H I=some (mE (L6 x S0 (p.y9.take k))),fun ρ _=>p.y9.length-aT (ρ 49),⟨0,Xaa _,by simp only[go_sem,e2,],by simp only[go_sem,e4,],by simp only[go_sem,U,],by rfl,by rfl,(by rfl),A,E⟩,?_⟩;rintro ρ H ⟨k,hk,e2,e4,U,ak,aq,Z,A,E⟩;simp only[go_sem,aq,Z];refine aA (fun F=>?_) (fun O=>?_)
 ·have F:=ltB (by omega);obtain⟨u,hu⟩:=aK F;have b1:=inB F;have he:=ax u (Xab hu);simp only[go_sem,e2,ak,Z,aC hu,b1,Xac];have hU:=WS x u;rw[he]at hU;refine aL hU ?_;simp only[go_sem,];refine aH fun ag ab=>?_
  have m4:=aV A ab;have m7:=aV E ab;simp only[go_sem,];refine aG (aB _ _ _) (by simp[cP]) ?_;generalize T:aI (aI _ ag _) ag _=HP;replace A:HP J=some (mE bK):=by rw[<-T,aF _ _ _ _ m4,aF _ _ _ _ m4];exact A
  replace E:HP I=some (mE (L6 x S0 (p.y9.take k))):=by rw[<-T,aF _ _ _ _ m7,aF _ _ _ _ m7];exact E
  have az:HP ag=some (mE (cJ x u).1):=by rw[<-T];exact aB _ _ _
  clear T ab;simp only[go_sem,];refine aA (fun X=>by cases X) (fun X=>?_);simp only[go_sem,U,E,az];refine aL (asP _ _) ?_;simp only[go_sem,U,];refine aG E (by simp[cP]) ?_;generalize hQ:aI HP I _=HQ;have ac:J≠I:=by omega
  replace A:HQ J=some (mE bK):=by rw[<-hQ,aF _ _ _ _ ac];exact A
  replace E:HQ I=some (mE (AE (L6 x S0 (p.y9.take k)) (cJ x u).1)):=by rw[<-hQ,aB];rfl
  clear hQ;simp only[go_sem,e2,e4,U,ak,aq,Z,aQ k];refine⟨⟨k+1,F,rfl,A,?_⟩,by grind[aJ]⟩;simp_all[aY,L6]
 have O:=geB hk (by omega);subst O;rw[Xad]at E;simp only[go_sem,e4,U,E];refine aG A (by simp[cP]) ?_;simp only[go_sem,e4,aB];exact .refl _
end Sq
namespace Sq
open Go.Proofs.Tryz
def avB(x:Instance)(p:Plan)(T:EvalB x)(U:x.y5.length<=62)(A:x.types.length<=1000)(O:PlanB p)(J:∀r∈p.x9,r.y7.length<=1048575)(X:Dn (p.x9.map fun r=>(fK x r).2.2)=0->∀r∈p.x9,0<=r.type/\r.type<(x.types.length:Int))
  (h0:rN x p=0) (E:∀r∈p.x9,(fK x r).2.2=0) (F:∀u∈p.y9,(cJ x u).2=0):PC prog 32 [.agg (aD x),.agg (mA p)] (.tup [int (gT (L6 x (rM x p.x9) p.y9)).1,int (gT (L6 x (rM x p.x9) p.y9)).2]):=by
 have Y:=axN x p T U A O J X h0 E F;generalize L6 x (rM x p.x9) p.y9=S at *;refine pcd func32 rfl rfl ?_;simp only[go_sem];refine aL Y ?_;simp only[go_sem];refine aH fun i Z=>?_
 simp only[go_sem];refine aG (aB _ _ _) (by simp[cP]) ?_;simp only[go_sem];refine aA (fun I=>by cases I) (fun I=>?_);simp only[go_sem,aB];refine aL (D2 S) ?_;simp only[go_sem];exact .refl _
end Sq
namespace Nu
open Go.Proofs.Tryz
open Go.Nu
open Dec (kE fB dJ cX pJ mS Cm)
open Sq (EvalB oJ rN fK L6 rM cJ Dn PlanB)
open Ps (PrOk)
open Go.Proofs.YtkfhgjihlbilpaaGreatDoor.Ve (Dq PathsOf Hd)
def lvW(x:Instance)(d:Nat)(no:Bool)(o8:Int):List TNode->List (List Decision)->Int
 | n::l,ds::D=>if n.leaf=false then lvW x d no o8 l D else if(no&&n.kind == 1)=true then 28 else if(CW x d ds n o8 != 0)=true then CW x d ds n o8 else lvW x d no o8 l D
 | _,_=>0
def JF(x:Instance)(n:TNode):Bool:= !n.leaf&&kE x [n.π,Cm n.π] != 0
def CZ(x:Instance)(p:Plan):Int×Int:=Sq.gT (L6 x (rM x p.x9) p.y9)
def AZ(x:Instance)(d:Nat)(p:Proof)(b:Bool)(D:List (List Decision)):Int:=
 if b=false then 29
 else if(p.nodes.any (JF x))=true then 29
 else if(!p.noPlan&&rN x p.plan != 0)=true then rN x p.plan
 else if(!p.noPlan&&(CZ x p.plan).2 != 0)=true then(CZ x p.plan).2
 else lvW x d p.noPlan (if p.noPlan=true then 0 else(CZ x p.plan).1) p.nodes D
structure PlanW(x:Instance)(p:Plan):Prop where
 b:PlanB p
 y7:∀r∈p.x9,r.y7.length<=1048575
 type:Dn (p.x9.map fun r=>(fK x r).2.2)=0->∀r∈p.x9,0<=r.type/\r.type<(x.types.length:Int)
 ev:rN x p=0->∀r∈p.x9,(fK x r).2.2=0
 un:rN x p=0->∀u∈p.y9,(Sq.cJ x u).2=0
def Uq(x:Instance)(d:Nat)(p:Proof)(h:PrOk x d)(b:Bool)(am:b=true↔Dq p.nodes)(D:List (List Decision))(hD:b=true->PathsOf p.nodes D)(hl:p.nodes.length<=1048576)(hp:p.noPlan=false->PlanW x p.plan)
  (hL:∀n ds,n∈p.nodes->ds∈D->LeafB x n ds (if p.noPlan=true then 0 else(CZ x p.plan).1)):PC prog 11 [.agg (aD x),.agg (iC p)] (int (AZ x d p b D)):=by
 obtain⟨R,A⟩:∃R,R=AZ x d p b D:=⟨_,rfl⟩;rw[<-A];unfold AZ at A;refine pcb (fun t=>t == 65) func11 rfl rfl ?_;simp only[go_sem];refine aL (Ve.asQ p.nodes b am hl) ?_;simp only[go_sem];apply aA <;> intro J
 ·rw[if_pos (by grind)]at A;subst A;simp only[go_sem];exact .refl _
 have av:b=true:=by grind
 subst av;rw[if_neg (by decide)]at A;have ht:=am.1 rfl;have hP:=hD rfl;simp only[go_sem,Xac];refine⟨fun ρ H=>∃(k:Nat),k<=p.nodes.length/\ρ 2=.rp (aD x) 0/\ρ 3=.rp (iC p) 0/\ρ 21=.sl (p.nodes.map bY)/\ρ 22=int (p.nodes.length:Nat)/\ρ 23=int k/\(∀n∈p.nodes.take k,JF x n=false),fun ρ _=>p.nodes.length-aT (ρ 23),⟨0,Xaa _,by rfl,by rfl,by rfl,by rfl,(by rfl),by simp⟩,?_⟩;rintro ρ H ⟨k,hk,X,I,al,ae,Y,F⟩;simp only[go_sem,ae,Y];refine aA (fun E=>?_) (fun O=>?_)
 ·have E:=ltB (by omega);obtain⟨n,hn⟩:=aK E;have b1:=inB E;simp only[go_sem,al,Y,aC hn,b1,Xac];refine aH fun i6 ab=>?_
  simp only[go_sem,];refine bW ab (by simp[lO]) fun ao (R6:ao i6=some (⟨37,10,[bY n]⟩)) N=>?_
  clear N ab;simp only[go_sem,];refine gS [i6] [(0,true),(1,true),(2,true),(3,true),(4,true),(5,true),(6,true),(7,true),(8,true),(9,true),(10,false),(11,true),(12,true),(13,true)] (by grind) (by kernel_rfl) fun Hp Hr hp hr _ aw=>?_
  have ar:=(hp i6 (by simp)).trans R6;simp only[go_sem,X,ar];refine⟨_,fun _=>(Dec.apV n.π).q rfl,?_⟩;simp only[go_sem];refine⟨_,fun _=>(Dec.alW x [n.π,Cm n.π] (by simp)).q rfl,?_⟩;simp only[go_sem];refine qY hr ?_;simp only[go_sem];apply aA <;> intro an
  ·rw[if_pos (Xaj.2 ⟨n,Xab hn,an⟩)]at A;subst A;simp only[go_sem];exact .refl _
  simp only[go_sem,X,I,al,ae,Y,aQ k];exact⟨⟨k+1,E,rfl,dW (p:=fun n=>JF x n=false) hn an F⟩,by grind[aJ]⟩
 have O:=geB hk (by omega);subst O;rw[Xad]at F;rw[if_neg (by grind)]at A;simp only[go_sem,I,];generalize U:(if p.noPlan=true then(0:Int)else(CZ x p.plan).1)=pr at *;refine bO (fun ac H'=>ac 2=.rp (aD x) 0/\ac 3=.rp (iC p) 0/\ac 7=int pr/\R=lvW x d p.noPlan pr p.nodes D) ?_ fun K hK=>aA (fun J=>?_) (fun J=>?_)
 rotate_left
 ·have aa:p.noPlan=false:=by grind
  have hW:=hp aa;rw[aa]at A U;simp only[Xbx,Xay]at A;rw[if_neg (by decide)]at U;simp only[go_sem,X,I,];refine aL (Sq.Zk x p.plan h.ev (Xaf h.n8 (by decide)) h.ty hW.b hW.y7 hW.type) ?_;simp only[go_sem,];apply aA <;> intro J
  ·rw[if_pos J]at A;subst A;simp only[go_sem];exact .refl _
  rw[if_neg (by grind)]at A;have h0:rN x p.plan=0:=by grind
  simp only[go_sem,X,I,];refine aL (Sq.avB x p.plan h.ev (Xaf h.n8 (by decide)) h.ty hW.b hW.y7 hW.type h0 (hW.ev h0) (hW.un h0)) ?_;simp only[go_sem,];apply aA <;> intro J
  ·rw[if_pos (show((CZ x p.plan).2 != 0)=true from J)]at A;subst A;simp only[go_sem];exact .refl _
  rw[if_neg (show ¬((CZ x p.plan).2 != 0)=true from fun h=>Bool.noConfusion (J.symm.trans h))]at A;simp only[go_sem,];refine hK _ _ ⟨by simp only[go_sem,X,],by simp only[go_sem,I,],?_,by grind⟩;simp only[go_sem,];exact congrArg int U
 ·have aa:p.noPlan=true:=by grind
  rw[aa]at A U;rw[if_pos rfl]at U;rw[if_neg (by simp),if_neg (by simp)]at A;simp only[go_sem,];exact hK _ _ ⟨by simp only[go_sem,X,],by simp only[go_sem,I,],by simp only[go_sem,];grind,by grind⟩
 clear X I al ae Y A;rintro ρ H ⟨X,I,e7,A⟩;simp only[go_sem,X];refine⟨by simp,aH fun j hj=>?_⟩;have R0:=aB H j (some (oA x false));generalize hG:aI H j _=G;replace R0:G j=some (oA x false):=hG▸R0;clear hG hj;simp only[go_sem,I];refine aL (Go.Proofs.YtkfhgjihlbilpaaGreatDoor.Ve.Za p.nodes D ht hP) ?_;simp only[go_sem,Xac];refine⟨fun ρ H=>∃(k:Nat),k<=D.length/\ρ 3=.rp (iC p) 0/\ρ 7=int pr/\ρ 11=.op j 0 0/\ρ 68=.sl (D.map Hd)/\ρ 69=int (D.length:Nat)/\ρ 70=int k/\(∃b,H j=some (oA x b))/\R=lvW x d p.noPlan pr (p.nodes.drop k) (D.drop k),fun ρ _=>D.length-aT (ρ 70),⟨0,Xaa _,by simp only[go_sem,I],by simp only[go_sem,e7],by rfl,by rfl,by rfl,(by rfl),⟨false,R0⟩,A⟩,?_⟩;rintro ρ H ⟨k,hk,I,e7,ah,af,ak,Z,Rj,F⟩;simp only[go_sem,ak,Z];refine aA (fun E=>?_) (fun O=>?_)
 ·have E:=ltB (by omega);obtain⟨b,Rj⟩:=Rj;obtain⟨ds,ai⟩:=aK E;have ap:k<p.nodes.length:=by rw[<-hP.len];omega
  obtain⟨n,hn⟩:=aK ap;have b1:=inB E;have b2:=inB ap;rw[Sq.FC hn,Sq.FC ai,lvW]at F;simp only[go_sem,I,af,Z,aC hn,aC ai,b1,b2,Xac,Hd];refine aH fun au T=>?_
  simp only[go_sem,];refine bW T (by simp[lO]) fun ag (aj:ag au=some (⟨37,10,[bY n]⟩)) N=>?_
  replace Rj:=(N Rj).2;clear N T;simp only[go_sem,aj];have aq:k<=4611686018427387904:=by omega
  apply aA <;> intro J
  ·rw[if_pos (by grind)]at F;simp only[go_sem,I,e7,ah,af,ak,Z,mT aq];exact⟨⟨k+1,E,rfl,⟨b,Rj⟩,F⟩,by grind[aJ]⟩
  have hlf:n.leaf=true:=by grind
  rw[if_neg (by grind)]at F;simp only[go_sem,I,aj];apply aA <;> intro J
  ·rw[if_pos J]at F;subst F;simp only[go_sem];exact .refl _
  rw[if_neg (fun h=>Bool.noConfusion (J.symm.trans h))]at F;simp only[go_sem,e7,ah,aj];refine WX x h b ds n pr (hL n ds (Xab hn) (Xab ai)) Rj fun H2 b' R2=>?_
  simp only[go_sem];apply aA <;> intro J
  ·rw[if_pos J]at F;subst F;simp only[go_sem];exact .refl _
  rw[if_neg (fun h=>Bool.noConfusion (J.symm.trans h))]at F;simp only[go_sem,I,e7,ah,af,ak,Z,mT aq];exact⟨⟨k+1,E,rfl,⟨b',R2⟩,F⟩,by grind[aJ]⟩
 have O:=geB hk (by omega);subst O;rw[Xbr,hP.len,Xbr]at F;simp only[go_sem];rw[F];exact .refl _
end Nu
namespace Vy
open Go.Proofs.YtkfhgjihlbilpaaGreatDoor.Nu (JF)
open Dec (kE lL zJ Cm)
open Sq (rN fK sZ Dn awG acX Zc Ss xO kG GN CS lN xE okV W Dm)
open Go.Proofs.YtkfhgjihlbilpaaGreatDoor.Ve (Dq PathsOf Hd mC aeZ)
end Vy
namespace Nu.Ps
open Go.Nu Go.So
open Dec (kE fB dJ cX pJ mS)
open Sq (EvalB BestQ oJ rT dZ fT)
end Nu.Ps
namespace Nu.Ps
open Go.Nu Go.So
open Dec (kE fB dJ cX pJ mS)
open Sq (EvalB BestQ oJ rT dZ fT gM)
def JA{x:Instance}(h:Acc x)(O:x.y5.length<=8):PrOk x (mO x.types).toNat:=by
 obtain⟨A,E⟩:=Li h;have h1:=h.o9;have Z:=h.types;have X:=h.apart;have Y:=h.before;refine⟨⟨⟨by omega,fun a F=>(h.arc a F).eP,fun a F=>by have:=(h.arc a F).ξ;omega⟩,?_,by omega,by omega⟩,O,by omega,A,E⟩;obtain⟨t,r,ht⟩:=List.exists_cons_of_ne_nil E;have T:gM x=(t.cap.length:Nat):=by grind[gM]
 have U:=(A.cap t (by grind)).1;have I:=A.dims;exact⟨by omega,fun o J=>by rw[T,(A.load o J).1];omega,by omega⟩
end Nu.Ps
namespace Vy
open Go.Proofs.YtkfhgjihlbilpaaGreatDoor.Nu (LeafB PlanW)
open Sq (rN fK Dn awG acX Zc Ss xO kG cJ PlanB W)
end Vy
namespace Nu
open Go.Proofs.Tryz
open Go.Nu
open Dec (kE fB dJ cX pJ mS Cm)
open Sq (EvalB oJ rN fK L6 rM Dn PlanB)
open Ps (PrOk)
open Go.Proofs.YtkfhgjihlbilpaaGreatDoor.Ve (Dq PathsOf Hd mC aeZ)
def vxO:Order:=⟨⟨#[111]⟩,[1],⟨-1,0,0,0⟩,⟨1,0,40,0⟩,0,-1,1,-1,-1,false⟩
def vxT:VType:=⟨⟨#[118]⟩,1,0,0,[1],0,0,0,60,100,0,20,1,0⟩
def vxN:Network:=⟨[⟨#[65]⟩,⟨#[66]⟩],[⟨0,1,0,20,[⟨0,10⟩],[]⟩,⟨1,0,0,20,[⟨0,10⟩],[]⟩]⟩
def vxX(c:Int):Instance:=⟨vxN,[vxT],[{ vxO with drop:=⟨1,0,c,0⟩ }],[],[]⟩
def vxL(k:Int)(d:List ByteArray):TNode:=⟨true,k,[],d,⟨0,0,0,0⟩,0,0⟩
def vxP(s:ByteArray):Proof:=⟨false,⟨[⟨0,0,[],[⟨0,true⟩]⟩],[]⟩,[vxL 1 [s,⟨#[48]⟩]]⟩
def s60:ByteArray:=⟨#[49,48,48,54,54,51,50,57,54,48]⟩
def s59:ByteArray:=⟨#[49,48,48,54,54,51,50,57,53,57]⟩
def vxQ:Proof:=⟨true,⟨[],[]⟩,[vxL 2 [⟨#[49]⟩,⟨#[48]⟩]]⟩
def vx_1:AZ (vxX 40) 1 (vxP s60) true [[]]=0:=by decide +kernel
def vx_2:AZ (vxX 40) 1 (vxP s59) true [[]]=26:=by decide +kernel
def vx_3:AZ (vxX 5) 1 vxQ true [[]]=0:=by decide +kernel
abbrev U1(p a t:List (List AV))(o:AV):Row:=⟨30,6,[[.sl p,.sl a,.sl t,o,.sl [],.sl []]]⟩
abbrev XL(r n:List (List AV)):Row:=⟨53,4,[[boo false,.sl r,.sl [],.sl n]]⟩
abbrev amK(l:List Order):Row:=⟨60,16,l.map bE⟩
def amP{H:aM}{K:AV->aM->Prop}(hK:∀j H',H' j=some (amK [vxO])->K (.tup [.agg [.sl (vxN.places.map Go.Aw.D.dK),.sl (vxN.o9.map fL),.sl [bI vxT],.os j,.sl [],.sl []],.agg (iC (vxP s60))]) H'):bQ prog 10 [] H K:=by
 refine bQ.body (c:=f10.body.getD .skip) (fun t=>t == 24) mixed func10 rfl (by kernel_rfl) ?_;unfold f10;simp only[Xbb];simp only[go_sem];refine eJ fun i0 ar ag (A:ar i0=some (U1 [] [] [] (.sl []))) N=>?_
 clear N ag;simp only[go_sem];refine eJ fun i1 am ao (F:am i1=some (XL [] [])) N=>?_
 replace A:=N A;obtain⟨J,A⟩:=A;clear N ao;simp only[go_sem,];refine aH fun O U=>?_
 simp only[go_sem,];refine bW U (by simp) fun al (I:al O=some (U1 (vxN.places.map Go.Aw.D.dK) [] [] (.sl []))) N=>?_
 replace A:=N A;obtain⟨Y,A⟩:=A;replace F:=N F;obtain⟨aa,F⟩:=F;clear N U;simp only[go_sem,];refine bP ⟨_,rfl,rfl⟩ I (by simp) ?_;generalize E:aI _ O _=HP;replace A:=kpA E (by omega) A;replace F:=kpA E (by omega) F;replace I:HP O=some (U1 (vxN.places.map Go.Aw.D.dK) (vxN.o9.map fL) [] (.sl [])):=upS E;clear E;simp only[go_sem,];refine bP ⟨_,rfl,rfl⟩ I (by simp) ?_;generalize E:aI _ O _=HP;replace A:=kpA E (by omega) A;replace F:=kpA E (by omega) F;replace I:HP O=some (U1 (vxN.places.map Go.Aw.D.dK) (vxN.o9.map fL) [bI vxT] (.sl [])):=upS E;clear E;simp only[go_sem,];refine eJ fun j av au (T:av j=some (amK [vxO])) N=>?_
 replace A:=N A;obtain⟨ai,A⟩:=A;replace F:=N F;obtain⟨aj,F⟩:=F;replace I:=N I;obtain⟨an,I⟩:=I;clear N au;simp only[go_sem,];refine bP ⟨_,rfl,rfl⟩ I (by simp) ?_;generalize E:aI _ O _=HP;replace A:=kpA E (by omega) A;replace F:=kpA E (by omega) F;replace T:=kpA E (by omega) T;replace I:HP O=some (U1 (vxN.places.map Go.Aw.D.dK) (vxN.o9.map fL) [bI vxT] (.os j)):=upS E;clear E;simp only[go_sem,];refine aH fun i3 X=>?_
 simp only[go_sem,];refine bW X (by simp) fun ae (R3:ae i3=some (XL [bJ ⟨0,0,[],[⟨0,true⟩]⟩] [])) N=>?_
 replace A:=N A;obtain⟨ac,A⟩:=A;replace F:=N F;obtain⟨Z,F⟩:=F;replace I:=N I;obtain⟨ab,I⟩:=I;replace T:=N T;obtain⟨aq,T⟩:=T;clear N X;simp only[go_sem,];refine bP ⟨_,rfl,rfl⟩ R3 (by simp) ?_;generalize E:aI _ i3 _=HP;replace A:=kpA E (by omega) A;replace F:=kpA E (by omega) F;replace I:=kpA E (by omega) I;replace T:=kpA E (by omega) T;replace R3:HP i3=some (XL [bJ ⟨0,0,[],[⟨0,true⟩]⟩] [bY (vxL 1 [s60,⟨#[48]⟩])]):=upS E;clear E;simp only[go_sem,];refine gS [O,i3] [(0,true),(1,true),(2,false),(3,false)] (by grind) (by kernel_rfl) fun Hp Hr hp hr _ aw=>?_
 have ah:=(hp O (by simp)).trans I;have af:=(hp i3 (by simp)).trans R3;have ap:=(hr i0 (by grind)).trans A;have ak:=(hr i1 (by grind)).trans F;simp only[go_sem,ah,af,];refine aG ap (by simp) ?_;simp only[go_sem];refine aG ((aF _ _ _ _ J.symm).trans ak) (by simp) ?_;simp only[go_sem];refine dO fun _ Hm _ h2=>?_
 have M0:Hm i0=some (U1 (vxN.places.map Go.Aw.D.dK) (vxN.o9.map fL) [bI vxT] (.os j)):=by grind[aF,aB]
 have M1:Hm i1=some (XL [bJ ⟨0,0,[],[⟨0,true⟩]⟩] [bY (vxL 1 [s60,⟨#[48]⟩])]):=by grind[aB]
 have Mj:Hm j=some (amK [vxO]):=by grind[aF]
 simp only[go_sem,M0,M1];exact hK j Hm Mj
def arL(c:Int):LoadsOk (vxX c) 1 where
 dims:=by decide
 y5:=by simp[vxX]
 types:=by simp[vxX]
 load:=by grind[vxX,vxO]
 cap:=by grind[vxX,vxT]
def aBH:Sq.NetOk vxN where
 o9:=by decide
 eP:=by intro a A;simp[vxN]at A;rcases A with rfl|rfl <;> decide +kernel
 ξ:=by grind[vxN]
def ayX(c:Int):PrOk (vxX c) 1 where
 ev:=⟨aBH,⟨by simp[vxX,vxT,Sq.gM],by intro o A;simp[vxX]at A;subst A;rfl,by simp[vxX]⟩,by simp[vxX],by simp[vxX]⟩
 n8:=by simp[vxX]
 ty:=by simp[vxX]
 lo:=arL c
 ne:=by simp[vxX]
def S6{n:TNode}(h:n.leaf=true):Dq [n]:=⟨by simp,by simp,by simp[Ve.zT,Go.Ve.oC,h],by grind[Go.Ve.uY,Go.Ve.cnt,Go.Ve.sN],fun k A=>⟨[],by
 obtain rfl:k=0:=by grind
 exact .root⟩⟩
def N4(n:TNode):PathsOf [n] [[]]:=⟨rfl,fun k d h=>by
 cases k with
 | zero=>cases h;exact .root
 | succ k=>grind,fun d A=>by grind⟩
def abK(c:Int)(k A:Int)(d:List ByteArray)(J:VarB d)(F:rK A):LeafB (vxX c) (vxL k d) [] A where
 types:=by intro t E;simp[vxX]at E;subst E;exact⟨by decide,by decide⟩
 y8:=by intro q I;cases I
 dsn:=by simp
 dl:=by simp
 cl:=by simp[vxL]
 ψ:=J
 o8:=F
def arY:PlanW (vxX 40) (vxP s60).plan where
 b:=⟨by decide,by decide,by decide⟩
 y7:=by decide
 type:=fun _=>by decide
 ev:=fun _=>by decide +kernel
 un:=fun _=>by decide +kernel
def azF(s:ByteArray)(I:s.size<=1048576):PC prog 11 [.agg (aD (vxX 40)),.agg (iC (vxP s))] (int (AZ (vxX 40) 1 (vxP s) true [[]])):=
 Uq (vxX 40) 1 (vxP s) (ayX 40) true ⟨fun _=>S6 rfl,fun _=>rfl⟩ [[]] (fun _=>N4 _) (by simp[vxP]) (fun _=>arY) fun n ds E F=>by
  simp[vxP]at E;simp at F;subst E;subst F;refine abK 40 1 _ _ ⟨by simp,fun t A=>?_⟩ (show rK (CZ (vxX 40) (vxP s60).plan).1 from⟨by decide +kernel,by decide +kernel⟩);simp at A;rcases A with rfl|rfl
  ·exact I
  ·decide
def aB1:PC prog 11 [.agg (aD (vxX 5)),.agg (iC vxQ)] (int 0):=by
 have h:=Uq (vxX 5) 1 vxQ (ayX 5) true ⟨fun _=>S6 rfl,fun _=>rfl⟩ [[]] (fun _=>N4 _) (by simp[vxQ]) (fun h=>by cases h) fun n ds A E=>by simp[vxQ]at A;simp at E;subst A;subst E;refine abK 5 2 _ _ ⟨by simp,by decide⟩ ⟨by decide,by decide⟩
 rw[vx_3]at h;exact h
def vxC:Decision:=⟨5,0,0,0⟩
def vxA:Proof:=⟨false,⟨[],[]⟩,[⟨false,0,[],[],vxC,2,1⟩,vxL 0 [],vxL 0 []]⟩
def vxB:Proof:=⟨false,⟨[],[]⟩,[⟨false,0,[],[],⟨0,0,0,0⟩,1,1⟩,vxL 0 []]⟩
def abW:∀k,k<3->aeZ vxA.nodes k (([[],[Cm vxC],[vxC]]:List (List Decision)).getD k [])
 | 0,_=>.root
 | 1,_=>.no (d:=[]) .root (rfl:vxA.nodes[0]?=some _) rfl rfl
 | 2,_=>.yes (d:=[]) .root (rfl:vxA.nodes[0]?=some _) rfl rfl
def ahH:PC prog 12 [.agg (iC vxA)] (.tup [.sl ([[Cm vxC],[vxC]].map Hd),int 0]):=
 Go.Proofs.YtkfhgjihlbilpaaGreatDoor.Ve.abD vxA true ⟨fun _=>⟨by decide,by decide,by decide,by decide,fun k A=>⟨_,abW k A⟩⟩,fun _=>rfl⟩ [[],[Cm vxC],[vxC]] (fun _=>⟨rfl,fun k d h=>by
  have A:k<3:=(List.getElem?_eq_some_iff.1 h).1;have:=abW k A
  grind,by decide⟩) (by decide)
def adI:PC prog 12 [.agg (iC vxB)] (.tup [.sl [],int 29]):=
 Go.Proofs.YtkfhgjihlbilpaaGreatDoor.Ve.abD vxB false ⟨fun h=>(by cases h),fun h=>absurd h.2.2.2.1 (by decide)⟩ [] (fun h=>(by cases h)) (by decide)
def Q4{H:aM}{j:Nat}(c:Int)(A:H j=some (amK (vxX c).y5))(p:AV):ConvL H [.agg [.sl (vxN.places.map Go.Aw.D.dK),.sl (vxN.o9.map fL),.sl [bI vxT],.os j,.sl [],.sl []],p] [.agg (aD (vxX c)),p]:=
 .cons _ _ _ _ (.agg _ _ (.cons _ _ _ _ (.refl _) (.cons _ _ _ _ (.refl _) (.cons _ _ _ _ (.refl _) (.cons _ _ _ _ (.row _ _ _ A (ConvE.refl _)) (ConvL.refl _)))))) (ConvL.refl _)
def Ge:PC prog 6 [] (boo true):=by
 have h1:=azF s60 (by decide);rw[vx_1]at h1;have h2:=azF s59 (by decide);rw[vx_2]at h2;have h3:=aB1;have h4:PC prog 12 [.agg (iC vxA)] (.tup [.sl [[.sl [[int 6,int 0,int 0,int 0]]],[.sl [[int 5,int 0,int 0,int 0]]]],int 0]):=ahH;have h5:=adI;refine pcd func6 rfl rfl ?_;simp only[go_sem];refine amP fun j H A=>?_
 simp only[go_sem];refine eJ fun i1 U Y (F:U i1=some (U1 [] [] [] (.sl []))) N=>?_
 replace A:=N A;obtain⟨O,A⟩:=A;clear N Y;simp only[go_sem,];refine eJ fun Z T aa (I:T Z=some (XL [] [])) N=>?_
 replace F:=N F;obtain⟨J,F⟩:=F;replace A:=N A;obtain⟨X,A⟩:=A;clear N aa;simp only[go_sem,];refine aG F (by simp) ?_;generalize E:aI _ i1 _=HP;replace I:=kpA E (by omega) I;replace A:=kpA E (by omega) A;replace F:HP i1=some (U1 (vxN.places.map Go.Aw.D.dK) (vxN.o9.map fL) [bI vxT] (.os j)):=upS E;clear E;simp only[go_sem,];refine aG I (by simp[Gs]) ?_;generalize E:aI _ Z _=HP;replace F:=kpA E (by omega) F;replace A:=kpA E (by omega) A;replace I:HP Z=some (XL [bJ ⟨0,0,[],[⟨0,true⟩]⟩] [bY (vxL 1 [s60,⟨#[48]⟩])]):=upS E;clear E;simp only[go_sem,I,F];refine eN.use ⟨_,Q4 40 A _,h1,rfl⟩ ?_;simp only[go_sem];refine bP ⟨_,rfl,rfl⟩ I (by simp) ?_;generalize E:aI _ Z _=HP;replace F:=kpA E (by omega) F;replace A:=kpA E (by omega) A;replace I:HP Z=some (XL [bJ ⟨0,0,[],[⟨0,true⟩]⟩] [bY (vxL 1 [s59,⟨#[48]⟩])]):=upS E;clear E;simp only[go_sem,I,F];refine eN.use ⟨_,Q4 40 A _,h2,rfl⟩ ?_;simp only[go_sem,F,A];refine⟨⟨by decide,by decide⟩,?_⟩;refine bP so3 A (by simp) ?_;generalize E:aI _ j _=HP;replace F:=kpA E (by omega) F;replace I:=kpA E (by omega) I;replace A:HP j=some (amK (vxX 5).y5):=upS E;clear E;simp only[go_sem,F];refine eN.use ⟨_,Q4 5 A _,h3,rfl⟩ ?_;simp only[go_sem];refine aL h4 ?_;simp only[go_sem];refine aL h5 ?_;simp only[go_sem]
 iterate 6 (refine⟨fun _=>⟨by decide,by decide⟩,?_⟩)
 exact .refl _
end Nu
namespace Vy
open Go.Proofs.Tryz
open Go.Proofs.YtkfhgjihlbilpaaGreatDoor.Nu (ltB geB cB LeafB PlanW)
open Nu.Ps (PrOk)
open Go.Proofs.YtkfhgjihlbilpaaGreatDoor.Ve (Dq PathsOf Hd mC aeZ)
def PO(x:Instance):Bool:=(decide ((x.y5.length:Int)<=3)&&decide ((x.types.length:Int)<=2))&&((xY x).length:Int) == 0
def FL(x:Instance)(A:InB x):PC prog 4 [.agg (aD x)] (boo (PO x)):=by refine pcd func4 rfl rfl ?_;simp only[go_sem];refine⟨_,fun _=>(NC.pc (axS x A)).qn,?_⟩;simp only[go_sem,Xac];exact cB rfl
def adK{x:Instance}(h:PO x=true):Acc x/\x.y5.length<=3/\x.types.length<=2:=by
 unfold PO at h;simp only[Xak,decide_eq_true_eq,Xau]at h
 grind[aBo,List.length_eq_zero_iff]
def Te(n:TNode):Bool:= !(decide ((n.y8.length:Int)>30)||decide ((n.ψ.length:Int)>30))&&n.ψ.all fun s=> !decide ((s.size:Int)>60)
def aBE(n:TNode):PC prog 5 [.agg (bY n)] (boo (Te n)):=by
 refine pcd func5 rfl rfl ?_;simp only[go_sem];refine aA (fun hb=>?_) (fun hb=>?_)
 ·simp only[go_sem]
  grind[cB,Te]
 have X:Te n=n.ψ.all fun s=> !decide ((s.size:Int)>60):=by grind[Te]
 have hl:n.ψ.length<=30:=by grind
 rw[X];simp only[go_sem,Xac];refine⟨fun ρ H=>∃(k:Nat),k<=n.ψ.length/\ρ 16=.sl (n.ψ.map Go.Aw.D.dK)/\ρ 17=int (n.ψ.length:Nat)/\ρ 18=int k/\(∀s∈n.ψ.take k,decide ((s.size:Int)>60)=false),fun ρ _=>n.ψ.length-aT (ρ 18),⟨0,Xaa _,by rfl,by rfl,(by rfl),by simp⟩,?_⟩;rintro ρ H ⟨k,Z,E,F,I,T⟩;simp only[go_sem,E,F,I];refine aA (fun A=>?_) (fun J=>?_)
 ·have A:=ltB (by omega);obtain⟨s,O⟩:=aK A;have Y:=inB A;simp only[go_sem,E,F,I,aC O,Y];refine aA (fun U=>?_) (fun U=>?_)
  ·simp only[go_sem]
   grind[cB]
  ·simp only[go_sem,E,F,I,aQ k];exact⟨⟨k+1,A,rfl,Nu.dW (p:=fun s:ByteArray=>decide ((s.size:Int)>60)=false) O U T⟩,by grind[aJ]⟩
 have J:=geB Z (by omega);subst J;rw[Xad]at T;simp only[go_sem]
 grind[cB]
end Vy
end Go.Proofs.YtkfhgjihlbilpaaGreatDoor
