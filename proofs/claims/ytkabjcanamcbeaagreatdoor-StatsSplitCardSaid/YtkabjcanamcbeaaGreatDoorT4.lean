/- Texts joined. -/
import Derived.Test.YtkabjcanamcbeaaGreatDoorT3
set_option linter.unusedVariables false
set_option linter.unusedSimpArgs false
namespace Go.Ar
open Go Go.Vc Go.Proofs
open Go.Bu (Zi)
variable {σ:Hp}{F:Rg}{p q r:Nat}{sp:Sp}{l:List (Int×Sl)}{B:Nat->Nat}
theorem Ld (h:dD σ F p sp)(g:Gl σ)(x:Int)(hx:x<=9223372036854775807){R:aN}(hR:∀σ',bO σ σ'->R (gX sp x) σ') :
 XD.c (aW p) x 1 σ R:=by
 refine XD.o ?_;have E:=h;obtain⟨q,r,l,B,h⟩:=h;have n2:=h.n2;have d:(x<0\/x%8≠0)->R 7 σ:=λj=>by
  have:=hR σ (Ext.refl _ _);unfold gX at this;rw[zB j]at this;exact this
 refine Hz E (cF rfl (cF rfl (bY.intro (cH (λA=>cJ rfl (d (.inl A))) λA=>nz aB ?_))));obtain⟨y,rfl⟩:=zk (show 0<=x by omega);refine cN (λi=>?_) λi=>?_
 ·refine d (.inr ?_);rw[Q4 O]at i;simpa using i
 have K:y%8=0:=by
  rw[Q4 O]at i;have:((y:Int)%8)=0:=by simpa using i
  omega
 have ok:¬((y:Int)<0\/(y:Int)%8≠0):=by omega
 refine nz aB (bZ (m:=y/256) (by rw[Xq O];simp) O (nz aB (bZ (m:=y/8) (by rw[Xq O];simp) O ?_)));refine bZ (m:=y/8+1) O O (bZ (m:=y/8) O O (nz aB (bZ (m:=y/256) (by rw[Xq O];simp;omega) O ?_)));have fin:∀(b:Bool) σ',bO σ σ'->(b=true↔sp.st.getD (y/256) 0=0)->If b (R 7 σ') (R 0 σ'):=λb σ' e j=>by
  have:=hR σ' e;unfold gX at this;rw[zA ok]at this;refine cN (λh=>?_) λh=>?_
  ·rw[zB (by simpa using j.1 h)]at this;exact this
  ·rw[zA (λG=>by rw[j.2 (by simpa using G)]at h;cases h)]at this;exact this
 obtain⟨c,J,hd⟩:=h.hd;refine Jn.intro ⟨λm=>bW m p [.slice (some ⟨q,0,none⟩) sp.st.length c,.map (some r),.int .i64 (sp.pk:Int)]/\Gl m,⟨hd,g⟩,?_⟩;refine aG ⟨⟨some ⟨q,0,none⟩,sp.st.length,c⟩,λm a=>by rw[add_lit,a.1.cell];rfl,?_⟩;refine cH (λw=>?_) λw=>?_
 ·simp only at w;refine fin _ σ (Ext.refl _ _) ⟨λ_=>?_,λ_=>rfl⟩;rw[zN,zX O];rfl
 simp only at w;refine aG ⟨⟨some ⟨q,0,none⟩,sp.st.length,c⟩,λm a=>by rw[add_lit,a.1.cell];rfl,?_⟩;refine bZ (m:=y/256+1) O O (ji O aC (zC _) ?_);simp only;rw[zA O];refine⟨false,λm a=>a.2.u0,⟨false,λm a=>a.2.u1,?_⟩⟩;have e:(Option.map (λ(u:Addr)=>u.add (y/256*2)) (some (⟨q,0,none⟩:Addr)))=some ⟨q,2*(y/256),none⟩:=by
  simp only[zh,add_lit];congr 2;omega
 rw[e,D0];have D:=h.part (x:=y/256) (y:=1) (c:=c-y/256) O;refine G8 (v:=0) D (by rw[zO,zt];omega) (λz H=>h.qE z (qZ (m7 H))) O λσ' s=>?_;refine⟨⟨s.cA hd id,g.bK s⟩,fin _ σ' s ?_⟩;have C:y/256<sp.st.length:=by omega
 rw[zN,cL C,qL C,sL,tz];simp[eq_comm]
theorem PB (h:dD σ F p sp){w:Nat}(hw:w<=2305843009213693952){R:aN}(hR:R (sp.wd w) σ):Zs.c (aW p) (w:Int) σ R:=by
 refine Zs.o ?_;obtain⟨q,r,l,B,h⟩:=h;refine aG (h.rM (nz aB (bZ (m:=w/32) (by rw[Xq O];simp) O ⟨l,h.map,?_⟩)));cases hg:bV l ((w/32:Nat):Int)with
 | none=>
  refine cF rfl ?_;have:sp.st[w/32]?≠some 2:=λa=>by
   have:=(h.keys _).2 ⟨_,rfl,a⟩;rw[hg]at this;cases this
  rw[h.zero w this]at hR;exact hR
 | some s=>
  obtain⟨e,i,j,u,g,x,d⟩:=h.wd _ s hg;refine cJ rfl (nz aB ?_);simp only[px];have b:((w:Int).tmod 32)=((w%32:Nat):Int):=by rw[Q4 O];simp
  rw[e,b];refine ix O O ?_;rw[add_lit];refine g.we ?_ hR;rw[show 0+((w%32:Nat):Int).toNat*1=w%32 by omega,d _ O];simp only;rw[show 32*(w/32)+w%32=w by omega]
theorem TT (h:dD σ F p sp)(g:Gl σ)(x:Int)(hx:x<=9223372036854775807){R:Int->Int->Hp->Prop}(hR:∀σ',bO σ σ'->R (if gX sp x=0 then sp.wd (x.toNat/8)else 0) (gX sp x) σ') :
 Zb.c (aW p) x σ R:=by
 refine Zb.o ?_;refine Ld h g x hx λσ' e=>?_;have:=hR σ' e;refine cN (λd=>?_) λd=>?_
 ·have b:¬gX sp x=0:=by simpa using d
  rw[zA b]at this;exact this
 ·have a:gX sp x=0:=by simpa using d
  rw[zB a,a]at this;have i:0<=x:=by
   rcases(by omega:x<0\/0<=x)with hlt|hge
   ·unfold gX at a;rw[zB (.inl hlt)]at a;cases a
   ·exact hge
  obtain⟨y,rfl⟩:=zk i;exact nz aB (bZ (m:=y/8) (by rw[Xq O];simp) O (PB (h.bK e) O this))
theorem fM.Cq (h:fM σ F p q r l B sp){k:Nat}(hk:k<sp.st.length)(hn:sp.st[k]?≠some 2){σ':Hp}{b:Nat}{s:Sl}{T:Rg}(e:Ext T σ σ')(hT:∀i,i<σ.size->T i->i=q\/i=r)(hz:σ.size<=b){rest:List Value}
 (hb:bW σ' q (ij (sp.st.set k 2)++rest)) (hm:dN σ' r .i64 .s (dE l (k:Int) s)) (ha:s.a=some ⟨b,0,none⟩) (hl:s.len=32) (hc:s.cap=32) (hw:bW σ' b (List.replicate 32 (.int .i64 0))) :
 fM σ' (Grow F σ) p q r (dE l (k:Int) s) (λj=>if j=k then b else B j) {sp with st:=sp.st.set k 2}:=by
 have u:∀j:Nat,(sp.st.set k 2)[j]?=some 2↔j=k\/sp.st[j]?=some 2:=λj=>by
  rw[nq];by_cases hjk:k=j
  ·subst hjk;rw[zB rfl,zB hk];simp
  ·rw[zA hjk];exact⟨λh=>.inr h,λh=>h.resolve_left λe=>hjk e.symm⟩
 obtain⟨c,J,hd⟩:=h.hd;obtain⟨_,z⟩:=h.row;have V:=hd.lt;have S:=z.lt;have W:=h.map.lt;have U:=e.1;have g:=h.fs;have A:∀{j:Nat},sp.st[j]?=some 2->B j<σ.size:=λ{j} d=>by
  obtain⟨t,_,_,_,_,cs,G,_⟩:=h.entry d;exact G.lt
 have cW:∀{i:Nat} {cs:List Value},bW σ i cs->i≠q->i≠r->bW σ' i cs:=λ{i cs} E D y=>e.cA E λM=>by
  rcases hT i E.lt M with h|h
  ·exact D h
  ·exact y h
 refine⟨⟨c,by simpa using J,by simpa using cW hd g.2.2.2.1 g.2.2.2.2.1⟩,⟨rest,hb⟩,hm,λx=>?_,λj t d=>?_,λj C D y m=>?_,λj d=>?_,⟨.inl g.1,.inl g.2.1,.inl g.2.2.1,g.2.2.2⟩,λw H=>?_,by simpa using h.n1,by simpa using h.n2,I7 h.qE O,h.pk⟩
 ·rw[D4];by_cases hx:x=(k:Int)
  ·rw[zB hx];subst hx;simp only[Option.isSome_some,true_iff];exact⟨k,rfl,(u k).2 (.inl rfl)⟩
  ·rw[zA hx,h.keys];constructor
   ·rintro⟨j,rfl,d⟩;exact⟨j,rfl,(u j).2 (.inr d)⟩
   ·rintro⟨j,rfl,d⟩;exact⟨j,rfl,((u j).1 d).resolve_left O⟩
 ·rw[D4]at d;by_cases hx:(j:Int)=(k:Int)
  ·have:j=k:=by omega
   subst this;rw[zB rfl]at d;cases d;rw[zB rfl];refine⟨ha,hl,O,_,hw,by simp,λi E=>?_⟩;rw[nB,zB E];simp only;rw[h.zero _ (by rw[show(32*j+i)/32=j by omega];exact hn)]
  ·rw[zA hx]at d;obtain⟨L,P,Q,cs,G,N,R⟩:=h.wd j t d;have K:=h.out j (h.dL d);rw[zA O];exact⟨L,P,Q,cs,cW G K.2.2.1 K.2.2.2,N,R⟩
 ·by_cases e1:j=k
  ·by_cases e2:C=k
   ·omega
   ·rw[zB e1,zA e2]at m;have:=A (((u C).1 y).resolve_left e2);omega
  ·rw[zA e1]at m;by_cases e2:C=k
   ·rw[zB e2]at m;have:=A (((u j).1 D).resolve_left e1);omega
   ·rw[zA e2]at m;exact h.inj j C (((u j).1 D).resolve_left e1) (((u C).1 y).resolve_left e2) m
 ·by_cases e1:j=k
  ·rw[zB e1];exact⟨.inr hz,O,O,O⟩
  ·rw[zA e1];have:=h.out j (((u j).1 d).resolve_left e1);exact⟨.inl this.1,this.2⟩
 ·refine h.zero w λy=>H ((u _).2 (.inr y))
theorem fM.dO (h:fM σ F p q r l B sp){σ':Hp}{n c:Nat}(hn:n<=1024)(ho:QJ σ σ' p)(hc:sp.st.length<=c)(hb:bW σ' p [.slice (some ⟨q,0,none⟩) sp.st.length c,.map (some r),.int .i64 (n:Int)]):fM σ' F p q r l B {sp with pk:=n}:=by
 have b:=h.fs;obtain⟨rest,a⟩:=h.row;refine⟨⟨c,hc,hb⟩,⟨rest,Wp ho a O⟩,HO ho h.map O,h.keys,λj t d=>?_,h.inj,h.out,b,h.zero,h.n1,h.n2,h.qE,hn⟩;obtain⟨s,e,g,i,w,u,m⟩:=h.wd j t d;exact⟨s,e,g,i,Wp ho w (h.out j (h.dL d)).2.1,u,m⟩
theorem fM.word (h:fM σ F p q r l B sp){w:Nat}{v:Int}(hk:sp.st[w/32]?=some 2){σ':Hp}{cs:List Value}(h32:32<=cs.length)(ho:QJ σ σ' (B (w/32)))(hcs:∀j,j<32->cs[j]?=some (.int .i64 (sp.wd (32*(w/32)+j))))
 (hb:bW σ' (B (w/32)) (cs.set (w%32) (.int .i64 v))):fM σ' F p q r l B {sp with wd:=λu=>if u=w then v else sp.wd u}:=by
 have y:=h.out _ hk;obtain⟨c,C,hd⟩:=h.hd;obtain⟨rest,a⟩:=h.row;refine⟨⟨c,C,Wp ho hd O⟩,⟨rest,Wp ho a O⟩,HO ho h.map O,h.keys,λj t s=>?_,h.inj,h.out,h.fs,λu x=>?_,h.n1,h.n2,h.qE,h.pk⟩
 ·obtain⟨m,A,z,g,D,G,E⟩:=h.wd j t s;by_cases hjk:j=w/32
  ·subst hjk;refine⟨m,A,z,_,hb,by simpa using h32,λi d=>?_⟩;rw[nq];by_cases hiw:w%32=i
   ·rw[zB hiw,zB O];simp only;rw[zB O]
   ·rw[zA hiw];simp only;rw[zA O];exact hcs i d
  ·have b:B j≠B (w/32):=λe=>hjk (h.inj _ _ (h.dL s) hk e);refine⟨m,A,z,g,Wp ho D b,G,λi d=>?_⟩;rw[E i d];simp only;rw[zA O]
 ·have:u≠w:=λe=>by subst e;exact x hk
  simp only;rw[zA this];exact h.zero u x
theorem NG (h:dD σ F p sp)(g:Gc σ){w:Nat}(hw:w/32<sp.st.length)(v:Int){R:aP}(hR:∀σ',Ext F σ σ'->dD σ' (Grow F σ) p (oB sp w v)->R σ') :
 Zv.c (aW p) (w:Int) v σ R:=by
 refine Zv.o ?_;obtain⟨q,r,l,B,h⟩:=h;have Q:=h.n2;have x:sp.st[w/32]?=some sp.st[w/32]:=cL hw;have tm:((w:Int).tmod 32)=((w%32:Nat):Int):=by rw[Q4 O];simp
 have word:∀(u:Hp) (s':Sp) (l':List (Int×Sl)) (B':Nat->Nat),Ext F σ u->fM u (Grow F σ) p q r l' B' s'->s'.st[w/32]?=some 2->({s' with wd:=λz=>if z=w then v else s'.wd z}:Sp)=oB sp w v →
  bQ (some ⟨p,0,none⟩) λX=>m0 (X.add 1) u λY=>Lk .i64 .s Y ((w/32:Nat):Int) u λD=>Nz 32<|Ix (D.getD ⟨none,0,0⟩).a (D.getD ⟨none,0,0⟩).len ((w:Int).tmod 32) 1 λP=>dG P (.int .i64 v) u λv1=>R v1:=by
  intro u s' l' B' eu hu A he;refine aG (hu.rM ⟨l',hu.map,nz aB ?_⟩);obtain⟨s,hs,w1,w2,w3,cs,w4,w5,w6⟩:=hu.entry A;rw[hs,tm];simp only[px];rw[w1];refine ix O O ?_;rw[add_lit,show 0+((w%32:Nat):Int).toNat*1=w%32 by omega];refine w4.s0 O λu2 o2 N=>?_;have h2:=hu.word (v:=v) A w5 o2 w6 N;rw[he]at h2;exact hR u2 (eu.fE o2.ext λb d=>by subst d;exact(hu.out _ A).1) ⟨_,_,_,_,h2⟩
 refine nz aB (bZ (m:=w/32) (by rw[Xq O];simp) O (Jn.intro (aG (h.rS λcap E=>ix O aC ?_))));rw[add_lit,show 0+((w/32:Nat):Int).toNat*2=2*(w/32) by omega];refine h.zx x (lu (n:=true) g.d0 (lu (n:=true) g.d1 ?_));have e0:(((fN sp.st[w/32]).1==true)&&(((fN sp.st[w/32]).2==true)&&true))=(sp.st[w/32]==2):=Bo (h.qE _ (zd hw)) (y:=2) O;rw[e0];refine cN (λhd=>?_) λhd=>?_
 ·have G:sp.st[w/32]≠2:=by simpa using hd
  refine aG (h.rS λcap E=>lu (n:=true) g.d0 (lu (n:=true) g.d1 (ix O aC ?_)));rw[add_lit,show 0+((w/32:Nat):Int).toNat*2=2*(w/32) by omega];obtain⟨rest,C⟩:=h.row;refine C.s1 (by rw[zJ,Vv];omega) λu1 o1 b1=>b1.s1 (by rw[nM,zJ,Vv];omega) λu2 o2 N=>?_;rw[zr]at N;have W:bW u2 q (ij (sp.st.set (w/32) 2)++rest):=by rw[←FB hw];exact N
  have e2:Ext (· = q) σ u2:=o1.ext.trans o2.ext;obtain⟨c,hc,J⟩:=h.hd;have H:=e2.cA J h.fs.2.2.2.1;refine⟨λm=>bW m p [.slice (some ⟨q,0,none⟩) sp.st.length c,.map (some r),.int .i64 (sp.pk:Int)],H,aG ⟨some r,λm hm=>by rw[add_lit,hm.cell];rfl,?_⟩⟩;refine mk (n:=32) O O λu3 hz3 K b3=>⟨Ext.cA K H id,?_⟩;have U:bW u3 u2.size (List.replicate 32 (.int .i64 0)):=b3;have q3:=Ext.cA K W id;have aa:=e2.gN h.map (λe=>h.fs.2.2.2.2.2 e.symm);refine⟨r,l,rfl,Ext.gN K aa id,λu4 o4 V=>?_⟩;have sz2:u2.size=σ.size:=by rw[o2.1,o1.1]
  have hrlt:=h.map.lt;have hplt:=J.lt;have e4:Ext (λb=>b=q\/b=r) σ u4:=((e2.sub λb d=>.inl d).trans (bO.to K)).trans (o4.ext.sub λb d=>.inr d);have M:=h.Cq hw (by rw[x];simpa using G) (s:=⟨some ⟨u2.size,0,none⟩,32,32⟩) (b:=u2.size) e4 (λi _ L=>L) O (Wp o4 q3 h.fs.2.2.2.2.2) V rfl rfl rfl (Wp o4 U O);obtain⟨c4,ab,j⟩:=M.hd;refine aG (j.rI rfl (aG (j.rM rfl ⟨_,M.map,aG ?_⟩)));rw[M.sg];have hcl:(sp.st.set (w/32) 2).count 2<=1024:=zI vQ (by simpa using Q);have hpk:=h.pk;have hv:(if((List.count 2 (sp.st.set (w/32) 2):Nat):Int)>(sp.pk:Int)then((List.count 2 (sp.st.set (w/32) 2):Nat):Int)else(sp.pk:Int))=((max sp.pk ((sp.st.set (w/32) 2).count 2):Nat):Int):=by
   by_cases hgt:((List.count 2 (sp.st.set (w/32) 2):Nat):Int)>(sp.pk:Int)
   ·rw[zB hgt];omega
   ·rw[zA hgt];omega
  simp only;rw[hv];refine j.s1 aA λu5 o5 b5=>?_;have h5:=M.dO O o5 ab b5;have e5:Ext F σ u5:=(e4.sub λb d=>by
   rcases d with rfl|rfl
   ·exact h.fs.2.1
   ·exact h.fs.2.2.1).trans (o5.ext.sub λb d=>by subst d;exact h.fs.1)
  refine word u5 _ _ _ e5 h5 (by simp only;rw[nq,zB rfl,zB hw]) ?_;unfold oB;rw[zA (by rw[zN,x];exact G)]
 ·have Z:sp.st[w/32]=2:=by simpa using hd
  rw[Z]at x;have S:fM σ (Grow F σ) p q r l B sp:={h with out:=λk A=>⟨.inl (h.out k A).1,(h.out k A).2⟩,fs:=⟨.inl h.fs.1,.inl h.fs.2.1,.inl h.fs.2.2.1,h.fs.2.2.2⟩};refine word σ sp l B (Ext.refl _ _) S x ?_;unfold oB;rw[zB (by rw[zN,x];rfl)];have:sp.st.set (w/32) 2=sp.st:=by
   apply zp;intro i;rw[nq];by_cases L:w/32=i
   ·subst L;rw[zB rfl,zB hw,x]
   ·rw[zA L]
  rw[this]
theorem τ (h:dD σ F p sp)(g:Gl σ)(gd:Gc σ)(x:Int)(hx:x<=9223372036854775807)(v:Int){R:aN}(hR:∀σ',Ext F σ σ'->dD σ' (Grow F σ) p (U4 sp x v)->R (gX sp x) σ') :
 YH.c (aW p) x v σ R:=by
 refine YH.o ?_;have i:dD σ (Cut F σ) p sp:=dR.cut dD.loc h;refine Ld h g x hx λC e=>?_;have w:=i.bK e;have D:=g.bK e;refine cN (λu=>?_) λu=>?_
 ·have s:¬gX sp x=0:=by simpa using u
  refine hR C (bO.to e) ?_;unfold U4;rw[zA s];exact dR.mono dD.loc w λb _ a=>.inl a.1
 ·have d:gX sp x=0:=by simpa using u
  have j:0<=x/\sp.st.getD (x.toNat/256) 0≠0:=by
   unfold gX at d;by_cases a:x<0\/x%8≠0
   ·rw[zB a]at d;cases d
   ·rw[zA a]at d;by_cases hz:sp.st.getD (x.toNat/256) 0=0
    ·rw[zB hz]at d;cases d
    ·exact⟨O,hz⟩
  obtain⟨y,rfl⟩:=zk j.1;have r:y/8/32<sp.st.length:=by
   rcases mw (y/256) sp.st.length with h|h
   ·omega
   ·exact absurd (by rw[zN,zX (by simpa using h)];rfl) j.2
  refine nz aB (bZ (m:=y/8) (by rw[Xq O];simp) O (NG w (gd.bK e) r v λA z B=>?_));have:=hR A (Ext.cut ((bO.to e).trans z)) ?_
  ·rw[d]at this;exact this
  ·unfold U4;rw[zB d];exact dR.mono dD.loc B λb _ a=>by
    rcases a with a|a
    ·exact .inl a.1
    ·exact .inr (zI e.1 a)
def Vy (n:Nat):Sp:=⟨List.replicate n 0,λ_=>0,0⟩
theorem κ {σ:Hp}{F:Rg}{p q r n c:Nat}(h1:1<=n)(h2:n<=1024)(hc:n<=c)(hd:bW σ p [.slice (some ⟨q,0,none⟩) n c,.map (some r),.int .i64 0])(hq:bW σ q (ij (List.replicate n 0)))(hr:dN σ r .i64 .s [])
 (hF:F p/\F q/\F r) (hne:p≠q/\p≠r/\q≠r):fM σ F p q r [] (λ_=>0) (Vy n):=by
 have b:∀k:Nat,(List.replicate n 0)[k]?≠some 2:=λk a=>by
  rw[nB]at a;split at a<;>cases a
 refine⟨⟨c,by simpa[Vy]using hc,by simpa[Vy]using hd⟩,⟨[],by simpa[Vy]using hq⟩,hr,λx=>?_,λk s d=>(by cases d),λk g h1=>absurd h1 (b k),λk a=>absurd a (b k),⟨hF.1,hF.2.1,hF.2.2,hne⟩,λw _=>rfl,by simpa[Vy]using h1,by simpa[Vy]using h2,λx e=>?_,by simp[Vy]⟩
 ·constructor
  ·intro h;cases h
  ·rintro⟨k,_,a⟩;exact absurd a (b k)
 ·have:=DG e;omega
theorem TC {n:Nat}(h1:1<=n)(h2:n<=1024){R:Option Addr->Int->Hp->Prop}(hR:∀σ' p',bO σ σ'->σ.size<=p'->dD σ' (λb=>σ.size<=b) p' (Vy n)->R (some ⟨p',0,none⟩) 0 σ'):Ka.c (n:Int) σ R:=by
 refine Ka.o ?_;refine bY.intro (fH O ?_);rw[zb O];refine cF rfl (mk O O λe z u j=>ta λx w d m=>nw (cs:=[.slice (some ⟨σ.size,0,none⟩) n n,.map (some e.size),.int .i64 0]) λp y a r=>?_);have i:=Ext.cA a (Ext.cA d j id) id;have g:=Ext.gN a (m .i64 .s) id;refine hR p _ (Ext.trans (Ext.trans u d) a) O ⟨σ.size,e.size,[],_,κ h1 h2 (zC _) r ?_ g ⟨O,O,O⟩ O⟩;rw[T8];exact i
end Go.Ar
namespace Go.Vc
open Go
def AN (h:Hp)(it r:Nat):Nat:=
 match h[it]?,h[r]? with
 | some (.mapIter _ _ seen _),some (.map es _)=>(es.toList.filter λe=>!seen.contains e.born).length
 | _,_=>0
variable {σ:Hp}{k:IntKind}{c:CK}{l todo:List (Int×c.T)}{cur:Option (Int×c.T)}{r it:Nat}
theorem It.num {h:Hp}(hi:It h it k c (some r) l todo cur):AN h it r=todo.length:=by
 obtain⟨m,g,a,b,d,u,i,p,j,e,s⟩:=hi;unfold AN;rw[b,d];have:=congrArg List.length e;simpa using this
theorem It.bU {h h':Hp}(hi:It h it k c (some r) l todo cur)(h1:h'[it]?=h[it]?)(h2:h'[r]?=h[r]?):It h' it k c (some r) l todo cur:=by
 obtain⟨g,b,a,d,e,rest⟩:=hi;exact⟨g,b,a,h1.trans d,h2.trans e,rest⟩
theorem xP {A:aP}{body:Int->c.T->Hp->(Hp->Prop)->Prop}(hm:dN σ r k c l)(I:List (Int×c.T)->Hp->Prop)
 (h0:∀v,v.size=σ.size+1->bO σ v->I l v)
 (hend:∀v,I [] v->A v)
 (hstep:∀todo n x v v' (J:aP),I todo v->(n,x)∈todo->QJ v v' σ.size->σ.size<v.size->(∀w,w[σ.size]?=v'[σ.size]?->w[r]?=v'[r]?->I (todo.filter λy=>!(y.1==n)) w->J w)->body n x v' J) :
 sf k c (some r) σ λit v3=>WR [] (λI=>I v3) λJ1 v4=>sj k c it v4 (A v4) λ_ _ v5=>sq k c it v5 λkey1 val1=>body key1 val1 v5 J1:=by
 refine⟨l,hm,λv K N F=>?_⟩;have L:bO σ v:=⟨O,λb m _=>N b m⟩;refine LW (λw=>∃todo a,It w σ.size k c (some r) l todo a/\I todo w/\σ.size<w.size) (λw=>AN w σ.size r) ⟨l,none,F,h0 v K L,O⟩ ?_;rintro w ⟨todo,a,g,z,s⟩;refine⟨rfl,some r,l,todo,a,g,λG=>?_,λn x B D M e=>?_⟩
 ·subst G;exact hend w z
 ·refine⟨rfl,some r,l,_,n,x,e,hstep todo n x w D _ z B M s λu i j p=>?_⟩;have d:=e.bU i j;refine⟨⟨_,_,d,p,?_⟩,?_⟩
  ·obtain⟨P,E,C,H,_⟩:=d;exact(mT.1 H).1
  ·rw[d.num,g.num];exact List.length_filter_lt_length_iff_exists.2 ⟨(n,x),B,by simp⟩
theorem uE {a:CK}{x0:a.T}{A:a.T->Hp->Prop}{body:Int->c.T->a.T->Hp->(a.T->Hp->Prop)->Prop}(hm:dN σ r k c l)(I:List (Int×c.T)->a.T->Hp->Prop)
 (h0:∀v,v.size=σ.size+1->bO σ v->I l x0 v)
 (hend:∀z v,I [] z v->A z v)
 (hstep:∀todo n x z v v' (J:a.T->Hp->Prop),I todo z v->(n,x)∈todo->QJ v v' σ.size->σ.size<v.size->(∀z' w,w[σ.size]?=v'[σ.size]?->w[r]?=v'[r]?->I (todo.filter λy=>!(y.1==n)) z' w->J z' w)->body n x z v' J) :
 sf k c (some r) σ λit v3=>WR [a] (λI=>I x0 v3) λJ1 z v4=>sj k c it v4 (A z v4) λ_ _ v5=>sq k c it v5 λkey1 val1=>body key1 val1 z v5 J1:=by
 refine⟨l,hm,λv M Q H=>?_⟩;have N:bO σ v:=⟨O,λb p _=>Q b p⟩;refine ZP (a:=a) (λz w=>∃todo d,It w σ.size k c (some r) l todo d/\I todo z w/\σ.size<w.size) (λ_ w=>AN w σ.size r) ⟨l,none,H,h0 v M N,O⟩ ?_;rintro z w ⟨todo,d,i,C,B⟩;refine⟨rfl,some r,l,todo,d,i,λK=>?_,λn x D F P g=>?_⟩
 ·subst K;exact hend z w C
 ·refine⟨rfl,some r,l,_,n,x,g,hstep todo n x z w F _ C D P B λz' u j m s=>?_⟩;have e:=g.bU j m;refine⟨⟨_,_,e,s,?_⟩,?_⟩
  ·obtain⟨R,G,E,L,_⟩:=e;exact(mT.1 L).1
  ·rw[e.num,i.num];exact List.length_filter_lt_length_iff_exists.2 ⟨(n,x),D,by simp⟩
end Go.Vc
namespace Go.Ar
open Go Go.Vc Go.Proofs
open Go.Bu (Zi)
variable {σ:Hp}{F:Rg}{p q r:Nat}{sp:Sp}{l:List (Int×Sl)}{B:Nat->Nat}
theorem Vm {α:Type}{l:List (Int×α)}(hn:(l.map (·.1)).Nodup){n:Int}{x:α}(h:(n,x)∈l):bV l n=some x:=by
 induction l with
 | nil=>simp at h
 | cons y l ih=>
  rw[Kl];simp only[zK,zo]at hn;rcases zT.1 h with h1|h1
  ·subst h1;rw[zB rfl]
  ·have:¬y.1=n:=λe=>hn.1 (zD.2 ⟨_,h1,e.symm⟩);rw[zA this];exact ih hn.2 h1
end Go.Ar
namespace Go.Bu
open Go Go.Vc Go.Proofs
variable {σ:Hp}{p n sb:Nat}{S:Nat->Bool}{ms:List Nat}
def lj (ms:List Nat):List Value:=ms.map λm=>Value.map (some m)
structure Part (B:Nat) (h:Hp) (p n:Nat) (j:Nat) (s:Sl) (ms:List Nat):Prop where
 len:ms.length=j
 sl:s.len=j
 hd:bW h p [.int .i64 n,.slice s.a s.len s.cap]
 own:Own (λb=>B<=b/\b≠p/\b∉ms) h s 1 (lj ms)
 new:∀m∈ms,B<=m/\m≠p/\m<h.size
 nd:ms.Nodup
theorem Part.done {B:Nat}{h:Hp}{j:Nat}{s:Sl}(hp:Part B h p n j s ms)(hB:B<=p)(hj:0<j)(n1:1<=n)(n2:n<=1024)(lo:2^j<=2*n)(hi:n<2^j)(jK:Bounded S n)
 (maps:∀k m,ms[k]?=some m->∃B:List (Int×Bool),dN h m .i64 .b B/\Keys S k B):∃sb,BH h p n S sb ms/\∀b,fp p sb ms b->B<=b:=by
 rcases hp.own.2 with⟨_,hl,_⟩|⟨sb,cs,⟨hq,hqp,hqm⟩,ha,hb,hle,hcl,ht⟩
 ·have:=hp.sl;omega
 ·refine⟨sb,⟨?_,?_,maps,?_,n1,n2,?_,?_,jK⟩,?_⟩
  ·refine⟨s.cap,?_⟩;have:=hp.hd;rw[ha,hp.sl,←hp.len]at this;exact this
  ·refine⟨cs.drop (lj ms).length,?_⟩;have:lj ms++cs.drop (lj ms).length=cs:=by
    conv=>lhs;lhs;rw[←ht]
    exact nS _ _
   show bW h sb (lj ms++_);rw[this];exact hb
  ·simp only[zo,zT,not_or];exact⟨⟨λe=>hqp e.symm,λa=>(hp.new p a).2.1 rfl⟩,hqm,hp.nd⟩
  ·rw[hp.len];exact lo
  ·rw[hp.len];exact hi
  ·intro b hb;simp only[fp,zT]at hb;rcases hb with rfl|rfl|h
   ·exact hB
   ·exact hq
   ·exact(hp.new b h).1
theorem Part.OY {B:Nat}{h:Hp}{j:Nat}{s:Sl}(hp:Part B h p n j s ms):cell h ⟨p,1,none⟩=some (.slice s.a s.len s.cap):=by rw[hp.hd.cell];rfl
theorem Part.bK {B:Nat}{h h':Hp}{j:Nat}{s:Sl}(hp:Part B h p n j s ms)(e:bO h h'):Part B h' p n j s ms:=
 ⟨hp.len,hp.sl,e.cA hp.hd id,hp.own.bK e,λm a=>⟨(hp.new m a).1,(hp.new m a).2.1,vL (hp.new m a).2.2 e.1⟩,hp.nd⟩
theorem Part.step {B:Nat}{h:Hp}{j m e t bytes:Nat}{s:Sl}{zs:List Value}{K:Sl->Hp->Prop}(hp:Part B h p n j s ms)(hj:j<=1000)(hbt:bytes<=1000)(hz:zs.length=1)(hm:B<=m)(hmp:m≠p)(hml:m<h.size)(hmn:m∉ms)(hms:¬HP s m)
 (hpB:p<h.size) (hBh:B<=h.size)
 (hgo:∀s' h',Ext (HP s) h h'->s'.len=j+1->bW h' p [.int .i64 n,.slice s.a s.len s.cap] →
  (∀h2,QJ h' h2 p->bW h2 p [.int .i64 n,.slice s'.a s'.len s'.cap]->Part B h2 p n (j+1) s' (ms++[m]))->K s' h') :
 App s 1 bytes e zs ⟨some ⟨h.size,0,none⟩,1,1⟩ (h.push (.cells #[.map (some m)] t (0,0))) K:=by
 have H:=hp.sl;have w:Own (λb=>B<=b/\b≠p/\b∉ms++[m]) (h.push (.cells #[.map (some m)] t (0,0))) s 1 (lj ms):=by
  have g:=hp.own;have h2:Own (λb=>B<=b/\b≠p/\b∉ms++[m]) h s 1 (lj ms):=by
   refine⟨g.1,g.2.imp id ?_⟩;rintro⟨b,cs,⟨q1,q2,q3⟩,ha,r⟩;refine⟨b,cs,⟨q1,q2,?_⟩,ha,r⟩;simp only[zP,zS,not_or];exact⟨q3,λe=>hms ⟨0,by rw[ha,e]⟩⟩
  exact h2.bK (Hy _ _)
 have C:(h.push (.cells #[.map (some m)] t (0,0))).size=h.size+1:=by simp
 refine w.app (ys:=[.map (some m)]) ?_ hz rfl Wpa (by simp[dM]) ?_ ?_ n4 λs' h' A N J L=>?_
 ·intro b i;rw[C]at i;refine⟨O,O,?_⟩;simp only[zP,zS,not_or];exact⟨λy=>by have:=(hp.new b y).2.2;omega,O⟩
 ·simp only;have:(s.len+1)*bytes<=1001*1000:=kU O hbt;omega
 ·simp only;omega
 ·simp only at A;have d:Ext (HP s) h h':=(Hy h _).to.trans N;have z:¬HP s p:=λi=>(hp.own.jR i).1.2.1 rfl;refine hgo s' h' d O (d.cA hp.hd z) λh2 u D=>⟨by simp[hp.len],O,D,?_,?_,?_⟩
  ·have:lj (ms++[m])=lj ms++[.map (some m)]:=by simp[lj]
   rw[this];exact J.bU (Ext.eR (F:=(· = p)) u rfl) (λb G _ E=>G.2.1 E)
  ·intro x hx;have M:h2.size=h'.size:=u.1;have:=d.1;rcases zP.1 hx with g|g
   ·have:=hp.new x g;exact⟨this.1,this.2.1,O⟩
   ·simp at g;subst g;exact⟨hm,hmp,O⟩
  ·rw[oO];refine⟨hp.nd,by simp,?_⟩;intro a ha b i;simp at i;subst i;rintro rfl;exact hmn ha
def iN:Nat->Bool:=λ_=>false
theorem Whc (k:Nat):Keys iN k []:=by
 refine⟨by simp,λq a=>?_⟩;have:=Vb a (KH k q);simp[iN]at this
theorem uF (aF:Int){R:Option Addr->Int->Hp->Prop}(hbad:¬(1<=aF/\aF<=1024)->R none 1 σ)
 (hR:∀(n:Nat),aF=(n:Int)->1<=n->n<=1024->∀σ' sb ms,bO σ σ'->BH σ' σ.size n iN sb ms->(∀b,fp σ.size sb ms b->σ.size<=b)->R (some ⟨σ.size,0,none⟩) 0 σ'):Q7.c aF σ R:=by
 refine Q7.o ?_;refine bY.intro (cH (λg=>cJ rfl (hbad O)) λg=>?_);refine cH (λh2=>hbad O) λh2=>?_;obtain⟨n,rfl⟩:=zk (show 0<=aF by omega);have M:1<=n:=by omega
 have N:n<=1024:=by omega
 unfold Nw;have e0:=Hy σ (.cells #[.int .i64 (n:Int),.slice none 0 0] 52 (0,0));refine ZP (a:=bN) (λt h=>∃(j:Nat) (s:Sl) (ms:List Nat),t=((2^j:Nat):Int)/\2^j<=2*n/\bO σ h/\σ.size<h.size/\Part σ.size h σ.size n j s ms/\∀m∈ms,dN h m .i64 .b []) (λt _=>2*n+1-t.toNat)
  ⟨0,⟨none,0,0⟩,[],rfl,by simp;omega,Ext.push _ _ _,by simp,⟨rfl,rfl,bW.push _ _ _,Own.nil _ _ _,by simp,by simp⟩,by simp⟩ ?_
 rintro t h ⟨j,s,ms,rfl,G,P,hsz,d,y⟩;have hj:j<=11:=by
  apply Classical.byContradiction;intro hc;have:2^12<=2^j:=pA aB O;omega
 have W:=kY j;refine cH (λaa=>?_) (λB=>?_)
 ·refine aG ?_;rw[add_lit,zG];refine ox d.OY ?_;have E:=Hy h (.map #[] 0);have X:(h.push (.map #[] 0)).size=h.size+1:=by simp
  have C:=d.bK E;refine C.step (m:=h.size) O O rfl O O O (λw=>by have:=(d.new _ w).2.2;omega) (λu=>by have:=(d.own.jR u).2;omega) O O λZ h' K hl u r=>?_;refine aG (u.Pu aA λh2 z L=>?_);have D:=r h2 z L;have A:bO σ h2:=by
   refine Ext.fresh (Ext.fresh (P.trans E) K λi J=>(d.own.jR J).1.1) (Ext.eR (F:=(· = σ.size)) z rfl) λi J=>?_;rw[J];exact zC _
  refine bZ (m:=2^(j+1)) (by rw[ns];omega) (by rw[ns];omega) ⟨⟨j+1,Z,ms++[h.size],rfl,by rw[ns];omega,A,?_,D,?_⟩,by rw[ns];omega⟩
  ·have:=z.1;have:=K.1;omega
  ·intro m w;have pC:∀{m:Nat},dN (h.push (.map #[] 0)) m .i64 .b []->¬HP s m->m≠σ.size->dN h2 m .i64 .b []:=λQ Y H=>HO z (K.gN Q Y) H;rcases zP.1 w with g|g
   ·exact pC (E.gN (y m g) id) (λu=>(d.own.jR u).1.2.2 g) (d.new m g).2.1
   ·simp at g;subst g;exact pC (dN.push _ _ _) (λu=>by have:=(d.own.jR u).2;omega) O
 ·have p:0<j:=by
   rcases xi j with e|e
   ·subst e;simp at B;omega
   ·exact e
  obtain⟨sb,U,V⟩:=d.done (S:=iN) (zC _) p M N G O (λx hx=>by simp[iN]at hx) λk m w=>⟨[],y m (zE w),Whc k⟩;exact hR n rfl M N h sb ms P U V
end Go.Bu
namespace Go.Proofs
open Go.Vc
set_option maxRecDepth 100000
def X4.h:Hn:=.q .o6 (.q (.q .o3 (.c (.q .o6 .l) .l)) (.q .o5 (.q (.q .o6 (.k (.loop [(8,.I),(9,.I),(10,.I),(11,.I),(28,.I)] (.q .o1 (.q (.c .l .l) (.q (.k (.q .o6 (.q .o7 (.q .fW (.q (.cV (.held true [] (.tk [0,1,2,3,4,5,6,7,10,11] (.all [(8,.tk [9,12,13,14] (.done))])))) (.q (.cV (.held true [] (.tk [0,1,2,3,4,5,6,7,9,10] (.all [(8,.tk [11,12,13] (.done))])))) (.q .o6 .o7))))))) .o2)))))) (.q (.q .o5 (.k (.loop [(12,.I)] (.q (.cV (.seq [.it .i64 bN,.op])) (.q (.c .l .l) (.k (.q (.cV (.seq [.it .i64 bN,.op,.op])) .o4))))))) (.q (.o 16) .l)))))
theorem X4.o {a:R2}{b:Hp}{c:Int->Int->Int->Int->Int->Int->Hp->Prop}(d:WD.c a b λd e=>If (!d) (c 0 0 0 0 0 0 e) (bE a 0 e λg=>WR [bN,bN,bN,bN,bN] (λh=>h 0 0 0 0 0 e) λi (j:Int) (k:Int) (l:Int) (m:Int) (n:Int) o=>If (n<((g.len:Nat):Int)) (Ix g.a g.len n 3 λp=>aQ p 0 o λq=>aQ p 1 o λr=>aQ p 2 o λs=>aV #[.I 0,.I 0,.I 0] 31 o λt u=>aR t 0 (.I q) u λv=>aR t 1 (.I r) v λw=>aR t 2 (.I s) w λx=>aQ t 0 x λy=>aQ t 1 x λz=>aQ t 2 x λaa=>Qw.c y z aa x λab ac ad=>bE a 5 ad λaf=>Ix af.a af.len n 1 λag=>fX ag ad λah=>X9.c ah ad λai aj=>dW aj λak=>bQ a λal=>aT ak al 6 λam=>Ix am.a am.len n 1 λan=>gT ak .p an λ(ao:R2)=>aS ak t 0 λap=>W4.c ao aj λaq ar=>And (ak ar) <| bL (((aq.len:Nat):Int)*ap) λau=>bL (j+au) λav=>dW ar λaw=>bQ a λax=>aT aw ax 5 λay=>Ix ay.a ay.len n 1 λaz=>gT aw .p az λ(a0:R2)=>aS aw t 0 λa1=>YG.c a0 ar λa2 a3=>And (aw a3) <| bL (a2*a1) λa4=>bL (k+a4) λa5=>bL (((ai.len:Nat):Int)*ab) λa6=>bL (l+a6) λa7=>aQ t 1 a3 λa8=>bL (((ai.len:Nat):Int)*a8) λa9=>bL (m+a9) λba=>bL (n+1) λbb=>i av a5 a7 ba bb a3) (bI a 7 o λbd=>sf .i64 bN bd o λbe bf=>
 WR [bN] (λbg=>bg 0 bf) λbh (bi:Int) bj=>sj .i64 bN be bj (bF a 2 bj λbl=>Zp.c bl bj λbm bn=>c j k l m bi bm bn) (λbo bp bq=>sq .i64 bN be bq λbr bs=>bL (bi+bs) λbt=>bh bt bq)))):X4.c a b c:=Wa Tryz.func74 (x:=X4.h) (R0 d)
def Ym.h:Hn:=.q .o3 (.q (.q .o3 (.c (.q .o3 .l) .l)) (.q (.q .o2 (.c (.q .o3 .l) .l)) (.q .o8 (.q (.q .o2 (.c (.q .o3 .l) .l)) (.jc [] (.q .o2 (.c (.q .o5 (.k (.loop [] (.q (.cV (.seq [.it .i64 bN,.op])) (.q (.c .l .l) (.k (.q (.cV (.seq [.it .i64 bN,.op,.op,.op,.op])) (.q .o3 (.q (.cV (.seq [.op,.op,.op,.op,.dA true 5 (RI.ops 5)])) (.c (.q .o5 .l) .l)))))))))) .l)) (.q (.o 15) (.q (.q .o2 (.c (.q .o4 .l) .l)) (.q .o6 .l))))))))
theorem Ym.o {a:R2}{b:Int}{c:Hp}{d:Int->Int->Int->Hp->Prop}(e:WD.c a c λe f=>If (!e) (d 0 0 5 f) (If (b<0) (d 0 0 8 f) (bF a 4 f λh=>Nz 256<|bL (b.tdiv 256) λi=>Zq.c h i f λj k=>If (j==0) (d 0 0 8 k) (Jn [] (λl=>bE a 5 l λn=>bL (j-1) λo=>Ix n.a n.len o 1 λp=>fX p l λq=>YE.c q b l λr s t=>If (s != 0) (d 0 0 s t) (bL (j-1) λu=>d u r 0 t)) λv=>If (j==41) (bI a 7 k λx=>sf .i64 bN x k λy z=>WR [] (λaa=>aa z) λab ac=>sj .i64 bN y ac (v ac) (λad ae af=>sq .i64 bN y af λag ah=>Nz 256<|bL (b.tdiv 256) λai=>bY (λaj ak=>If aj (bL (ag*256) λal=>d (-1) al 0 ak) (ab ak)) λam=>If (ag<=ai) (bL (ag+ah) λan=>am (decide (ai<an)) af) (am false af))) (v k))))):Ym.c a b c d:=Wa Tryz.func76 (x:=Ym.h) (R0 e)
def WD.h:Hn:=.q .o1 (.q (.cV (.seq [.op,.op,.op,.dA true 5 (RI.ops 5),.op])) .l)
theorem WD.o {a:R2}{b:Hp}{c:aO}(d:bY (λd e=>c d e) λf=>If (!a.isNone) (bF a 1 b λh=>f (!h.isNone) b) (f false b)):WD.c a b c:=Wa Tryz.func106 (x:=WD.h) (R0 d)
def Zc.h:Hn:=.q .o1 (.q (.cV (.seq [.op,.op,.op,.dA true 7 (RI.ops 7),.op])) .l)
theorem Zc.o {a:R2}{b:Int}{c:Hp}{d:aO}(e:WD.c a c λe f=>bY (λg h=>d g h) λi=>If e (bF a 3 f λk=>Ya.c k b f λl m=>i (decide (l>0)) m) (i false f)):Zc.c a b c d:=Wa Tryz.func113 (x:=Zc.h) (R0 e)
def Q6.h:Hn:=.q .o2 (.q (.q .o3 .aJ) (.q .o3 (.q (.q (.cV (.seq [.op,.op,.op,.dA false 3 (RI.ops 3),.op,.dA false 2 [.op,.op],.op,.dA false 2 [.op,.op]])) .aJ) (.q .o8 (.q .o9 (.q .o9 (.q (.q .o3 (.k (.loop [(61,.I)] (.q .o1 (.q (.c .l .l) (.q (.k (.q .o4 (.q .o7 (.q .o9 (.cV (.ic true [18,21] [] (.tk [0,1,2,3,4,5,6,9,10,11,12,13] (.all [(7,.all [(8,.all [(14,.all [(15,.take 16 (.take 17 (.all [(18,.take 19 (.take 20 (.all [(21,.done)])))])))])]),(14,.all [(8,.all [(15,.take 16 (.take 17 (.all [(18,.take 19 (.take 20 (.all [(21,.done)])))])))])])]),(14,.all [(7,.all [(8,.all [(15,.take 16 (.take 17 (.all [(18,.take 19 (.take 20 (.all [(21,.done)])))])))])])])])))))))) .o2)))))) (.q .o3 .l))))))))
theorem Q6.o {a:Sl}{b:R2}{c:Int}{d:Hp}{e:Option Addr->Int->Hp->Prop}(f:ZK.c a d λf g=>If (!f) (e none 2 g) (Xu.c b g λh i=>bY (λj k=>bY (λl m=>bY (λn o=>If n (e none 1 o) (Wc.c a o λp q=>Qm.c q λr s=>Nw (.map #[] 0) s λt u=>aV #[.slice p.a p.len p.cap,.pointer b,.pointer none,.pointer none,.pointer r,.slice none 0 0,.slice none 0 0,.map (some t.block)] 177 u λv w=>Q7.c h w λx y z=>bQ (some v) λaa=>aR aa 2 (.pointer x) z λab=>KE.c h ab λac ad ae=>bQ (some v) λaf=>aR af 3 (.pointer ac) ae λag=>WR [bN] (λah=>ah 0 ag) λai (aj:Int) ak=>If (aj<((a.len:Nat):Int)) (Ix a.a a.len aj 3 λal=>aQ al 0 ak λam=>aQ al 1 ak λan=>aQ al 2 ak λao=>aV #[.I 0,.I 0,.I 0] 31 ak λap aq=>aR ap 0 (.I am) aq λar=>aR ap 1 (.I an) ar λau=>aR ap 2 (.I ao) au λav=>aQ ap 0 av λaw=>aQ ap 1 av λax=>aQ ap 2 av λay=>Qi.c aw ax ay av λaz a0 a1=>aQ ap 2 a1 λa2=>Z4.c a2 c a1 λa3 a4 a5=>Jn [] (λa6=>bL (aj+1) λa7=>ai a7 a6) λa8=>dW a5 λa9=>bQ (some v) λba=>aT a9 ba 5 λbb=>bQ (some v) λbc=>aT a9 bc 6 λbd=>(aV #[.pointer az] 178 a5 λbe bf=>And (a9 bf) <| (App bb 1 8 178 [.pointer none] ⟨some be,1,1⟩ bf λbg bh=>And (a9 bh) <| aV #[.pointer a3] 180 bh λbi bj=>And (a9 bj) <| App bd 1 8 180 [.pointer none] ⟨some bi,1,1⟩ bj λbk bl=>And (a9 bl) <|
 bQ (some v) λbm=>aR bm 5 (.slice bg.a bg.len bg.cap) bl λbn=>bQ (some v) λbo=>aR bo 6 (.slice bk.a bk.len bk.cap) bn λbp=>a8 bp) ∧ (aV #[.pointer a3] 180 bf λbq br=>And (a9 br) <| App bb 1 8 178 [.pointer none] ⟨some be,1,1⟩ br λbs bt=>And (a9 bt) <| App bd 1 8 180 [.pointer none] ⟨some bq,1,1⟩ bt λbu bv=>And (a9 bv) <| bQ (some v) λbw=>aR bw 5 (.slice bs.a bs.len bs.cap) bv λbx=>bQ (some v) λbz=>aR bz 6 (.slice bu.a bu.len bu.cap) bx λb0=>a8 b0)) ∧ (aV #[.pointer a3] 180 a5 λb1 b2=>And (a9 b2) <| aV #[.pointer az] 178 b2 λb3 b4=>And (a9 b4) <| App bb 1 8 178 [.pointer none] ⟨some b3,1,1⟩ b4 λb5 b6=>And (a9 b6) <| App bd 1 8 180 [.pointer none] ⟨some b1,1,1⟩ b6 λb7 b8=>And (a9 b8) <| bQ (some v) λb9=>aR b9 5 (.slice b5.a b5.len b5.cap) b8 λca=>bQ (some v) λcb=>aR cb 6 (.slice b7.a b7.len b7.cap) ca λcc=>a8 cc)) (e (some v) 0 ak))) λcd=>If l (cd true m) (cd (decide (c>8)) m)) λce=>If j (ce true k) (ce (decide (c<0)) k)) λcf=>If (h<32) (cf true i) (Nz 16 <| cf ((h.tmod 16) != 0) i))):Q6.c a b c d e:=Wa Tryz.func125 (x:=Q6.h) (R0 f)
def Xg.h:Hn:=.q .o2 (.q (.k (.q .o4 (.c .aL (.q .o3 .aJ)))) (.q (.q .o6 (.k (.loop [(28,.I)] (.q .o1 (.q (.c .l .l) (.q (.k (.q .o3 .o4)) .o2)))))) (.q (.o 11) (.q (.q .o2 (.c (.q .o3 .l) .l)) (.q .o1 (.q (.cV (.tail 10 (RI.ops 10) [.op,.op])) (.q (.q .o3 (.k (.loop [(10,.I),(62,.I)] (.q .o1 (.q (.c .l .l) (.q (.k (.q .o4 (.q (.q .o3 (.k (.loop [(68,.I)] (.q .o1 (.q (.c .l .l) (.q (.k (.q .o3 .o6)) .o2)))))) .o5))) .o2)))))) (.q .o3 .l))))))))
theorem Xg.o {a:R2}{b:Int}{c:Hp}{d:Int->Int->Hp->Prop}(e:WD.c a c λe f=>If (!e) (d 0 5 f) (If (b<0) (d 0 1 f) (bE a 5 f λh=>WR [bN] (λi=>i 0 f) λj (k:Int) l=>If (k<((h.len:Nat):Int)) (Ix h.a h.len k 1 λm=>fX m l λn=>W0.c n l λo p=>Xe.c a o p λq=>bL (k+1) λr=>j r q) (bF a 3 l λt=>YB.c t b l λu v w=>If (v != 0) (d 0 v w) (bQ a λx=>aY x 3 w λy=>bF a 1 w λaa=>Nw (.cells #[.func (.func 192) #[.pointer y] #[],.func (.func 193) #[.pointer aa] #[]] 54 (0,0)) w λab ac=>WR [bN,bN] (λad=>ad 0 0 ac) λae (af:Int) (ag:Int) ah=>If (ag<((u.len:Nat):Int)) (Ix u.a u.len ag 2 λai=>aQ ai 0 ah λaj=>aQ ai 1 ah λak=>aV #[.I 0,.I 0] 92 ah λal am=>aR al 0 (.I aj) am λan=>aR al 1 (.I ak) an λao=>WR [bN] (λap=>ap 0 ao) λaq (ar:Int) au=>If (ar<((2:Nat):Int)) (Ix (some ab) 2 ar 1 λav=>B9 av au λaw=>aQ al 0 au λax=>aQ al 1 au λay=>V1 Tryz.prog aw [.I ax,.I ay] [.I] au λaz a0=>bL (ar+1) λa1=>aq a1 a0) (aQ al 1 au λa2=>bL (af+a2) λa3=>bL (ag+1) λa4=>ae a3 a4 au)) (d af 0 ah)))))):Xg.c a b c d:=Wa Tryz.func134 (x:=Xg.h) (R0 e)
def Yw.h:Hn:=.q .o1 (.q (.q .o3 .aK) (.q .o6 (.q (.q .o3 (.k (.loop [(16,.I)] (.q .o1 (.q (.c .l .l) (.q (.k (.q .o3 (.q .o6 (.q .o7 .o7)))) .o2)))))) (.q .o3 .l))))
theorem Yw.o {a:R2}{b:Hp}{c:aN}(d:WD.c a b λd e=>If (!d) (c 0 e) (bF a 3 e λg=>YC.c g e λh i=>WR [bN] (λj=>j 0 i) λk (l:Int) m=>If (l<((h.len:Nat):Int)) (Ix h.a h.len l 1 λn=>bM n m λo=>bF a 3 m λq=>Xh.c q o m λr s=>bF a 2 s λu=>bL (o*16) λv=>XA.c u v 16 s λw x=>bF a 1 x λz=>bL (o*16) λaa=>YJ.c z aa 16 x λab ac=>bL (l+1) λad=>k ad ac) (c ((h.len:Nat):Int) m))):Yw.c a b c:=Wa Tryz.func135 (x:=Yw.h) (R0 d)
def Zd.h:Hn:=.q (.q .o3 (.c .l .l)) (.q .o6 (.k (.loop [(14,.I)] (.q .o1 (.q (.c .l .l) (.q (.k (.q .o5 (.q .o4 (.k (.loop [(22,.I)] (.q .o1 (.q (.c .l .l) (.q (.k (.q .o3 .o4)) .o2)))))))) .o2))))))
theorem Zd.o {a:R2}{b:Hp}{c:aP}(d:WD.c a b λd e=>If (!d) (c e) (bE a 6 e λg=>WR [bN] (λh=>h 0 e) λi (j:Int) k=>If (j<((g.len:Nat):Int)) (Ix g.a g.len j 1 λl=>fX l k λm=>Xj.c m k λn o=>WR [bN] (λp=>p 0 o) λq (r:Int) s=>If (r<((n.len:Nat):Int)) (Ix n.a n.len r 1 λt=>jB t s λu=>WC.c a j u s λv w=>bL (r+1) λx=>q x w) (bL (j+1) λy=>i y s)) (c k))):Zd.c a b c:=Wa Tryz.func136 (x:=Zd.h) (R0 d)
def WA.h:Hn:=.q .o2 (.q (.q .o4 (.q .o2 (.c (.q .o3 .l) .l))) (.q (.o 12) .l))
theorem WA.o {a:R2}{b:Int}{c:Hp}{d:Sl->Int->Hp->Prop}(e:WX.c a b c λe f=>If (e != 0) (d ⟨none,0,0⟩ e f) (bE a 6 f λh=>Ix h.a h.len b 1 λi=>fX i f λj=>Wz.c j f λk l m=>d k l m)):WA.c a b c d:=Wa Tryz.func174 (x:=WA.h) (R0 e)
def WE.h:Hn:=.q .o2 (.q (.q .o4 (.q .o2 (.c (.q .o3 .l) .l))) (.q (.o 13) .l))
theorem WE.o {a:R2}{b c:Int}{d:Hp}{e:Sl->Int->Hp->Prop}(f:WX.c a b d λf g=>If (f != 0) (e ⟨none,0,0⟩ f g) (bQ a λh=>aX h 5 g λi=>Ix i.a i.len b 1 λj=>fX j g λk=>Xd.c k c g λl m n=>e l m n)):WE.c a b c d e:=Wa Tryz.func176 (x:=WE.h) (R0 f)
def Yn.h:Hn:=.q .o1 (.q (.q .o4 (.q .o2 .aJ)) (.q (.o 17) (.q (.q .o2 .aJ) (.q .fW .l))))
theorem Yn.o {a:R2}{b:Int}{c:Hp}{d:aN}(e:WX.c a b c λe f=>If (e != 0) (d e f) (bE a 0 f λh=>Ix h.a h.len b 3 λi=>aQ i 1 f λj=>bL (b+1) λk=>YV.c a j 1 k f λl m n=>If (m != 0) (d m n) (bQ a λo=>aX o 5 n λp=>Ix p.a p.len b 1 λq=>fX q n λr=>Zg.c r l n λs t=>d s t))):Yn.c a b c d:=Wa Tryz.func177 (x:=Yn.h) (R0 e)
def WT.h:Hn:=.q .o2 (.q (.k (.q .o4 (.c .aL (.q (.cV (.seq [.op,.op,.op,.dA false 2 [.op,.op],.op,.dA false 2 [.op,.op],.op,.dA false 2 [.op,.op],.op,.dA false 5 (RI.ops 5),.op])) .aJ)))) (.q .o9 (.q (.q .o2 (.c (.q .o3 .l) .l)) (.q .o7 (.q .o3 .l)))))
theorem WT.o {a:R2}{b c:Int}{d:Hp}{e:Int->Int->Hp->Prop}(f:WD.c a d λf g=>If (!f) (e 0 5 g) (bY (λh i=>bY (λj k=>bY (λl m=>bY (λn o=>If n (e 0 1 o) (YV.c a b c 41 o λp q r=>If (q != 0) (e 0 q r) (bI a 7 r λt=>ld .i64 bN t p b r λu=>e p 0 u))) λv=>If l (v true m) (bL (c-1) λw=>v ((bits .and .i64 c w) != 0) m)) λx=>If j (x true k) (x (decide (c>16)) k)) λy=>If h (y true i) (y (decide (c<1)) i)) λz=>If (b<1) (z true g) (z (decide (b>64)) g))):WT.c a b c d e:=Wa Tryz.func179 (x:=WT.h) (R0 f)
def WU.h:Hn:=.q .o1 (.q (.q .o3 .aK) (.q (.o 11) (.q (.q .o2 .aK) (.q .o6 (.q .o6 .aM)))))
theorem WU.o {a:R2}{b:Int}{c:Hp}{d:aN}(e:WD.c a c λe f=>If (!e) (d 5 f) (bI a 7 f λh=>Lk .i64 bN h b f λi=>If (!i.isSome) (d 8 f) (bI a 7 f λk=>mL .i64 bN k b f λl=>aV #[.I b,.I (i.getD 0)] 92 l λm n=>Xe.c a ⟨some m,1,1⟩ n λo=>d 0 o))):WU.c a b c d:=Wa Tryz.func187 (x:=WU.h) (R0 e)
def Xe.h:Hn:=.q .o3 (.k (.loop [(8,.I)] (.q .o1 (.q (.c .l .l) (.q (.k (.q .o4 (.q (.cV (.tail 8 (RI.ops 8) [.op])) (.q (.cV (.tail 8 (RI.ops 8) [.op])) (.cV (.tail 8 (RI.ops 8) [.op])))))) .o2)))))
theorem Xe.o {a:R2}{b:Sl}{c:Hp}{d:aP}(e:WR [bN] (λe=>e 0 c) λf (g:Int) h=>If (g<((b.len:Nat):Int)) (Ix b.a b.len g 2 λi=>aQ i 0 h λj=>aQ i 1 h λk=>aV #[.I 0,.I 0] 92 h λl m=>aR l 0 (.I j) m λn=>aR l 1 (.I k) n λo=>bF a 4 o λq=>aQ l 0 o λr=>aQ l 1 o λs=>XY.c q r s o λt u=>bF a 3 u λw=>aQ l 0 u λx=>aQ l 1 u λy=>XG.c w x y u λz aa=>bF a 2 aa λac=>aQ l 0 aa λad=>aQ l 1 aa λae=>Ys.c ac ad ae aa λaf ag=>bL (g+1) λah=>f ah ag) (d h)):Xe.c a b c d:=Wa Tryz.func189 (x:=Xe.h) (R0 e)
def WC.h:Hn:=.q .o1 (.q (.q .o4 (.q .o2 .aJ)) (.q (.o 14) (.q (.q .o2 .aJ) (.q .o3 .aM))))
theorem WC.o {a:R2}{b:Int}{c:Sl}{d:Hp}{e:aN}(f:WX.c a b d λf g=>If (f != 0) (e f g) (bQ a λh=>aX h 5 g λi=>Ix i.a i.len b 1 λj=>fX j g λk=>Y9.c k c g λl m n=>If (m != 0) (e m n) (Xe.c a l n λo=>e 0 o))):WC.c a b c d e:=Wa Tryz.func199 (x:=WC.h) (R0 f)
def WX.h:Hn:=.q .o1 (.q (.k (.q .o4 (.c .aM (.q (.cV (.seq [.op,.op,.op,.dA false 7 (RI.ops 7),.op])) .aK)))) .aM)
theorem WX.o {a:R2}{b:Int}{c:Hp}{d:aN}(e:WD.c a c λe f=>If (!e) (d 5 f) (bY (λg h=>If g (d 1 h) (d 0 h)) λi=>If (b<0) (i true f) (bE a 0 f λk=>i (decide (b≥((k.len:Nat):Int))) f))):WX.c a b c d:=Wa Tryz.func212 (x:=WX.h) (R0 e)
def YV.h:Hn:=.q .o2 (.q (.o 12) (.jc [(10,.I),(11,.I)] (.q .o2 (.c (.q .o1 (.q (.k (.loop [(12,.I)] (.q (.q .o5 (.c .l .l)) (.k .o3)))) (.q (.q .o4 .aJ) (.o 12)))) .l)) (.q (.q .o2 (.c (.q .o3 .l) .l)) (.q .o7 (.q .o8 (.q .o3 .l))))))
theorem YV.o {a:R2}{b c d:Int}{e:Hp}{f:Int->Int->Hp->Prop}(g:bQ a λg=>aY g 2 e λh=>XS.c h b c e λi j k=>Jn [bN,bN] (λ(l:Int) (m:Int) n=>If (m != 0) (f 0 m n) (bQ a λo=>aY o 3 n λp=>XP.c p l b n λq r=>bF a 4 r λt=>Yu.c t l b d r λu v=>f l 0 v)) λw=>If (j==6) (WR [bN] (λx=>x 16 k) λy (z:Int) aa=>If (z<(if c>b then c else b)) (bL (z*2) λab=>y ab aa) (Za.c a z aa λac ad=>If (!ac) (f 0 6 ad) (bF a 2 ad λaf=>XS.c af b c ad λag ah ai=>w ag ah ai))) (w i j k)):YV.c a b c d e f:=Wa Tryz.func215 (x:=YV.h) (R0 g)
def WK.h:Hn:=.q .o2 (.q (.q .o4 (.q .o2 (.c (.q .o3 .l) .l))) (.q (.q (.o 11) .aJ) (.q (.q .o3 (.k (.loop [(32,.I)] (.q .o1 (.q (.c .l .l) (.q (.k (.q .o3 (.q (.o 14) (.q (.cV (.seq [.op,.op,.op,.dA false 2 [.op,.op]])) .aJ)))) .o2)))))) (.q (.o 13) .l))))
theorem WK.o {a:R2}{b:Int}{c:Sl}{d:Hp}{e:Bool->Int->Hp->Prop}(f:WX.c a b d λf g=>If (f != 0) (e false f g) (bQ a λh=>aX h 0 g λi=>Ix i.a i.len b 3 λj=>aQ j 2 g λk=>If (((c.len:Nat):Int) != k) (e false 1 g) (WR [bN] (λl=>l 0 g) λm (n:Int) o=>If (n<((c.len:Nat):Int)) (Ix c.a c.len n 1 λp=>bM p o λq=>bE a 5 o λs=>Ix s.a s.len b 1 λt=>fX t o λu=>W8.c u q o λv w x=>bY (λy z=>If y (e false 8 z) (bL (n+1) λaa=>m aa z)) λab=>If (w != 0) (ab true x) (ab (!v) x)) (bE a 6 o λad=>Ix ad.a ad.len b 1 λae=>fX ae o λaf=>Xb.c af c o λag ah ai=>e ag ah ai)))):WK.c a b c d e:=Wa Tryz.func222 (x:=WK.h) (R0 f)
def Za.h:Hn:=.q .o1 (.q (.q .o2 (.k (.loop [(5,.I)] (.q (.q .o9 (.c .l .l)) (.q (.k (.q (.q .o8 (.c .l .l)) (.q (.q .o3 (.k (.loop [(6,.I)] (.q (.q .o6 (.c .l .l)) (.q (.k .o6) .o3))))) (.q .o7 .aM)))) .o4))))) .aM)
theorem Za.o {a:R2}{b:Int}{c:Hp}{d:aO}(e:WR [bN] (λe=>e b c) λf (g:Int) h=>bL (g+b) λi=>bF a 1 h λk=>Xu.c k h λl m=>If (i<=l) (bF a 1 m λo=>Zr.c o g b m λp q=>If (p != 0) (bL (g+b) λr=>f r q) (Nz 16<|bL (g.tdiv 16) λs=>WR [bN] (λt=>t s q) λu (v:Int) w=>bL (g+b) λx=>Nz 16<|bL (x.tdiv 16) λy=>If (v<y) (bF a 3 w λaa=>Yv.c aa v w λab ac=>bL (v+1) λad=>u ad ac) (bF a 2 w λaf=>Ys.c af g b w λag ah=>d true ah))) (d false m)):Za.c a b c d:=Wa Tryz.func253 (x:=Za.h) (R0 e)
end Go.Proofs
namespace Go.Ar
open Go Go.Vc Go.Proofs
open Go.Bu (Zi QR Zz iX)
inductive Lb where
 | hd|dF|free|m4|own|dH|cM|runs
 | cC (k:Nat)
 | cE (k:Nat)
 deriving DecidableEq
structure Lay where
 p:Nat
 hs:Nat
 fr:Nat
 tr:Nat
 op:Nat
 rn:Nat
 dF:Sl
 dH:Sl
 cM:Sl
 fJ:List Nat
 gC:List Nat
def lq (Y:Lay):List Value:=[.slice Y.dF.a Y.dF.len Y.dF.cap,.pointer (some ⟨Y.hs,0,none⟩),.pointer (some ⟨Y.fr,0,none⟩),.pointer (some ⟨Y.tr,0,none⟩),.pointer (some ⟨Y.op,0,none⟩),.slice Y.dH.a Y.dH.len Y.dH.cap,.slice Y.cM.a Y.cM.len Y.cM.cap,.map (some Y.rn)]
def gp (tb:List bX):List Value:=tb.flatMap λc=>[.int .i64 (c.size:Int),.int .i64 (c.aF:Int),.int .i64 (c.batch:Int)]
def eY (l:List Nat):List Value:=l.map λb=>.pointer (some ⟨b,0,none⟩)
def iB (l:List (Nat×Nat)):List (Int×Int):=l.map λr=>((r.1:Int),(r.2:Int))
def uq (p n:Nat)(S:Nat->Bool):Hp->Rg->Prop:=λσ F=>∃sb ms,Go.Bu.BH σ p n S sb ms/\∀b,Go.Bu.fp p sb ms b->F b
def nG (p:Nat)(st:List Nat):Hp->Rg->Prop:=λσ F=>∃q,gI σ p q st/\F p/\F q
def kx (p:Option Nat)(c:Option bX)(ss:Option (List cI)):Hp->Rg->Prop:=λσ F=>match p,c,ss with
 | some p,some c,some ss=>∃ps,fC σ F p c ps ss
 | _,_,_=>True
def lJ (p:Option Nat)(c:Option bX)(room:Nat)(t:Option fU):Hp->Rg->Prop:=λσ F=>match p,c,t with
 | some p,some c,some t=>iA σ F p c.batch room t
 | _,_,_=>True
def AC (A:AR)(Y:Lay)(T:Nat->Hp->Rg->Prop):Lb->Hp->Rg->Prop
 | .hd=>iH Y.p (lq Y)
 | .dF=>cP Y.dF 3 (gp A.tb)
 | .free=>uq Y.fr A.n A.S
 | .m4=>nG Y.tr A.st
 | .own=>λσ F=>jH σ F Y.op A.ow
 | .dH=>bR Y.dH 1 (eY Y.fJ)
 | .cM=>bR Y.cM 1 (eY Y.gC)
 | .runs=>ka Y.rn .i64 bN (iB A.runs)
 | .cC k=>kx Y.fJ[k]? A.tb[k]? A.cC[k]?
 | .cE k=>T k
def cG (A:AR)(Y:Lay)(k:Nat):Hp->Rg->Prop:=lJ Y.gC[k]? A.tb[k]? A.room A.cE[k]?
theorem uq.loc (p n:Nat)(S:Nat->Bool):dR (uq p n S):=by
 rintro σ σ' F G ⟨d,j,h,r⟩ x s;have m:∀b,Go.Bu.fp p d j b->b<σ.size:=λb a=>by
  unfold Go.Bu.fp at a;rcases zT.1 a with h1|h1
  ·obtain⟨c,g⟩:=h.hd;rw[h1];exact g.lt
  rcases zT.1 h1 with h2|h2
  ·obtain⟨c,g⟩:=h.row;rw[h2];exact g.lt
  ·obtain⟨k,u⟩:=zL h2;obtain⟨B,w,_⟩:=h.maps k b u;exact w.lt
 have e:Ext (λb=>¬Go.Bu.fp p d j b) σ σ':=⟨x,λb a i=>(s b a (r b (Classical.not_not.1 i))).2⟩;exact⟨d,j,h.bU e λb a y=>y a,λb a=>(s b (m b a) (r b a)).1⟩
theorem nG.loc (p:Nat)(st:List Nat):dR (nG p st):=by
 rintro σ σ' F G ⟨q,h,j,i⟩ s a;have e:Ext (λb=>b≠p/\b≠q) σ σ':=⟨s,λb m r=>by
  by_cases h1:b=p
  ·subst h1;exact(a b m j).2
  ·have g:b=q:=Classical.byContradiction λg=>r ⟨h1,g⟩;subst g;exact(a b m i).2⟩
 exact⟨q,h.bU e (λd=>d.1 rfl) (λd=>d.2 rfl),(a p h.lt.1 j).1,(a q h.lt.2 i).1⟩
theorem kx.loc (p:Option Nat)(c:Option bX)(ss:Option (List cI)):dR (kx p c ss):=by
 rintro σ e F G h b d;unfold kx at *;split
 ·simp only at h;obtain⟨a,h⟩:=h;exact⟨a,fC.loc _ _ _ _ h b d⟩
 ·trivial
theorem lJ.loc (p:Option Nat)(c:Option bX)(room:Nat)(t:Option fU):dR (lJ p c room t):=by
 rintro σ d F G h b a;unfold lJ at *;split
 ·exact iA.loc _ _ _ _ h b a
 ·trivial
theorem AC.loc {A:AR}{Y:Lay}{T:Nat->Hp->Rg->Prop}(hT:∀k,dR (T k)):∀i,dR (AC A Y T i)
 | .hd=>iH.loc _ _
 | .dF=>cP.loc _ _ _
 | .free=>uq.loc _ _ _
 | .m4=>nG.loc _ _
 | .own=>jH.loc
 | .dH=>bR.loc _ _ _
 | .cM=>bR.loc _ _ _
 | .runs=>ka.loc _ _ _ _
 | .cC k=>kx.loc _ _ _
 | .cE k=>hT k
theorem cG.loc {A:AR}{Y:Lay}(k:Nat):dR (cG A Y k):=lJ.loc _ _ _ _
structure eZ (A:AR) (Y:Lay):Prop where
 c:Y.fJ.length=A.tb.length
 t:Y.gC.length=A.tb.length
 cC:A.cC.length=A.tb.length
 cE:A.cE.length=A.tb.length
 nU:1<=A.tb.length
 oS:A.tb.length<=40
 n1:32<=A.n
 n2:A.n<=1024
 n3:A.n%16=0
 st:A.st.length=A.n
 room:A.room<=8
 ok:∀c∈A.tb,c.ok
structure cX (σ:Hp) (F:Rg) (Y:Lay) (A:AR) (T:Nat->Hp->Rg->Prop):Prop where
 lay:eZ A Y
 tl:∀k,dR (T k)
 sep:Sep (AC A Y T) σ F
def AH (σ:Hp)(F:Rg)(p hs:Nat)(A:AR):Prop:=∃Y:Lay,Y.p=p/\Y.hs=hs/\cX σ F Y A (cG A Y)
variable {σ:Hp}{F:Rg}{p hs:Nat}{A:AR}{Y:Lay}{T:Nat->Hp->Rg->Prop}
theorem cX.loc:dR λσ F=>cX σ F Y A T:=λσ d F G h b a=>⟨h.lay,h.tl,Sep.loc (AC.loc h.tl) _ _ _ _ h.sep b a⟩
theorem AH.loc:dR λσ F=>AH σ F p hs A:=λσ e F G ⟨Y,a,d,h⟩ b hs=>⟨Y,a,d,cX.loc _ _ _ _ h b hs⟩
theorem cX.bK {σ':Hp}(h:cX σ F Y A T)(e:bO σ σ'):cX σ' F Y A T:=dR.bK cX.loc h e
theorem cX.hd (h:cX σ F Y A T):bW σ Y.p (lq Y):=by
 obtain⟨G,d,b,a⟩:=h.sep.get .hd;exact a
theorem KG (tb:List bX):(gp tb).length=tb.length*3:=by
 induction tb with
 | nil=>rfl
 | cons x l ih=>simp only[gp,mM,zJ,zQ,lU]at *;omega
theorem HG {tb:List bX}{i:Nat}{c:bX}(h:tb[i]?=some c):(gp tb)[3*i]?=some (.int .i64 (c.size:Int))/\(gp tb)[3*i+1]?=some (.int .i64 (c.aF:Int))/\(gp tb)[3*i+2]?=some (.int .i64 (c.batch:Int)):=by
 induction tb generalizing i with
 | nil=>simp at h
 | cons x l ih=>
  have e:gp (x::l)=[.int .i64 (x.size:Int),.int .i64 (x.aF:Int),.int .i64 (x.batch:Int)]++gp l:=by simp[gp]
  rw[e];cases i with
  | zero=>simp at h;subst h;simp
  | succ i=>
   have:=ih (i:=i) (by simpa using h);rw[show 3*(i+1)=3*i+3 by omega];simpa using this
theorem cX.oY (h:cX σ F Y A T):Y.dF.len=A.tb.length:=by
 obtain⟨G,b,a⟩:=h.sep.get .dF;have:=a.1;rw[KG]at this;omega
theorem uX {s:Sl}{tb:List bX}(h:cP s 3 (gp tb) σ F){k d:Nat}{c:bX}(hc:tb[k]?=some c)(hd:d<3){K:Int->Prop}(hK:K (if d=0 then c.size else if d=1 then c.aF else c.batch:Nat)) :
 Ix s.a s.len (k:Int) 3 λa=>eW .i64 (a.add d) σ K:=by
 have g:=HG hc;have i:(gp tb)[3*k+d]?=some (.int .i64 ((if d=0 then c.size else if d=1 then c.aF else c.batch:Nat):Int)):=by
  match d,hd with
  | 0,_=>exact g.1
  | 1,_=>exact g.2.1
  | 2,_=>exact g.2.2
 have p:=(cS.1 hc).1;obtain⟨b,o,j,e⟩:=h.cell i;have m:=h.1;rw[KG]at m;rw[j];refine ix O O ?_;rw[add_lit,add_lit];refine nV ?_ hK;rw[show o+(k:Int).toNat*3+d=o+(3*k+d) by omega];exact e
theorem cX.xQ (h:cX σ F Y A T){k d:Nat}{c:bX}(hc:A.tb[k]?=some c)(hd:d<3){K:Int->Prop}(hK:K (if d=0 then c.size else if d=1 then c.aF else c.batch:Nat)) :
 Ix Y.dF.a Y.dF.len (k:Int) 3 λa=>eW .i64 (a.add d) σ K:=by
 obtain⟨G,e,b⟩:=h.sep.get .dF;exact uX b hc hd hK
theorem Ck {s:Sl}{l:List Nat}(h:cP s 1 (eY l) σ F){k q:Nat}(hq:l[k]?=some q){K:Option Addr->Prop}(hK:K (some ⟨q,0,none⟩)):Ix s.a s.len (k:Int) 1 λa=>fX a σ K:=by
 have i:=(cS.1 hq).1;obtain⟨b,o,e,d⟩:=h.cell (j:=k) (v:=.pointer (some ⟨q,0,none⟩)) (by simp[eY,hq]);have g:=h.1;simp[eY]at g;rw[e];refine ix O O ?_;rw[add_lit];exact tD (by rw[show o+(k:Int).toNat*1=o+k by omega];exact d) hK
theorem cX.wK (h:cX σ F Y A T):Y.dH.len=A.tb.length:=by
 obtain⟨G,b,a⟩:=h.sep.get .dH;have:=a.1;have:=h.lay.c;simp[eY]at *;omega
theorem cX.jA (h:cX σ F Y A T):Y.cM.len=A.tb.length:=by
 obtain⟨G,b,a⟩:=h.sep.get .cM;have:=a.1;have:=h.lay.t;simp[eY]at *;omega
theorem cX.kq (h:cX σ F Y A T){k q:Nat}(hq:Y.fJ[k]?=some q){K:Option Addr->Prop}(hK:K (some ⟨q,0,none⟩)):Ix Y.dH.a Y.dH.len (k:Int) 1 λa=>fX a σ K:=by
 obtain⟨G,d,b⟩:=h.sep.get .dH;exact Ck (bR.fP b) hq hK
theorem cX.p7 (h:cX σ F Y A T){k q:Nat}(hq:Y.gC[k]?=some q){K:Option Addr->Prop}(hK:K (some ⟨q,0,none⟩)):Ix Y.cM.a Y.cM.len (k:Int) 1 λa=>fX a σ K:=by
 obtain⟨G,d,b⟩:=h.sep.get .cM;exact Ck (bR.fP b) hq hK
theorem cX.at_ (h:cX σ F Y A T){k:Nat}(hk:k<A.tb.length):∃c ss q t r,A.tb[k]?=some c/\A.cC[k]?=some ss/\Y.fJ[k]?=some q/\A.cE[k]?=some t/\Y.gC[k]?=some r/\c.ok:=by
 have b:=h.lay.c;have a:=h.lay.t;have d:=h.lay.cC;have e:=h.lay.cE;exact⟨A.tb[k],A.cC[k],Y.fJ[k],A.cE[k],Y.gC[k],by simp,by simp,by simp,by simp,by simp,h.lay.ok _ (zd hk)⟩
theorem ES {k q:Nat}{c:bX}{ss:List cI}{G:Rg}(h1:Y.fJ[k]?=some q)(h2:A.tb[k]?=some c)(h3:A.cC[k]?=some ss)(h:AC A Y T (.cC k) σ G):∃ps,fC σ G q c ps ss:=by
 simp only[AC]at h;rw[h1,h2,h3]at h;exact h
theorem cX.cC (h:cX σ F Y A T){k q:Nat}{c:bX}{ss:List cI}(h1:Y.fJ[k]?=some q)(h2:A.tb[k]?=some c)(h3:A.cC[k]?=some ss):∃G ps,(∀b,G b->F b)/\fC σ G q c ps ss:=by
 obtain⟨G,e,d⟩:=h.sep.get (.cC k);obtain⟨ps,a⟩:=ES h1 h2 h3 d;exact⟨G,ps,e,a⟩
theorem Vd (h:cX σ F Y A T){R:aO}(hR:R true σ):WD.c (aW Y.p) σ R:=by
 refine WD.o ?_;exact bY.intro (cJ rfl (aG (h.hd.rP rfl hR)))
theorem UJ (h:cX σ F Y A T)(k:Int){R:aN}(h1:A.ck k=false->R 1 σ)(h0:∀x:Nat,k=x->x<A.tb.length->R 0 σ):WX.c (aW Y.p) k σ R:=by
 refine WX.o ?_;have g:=h.oY;have a:¬(0<=k/\k<A.tb.length)->R 1 σ:=λd=>h1 (by unfold AR.ck;rw[←vB];exact zb d);refine Vd h (cF rfl (bY.intro (cH (λe=>cJ rfl (a O)) λe=>aG (h.hd.rS rfl (cH (λb=>?_) λb=>?_)))))
 ·simp only at b;exact a O
 ·simp only at b;exact h0 k.toNat O O
theorem Tw (h:cX σ F Y A T)(x:Int){R:aO}(hR:R (UZ A x) σ):Zc.c (aW Y.p) x σ R:=by
 refine Zc.o ?_;obtain⟨G,b,q,a,_⟩:=h.sep.get .m4;refine Vd h (bY.intro (cJ rfl (aG (h.hd.rP rfl (Rb a x ?_)))));have:decide (yU A.st x>0)=UZ A x:=by
  unfold yU UZ;by_cases hx:0<=x
  ·by_cases hl:x<A.st.length
   ·rw[zB ⟨hx,hl⟩,zU hx,r8,decide_eq_decide];omega
   ·rw[zA O,zU hx,r8,zN,zX O];rfl
  ·rw[zA O,zb hx];rfl
 rw[this];exact hR
structure iO (A:AR):Prop where
 uD:∀r∈A.runs,∀s∈A.runs,∀x,r.1<=x->x<r.1+r.2->s.1<=x->x<s.1+s.2->r=s
 Ad:∀x,x<1024->A.ow x=41->(sC A x).isSome=true
 cls:∀x,x<1024->A.ow x≠0->A.ow x≠41->A.ow x<=A.tb.length
 fit:∀r∈A.runs,r.1+r.2<=1024
theorem HF (h:iO A){x:Nat}{r:Nat×Nat}(hr:r∈A.runs)(h1:r.1<=x)(h2:x<r.1+r.2):sC A x=some r:=by
 cases hf:sC A x with
 | none=>
  unfold sC at hf;rw[oV]at hf;have:=hf r hr;simp[h1,h2]at this
 | some s=>
  unfold sC at hf;have b:=uQ hf;have a:=tQ hf;simp at a;rw[h.uD r hr s b x h1 h2 a.1 a.2]
theorem E3 (h:cX σ F Y A T)(hr:iO A)(x:Int)(hx:iF x){R:Int->Int->Int->Hp->Prop}(h1:∀σ' k a,bO σ σ'->Uj A x=some (k,a)->R k (a:Int) 0 σ')(h0:∀σ',bO σ σ'->Uj A x=none->R 0 0 8 σ') :
 Ym.c (aW Y.p) x σ R:=by
 refine Ym.o ?_;refine Vd h (cF rfl (cH (λU=>h0 σ (Ext.refl _ _) (by unfold Uj;rw[zB U])) λU=>aG (h.hd.rP rfl (nz aB ?_))));obtain⟨y,rfl⟩:=zk (show 0<=x by omega);have hy:y<=9223372036854775807:=by unfold iF at hx;omega
 have tp:((y:Int).tdiv 256)=((y/256:Nat):Int):=by rw[Xq O];simp
 refine ar (by rw[tp];omega) (by rw[tp];omega) ?_;rw[tp];obtain⟨G,hG,hP⟩:=h.sep.get .own;refine Oy hP _ ?_;have eo:qW A.ow ((y/256:Nat):Int)=if y/256<1024 then A.ow (y/256)else 0:=by
  unfold qW;by_cases hl:y/256<1024
  ·rw[zB O,zB hl];rfl
  ·rw[zA O,zA hl]
 have g:Uj A (y:Int)=(let no:=if y/256<1024 then A.ow (y/256)else 0
  if no=0 then none else if no=41 then(sC A (y/256)).map λr=>(-1,r.1*256)else
  match A.tb[no-1]?,A.cC[no-1]? with
  | some c,some ss=>(r7 c ss (y:Int)).map λa=>(((no-1:Nat):Int),a)
  | _,_=>none):=by
  unfold Uj;rw[zA U];rfl
 rw[eo];generalize hno:(if y/256<1024 then A.ow (y/256)else 0)=no at *
 simp only at g;rw[vu];refine cN (λV=>h0 σ (Ext.refl _ _) (by rw[g,zB (by simpa using V)])) λV=>?_;have D:no≠0:=by simpa using V
 rw[zA D]at g;have C:y/256<1024:=by
  rcases mw (y/256) 1024 with h|h
  ·exact h
  ·rw[zA O]at hno;exact absurd hno.symm D
 rw[zB C]at hno;refine Jn.intro ?_;have Q:(((no:Nat):Int)==41)=(no==41):=ke no 41;rw[Q];refine cN (λc2=>?_) λc2=>?_
 ·have w:no=41:=by simpa using c2
  subst w;rw[zB rfl]at g;obtain⟨r,N⟩:=pN.1 (hr.Ad _ C hno);have j:=uQ N;have E:=tQ N;simp at E;obtain⟨G,hG,H⟩:=h.sep.get .runs;refine aG (h.hd.rM rfl ?_);refine xP H.2 (λb v=>bO σ v/\(∀z∈b,z∈iB A.runs)/\((r.1:Int),(r.2:Int))∈b) (λv hz e=>⟨e,λz hz=>hz,zD.2 ⟨r,j,rfl⟩⟩) (λv hv=>absurd hv.2.2 aA) ?_;rintro b n z v v' J ⟨e,d,B⟩ hm ho hlt2 hJ;have Z:bO σ v':=Ext.fresh e ho.ext λi hi=>by omega
  obtain⟨s,P,hse⟩:=zD.1 (d _ hm);cases hse;have hfit:=hr.fit s P;refine nz aB (ar O O ?_);refine bY.intro (cH (λc3=>ar O O (cH (λc4=>?_) λc4=>?_)) λc3=>cF rfl ?_)
  ·have hsr:=HF hr P (x:=y/256) O O;refine ar O O ?_;have:=h1 v' (-1) (s.1*256) Z (by rw[g,hsr];rfl);simpa using this
  ·refine hJ v' rfl rfl ⟨Z,λu W=>d u (zH.1 W).1,zH.2 ⟨B,?_⟩⟩;have:¬(r.1:Int)=(s.1:Int):=λe=>by
    have:=HF hr j E.1 E.2;have e1:r.1=s.1:=by omega
    by_cases h2:r.2=0
    ·omega
    by_cases h3:s.2=0
    ·have:=H.2.nodup;have K:=Vm this (zD.2 ⟨r,j,rfl⟩);have L:=Vm this (zD.2 ⟨s,P,rfl⟩);rw[e1,L]at K;have:s.2=r.2:=by
      have:(s.2:Int)=(r.2:Int):=Option.some.inj K;omega
     omega
    ·have:=hr.uD r j s P r.1 O O O O;subst this;omega
   simpa using this
  ·refine hJ v' rfl rfl ⟨Z,λu W=>d u (zH.1 W).1,zH.2 ⟨B,?_⟩⟩;have:¬(r.1:Int)=(s.1:Int):=λe=>by omega
   simpa using this
 ·have w:no≠41:=by simpa using c2
  rw[zA w]at g;have X:=hr.cls _ C (by rw[hno];exact D) (by rw[hno];exact w);rw[hno]at X;obtain⟨c,ss,q,t,r,hc,M,hq,_,_,hok⟩:=h.at_ (k:=no-1) O;obtain⟨G,ps,hG,hC⟩:=h.cC hq hc M;rw[hc,M]at g;simp only at g;refine aG (h.hd.rS rfl (bZ (m:=no-1) O (by have:=h.lay.oS;omega) (h.kq hq (OT hC _ hx (λa S=>?_) λS=>?_))))
  ·refine cF rfl (bZ (m:=no-1) O (by have:=h.lay.oS;omega) (h1 σ _ a (Ext.refl _ _) ?_));rw[g,S];rfl
  ·refine cJ rfl (h0 σ (Ext.refl _ _) ?_);rw[g,S];rfl
end Go.Ar
namespace Go.Ar
open Go Go.Vc Go.Proofs
open Go.Bu (Zi QR Zz iX)
open Classical in
theorem _root_.Go.Vc.Sep.kB {L:Type}{C:L->Hp->Rg->Prop}{σ:Hp}{F:Rg}(hC:∀i,dR (C i))(h:Sep C σ F)(i:L):∃G:Rg,(∀b,G b->F b)/\C i σ G/\(∀j,j≠i->∃H:Rg,(∀b,H b->F b)/\(∀b,H b->¬G b)/\C j σ H)/\∀(σ':Hp) (C':L->Hp->Rg->Prop) (G':Rg),
 (∀j,j≠i->C' j=C j)->Ext G σ σ'->(∀b,G' b->G b\/σ.size<=b)->C' i σ' G'->dR (C' i)->Sep C' σ' λb=>F b/\b<σ.size/\¬G b\/G' b:=by
 obtain⟨ρ,h⟩:=h;refine⟨_,λb a=>a.1,h i,λj s=>⟨_,λb a=>a.1,λb m y=>s (m.2.symm.trans y.2),h j⟩,λσ' C' G' s e w u x=>⟨λb=>if G' b then i else ρ b,λj=>?_⟩⟩
 by_cases hji:j=i
 ·subst hji;exact x.mono u λb _ a=>⟨.inr a,zB a⟩
 ·rw[s j hji];refine hC j _ _ _ _ (h j) e.1 λb a p=>?_;have d:¬(F b/\ρ b=i):=λr=>hji (p.2.symm.trans r.2);have g:¬G' b:=λr=>by
   rcases w b r with m|m
   ·exact d m
   ·omega
  exact⟨⟨.inl ⟨p.1,a,d⟩,(zA g).trans p.2⟩,e.2 b a d⟩
variable {σ:Hp}{F:Rg}{p hs:Nat}{A:AR}{Y:Lay}{T:Nat->Hp->Rg->Prop}
theorem cX.step (h:cX σ F Y A T)(i:Lb):∃G:Rg,(∀b,G b->F b)/\AC A Y T i σ G/\(∀j,j≠i->∃H:Rg,(∀b,H b->F b)/\(∀b,H b->¬G b)/\AC A Y T j σ H)/\∀(σ':Hp) (A':AR) (Y':Lay) (T':Nat->Hp->Rg->Prop) (G' H:Rg),
 eZ A' Y'->(∀k,dR (T' k))->(∀j,j≠i->AC A' Y' T' j=AC A Y T j)->Ext G σ σ'->(∀b,G' b->G b\/σ.size<=b)->AC A' Y' T' i σ' G'->(∀b,(F b/\b<σ.size/\¬G b\/G' b)->H b)->cX σ' H Y' A' T':=by
 obtain⟨G,w,m,hd,a⟩:=h.sep.kB (AC.loc h.tl) i;refine⟨G,w,m,hd,λσ' A' Y' T' G' H s d u e r g p=>⟨s,d,?_⟩⟩;exact(Sep.loc (AC.loc d)).mono (a σ' _ G' u e r g (AC.loc d i)) λb _ x=>p b x
theorem Ha {σ:Hp}{F G G':Rg}(hG:∀b,G b->F b)(hg:∀b,G' b->G b\/σ.size<=b):∀b,(F b/\b<σ.size/\¬G b\/G' b)->Grow F σ b:=λb a=>by
 rcases a with a|a
 ·exact .inl a.1
 ·exact(hg b a).imp (hG b) id
theorem AK {σ:Hp}{F G G':Rg}(hG:∀b,G b->F b)(hg:∀b,G' b->G b):∀b,(F b/\b<σ.size/\¬G b\/G' b)->F b:=λb a=>by
 rcases a with a|a
 ·exact a.1
 ·exact hG b (hg b a)
theorem Ec {σ:Hp}{F G:Rg}(hG:∀b,G b->F b):∀b,(F b/\b<σ.size/\¬G b\/Cut G σ b)->Cut F σ b:=λb a=>by
 rcases a with a|a
 ·exact⟨a.1,a.2.1⟩
 ·exact⟨hG b a.1,a.2⟩
theorem L7 {ow:Nat->Nat}:∀j,j≠Lb.own->AC {A with ow:=ow} Y T j=AC A Y T j:=by
 intro j hj;cases j<;>first|rfl|exact absurd rfl hj
theorem Tx {st:List Nat}:∀j,j≠Lb.m4->AC {A with st:=st} Y T j=AC A Y T j:=by
 intro j hj;cases j<;>first|rfl|exact absurd rfl hj
theorem C3 {S:Nat->Bool}:∀j,j≠Lb.free->AC {A with S:=S} Y T j=AC A Y T j:=by
 intro j hj;cases j<;>first|rfl|exact absurd rfl hj
theorem Pf {rs:List (Nat×Nat)}:∀j,j≠Lb.runs->AC {A with runs:=rs} Y T j=AC A Y T j:=by
 intro j hj;cases j<;>first|rfl|exact absurd rfl hj
theorem Wpn {k:Nat}{ss:List cI}:∀j,j≠Lb.cC k->AC {A with cC:=A.cC.set k ss} Y T j=AC A Y T j:=by
 intro j hj;cases j<;>first|rfl|skip
 rename_i k';have a:k≠k':=λe=>hj (by rw[e]);simp only[AC];rw[zj a]
theorem eZ.ow {ow:Nat->Nat}(h:eZ A Y):eZ {A with ow:=ow} Y:=⟨h.c,h.t,h.cC,h.cE,h.nU,h.oS,h.n1,h.n2,h.n3,h.st,h.room,h.ok⟩
theorem eZ.D8 {S:Nat->Bool}(h:eZ A Y):eZ {A with S:=S} Y:=⟨h.c,h.t,h.cC,h.cE,h.nU,h.oS,h.n1,h.n2,h.n3,h.st,h.room,h.ok⟩
theorem eZ.sd {rs:List (Nat×Nat)}(h:eZ A Y):eZ {A with runs:=rs} Y:=⟨h.c,h.t,h.cC,h.cE,h.nU,h.oS,h.n1,h.n2,h.n3,h.st,h.room,h.ok⟩
theorem eZ.x8 {st:List Nat}(h:eZ A Y)(hl:st.length=A.st.length):eZ {A with st:=st} Y:=⟨h.c,h.t,h.cC,h.cE,h.nU,h.oS,h.n1,h.n2,h.n3,hl.trans h.st,h.room,h.ok⟩
theorem eZ.lH {k:Nat}{ss:List cI}(h:eZ A Y):eZ {A with cC:=A.cC.set k ss} Y:=⟨h.c,h.t,by simpa using h.cC,h.cE,h.nU,h.oS,h.n1,h.n2,h.n3,h.st,h.room,h.ok⟩
theorem CY (st:List Nat)(a m:Int)(v:Nat)(fr:List Nat):(VX st a m v fr).length=st.length:=by
 unfold VX;split<;>simp[Qr]
theorem WlD (st:List Nat)(k:Int):(jn st k).length=st.length:=by
 unfold jn;split<;>simp[Qr]
theorem Wku (st:List Nat)(k:Int):(jP st k).length=st.length:=by
 unfold jP;split<;>simp[Qr]
theorem cX.Clear (h:cX σ F Y A T)(a m:Nat)(ha:a<=1000000){R:aN}(hR:∀σ' t,Ext F σ σ'->cX σ' (Grow F σ) Y {A with ow:=kg A.ow a m 0} T->R t σ'):XY.c (aW Y.op) a m σ R:=by
 obtain⟨G,i,p,_,d⟩:=h.step .own;refine RO p a m ha λσ' e j=>hR σ' _ (e.sub i) ?_;exact d σ' _ _ T (Grow G σ) _ h.lay.ow h.tl L7 e (λb g=>g) j (Ha i λb g=>g)
theorem cX.Set (h:cX σ F Y A T)(a m:Nat)(ha:a<=1000000){no:Nat}(h1:1<=no)(h2:no<=1000){R:aN}(hR:∀σ' t,Ext F σ σ'->cX σ' (Grow F σ) Y {A with ow:=kg A.ow a m no} T->R t σ'):Yu.c (aW Y.op) a m no σ R:=by
 obtain⟨G,i,p,_,d⟩:=h.step .own;refine OU p a m ha h1 h2 λσ' e j=>hR σ' _ (e.sub i) ?_;exact d σ' _ _ T (Grow G σ) _ h.lay.ow h.tl L7 e (λb g=>g) j (Ha i λb g=>g)
theorem cX.m4 (h:cX σ F Y A T):∃G:Rg,(∀b,G b->F b)/\∃q,gI σ Y.tr q A.st/\F q/\∀(σ':Hp) (st:List Nat),st.length=A.st.length->Ext (· = q) σ σ'->gI σ' Y.tr q st->Ext F σ σ'/\cX σ' F Y {A with st:=st} T:=by
 obtain⟨G,g,⟨q,j,p,i⟩,_,d⟩:=h.step .m4;refine⟨G,g,q,j,g _ i,λσ' st r e m=>⟨e.sub λb a=>by subst a;exact g _ i,?_⟩⟩;exact d σ' _ _ T G _ (h.lay.x8 r) h.tl Tx (e.sub λb a=>by subst a;exact i) (λb a=>.inl a) ⟨q,m,p,i⟩ (AK g λb a=>a)
theorem cX.xW (h:cX σ F Y A T)(a m:Int){R:aN}(hR:∀σ' t,Ext F σ σ'->cX σ' F Y {A with st:=VX A.st a m 2 [1]} T->R t σ'):XG.c (aW Y.tr) a m σ R:=by
 obtain⟨G,i,q,d,_,b⟩:=h.m4;refine MX d a m λσ' e g=>?_;have:=b σ' _ (CY _ _ _ _ _) e g;exact hR σ' _ this.1 this.2
theorem cX.Use (h:cX σ F Y A T)(a m:Int){R:aN}(hR:∀σ' t,Ext F σ σ'->cX σ' F Y {A with st:=VX A.st a m 1 [2,3]} T->R t σ'):XP.c (aW Y.tr) a m σ R:=by
 obtain⟨G,i,q,d,_,b⟩:=h.m4;refine Wpr d a m λσ' e g=>?_;have:=b σ' _ (CY _ _ _ _ _) e g;exact hR σ' _ this.1 this.2
theorem cX.Rel (h:cX σ F Y A T)(a m:Int){R:aN}(hR:∀σ' t,Ext F σ σ'->cX σ' F Y {A with st:=VX A.st a m 3 [2]} T->R t σ'):W9.c (aW Y.tr) a m σ R:=by
 obtain⟨G,i,q,d,_,b⟩:=h.m4;refine O2 d a m λσ' e g=>?_;have:=b σ' _ (CY _ _ _ _ _) e g;exact hR σ' _ this.1 this.2
theorem cX.Br (h:cX σ F Y A T)(k:Int){R:aN}(hR:∀σ' t,Ext F σ σ'->cX σ' F Y {A with st:=jn A.st k} T->R t σ'):Yv.c (aW Y.tr) k σ R:=by
 obtain⟨G,g,q,b,_,a⟩:=h.m4;refine SF b k λσ' e d=>?_;have:=a σ' _ (WlD _ _) e d;exact hR σ' _ this.1 this.2
theorem cX.Dh (h:cX σ F Y A T)(k:Int){R:aN}(hR:∀σ' t,Ext F σ σ'->cX σ' F Y {A with st:=jP A.st k} T->R t σ'):Xh.c (aW Y.tr) k σ R:=by
 obtain⟨G,g,q,b,_,a⟩:=h.m4;refine Wg8 b k λσ' e d=>?_;have:=a σ' _ (Wku _ _) e d;exact hR σ' _ this.1 this.2
theorem cX.free (h:cX σ F Y A T):∃sb ms,Go.Bu.BH σ Y.fr A.n A.S sb ms/\∀(σ':Hp) (S:Nat->Bool),Ext (· ∈ ms) σ σ'->Go.Bu.BH σ' Y.fr A.n S sb ms->Ext F σ σ'/\cX σ' F Y {A with S:=S} T:=by
 obtain⟨G,i,⟨sb,ms,m,g⟩,_,d⟩:=h.step .free;have j:∀b,b∈ms->G b:=λb a=>g b (by unfold Go.Bu.fp;simp[a]);refine⟨sb,ms,m,λσ' S e p=>⟨e.sub λb a=>i b (j b a),?_⟩⟩;exact d σ' _ _ T G _ h.lay.D8 h.tl C3 (e.sub j) (λb a=>.inl a) ⟨sb,ms,p,g⟩ (AK i λb a=>a)
theorem cX.wZ (h:cX σ F Y A T)(a m:Int){R:aN}(hR:∀σ' t,Ext F σ σ'->cX σ' F Y {A with S:=QR A.n A.S a m} T->R t σ'):Ys.c (aW Y.fr) a m σ R:=by
 obtain⟨i,j,g,b⟩:=h.free;refine Go.Bu.rD g a m λσ' e d=>?_;have:=b σ' _ e d;exact hR σ' _ this.1 this.2
theorem cX.rZ (h:cX σ F Y A T)(a m:Int){R:aN}(hR:∀σ' t,Ext F σ σ'->cX σ' F Y {A with S:=Go.Bu.kc A.n A.S a m} T->R t σ'):XA.c (aW Y.fr) a m σ R:=by
 obtain⟨i,j,g,b⟩:=h.free;refine Go.Bu.ny g a m λσ' e d=>?_;have:=b σ' _ e d;exact hR σ' _ this.1 this.2
theorem cX.xA (h:cX σ F Y A T)(a m:Int){R:Int->Int->Hp->Prop}(hR:∀σ',Ext F σ σ'->cX σ' F Y {A with S:=Go.Bu.jr A.n A.S a m} T->R ((Go.Bu.jo A.n A.S a m:Nat):Int) (Go.Bu.jq A.n A.S a m) σ'):XS.c (aW Y.fr) a m σ R:=by
 obtain⟨i,j,g,b⟩:=h.free;refine Go.Bu.l7 g a m λσ' e d=>?_;have:=b σ' _ e d;exact hR σ' this.1 this.2
def rV (rs:List (Nat×Nat)):List Value:=rs.flatMap λr=>[.int .i64 (r.1:Int),.int .i64 (r.2:Int)]
theorem A5 (rs:List (Nat×Nat)):(rV rs).length=rs.length*2:=by
 induction rs with
 | nil=>rfl
 | cons x l ih=>simp only[rV,mM,zJ,zQ,lU]at *;omega
theorem SO {l:List (Nat×Nat)}{i:Nat}{r:Nat×Nat}(h:l[i]?=some r):(rV l)[2*i]?=some (.int .i64 (r.1:Int))/\(rV l)[2*i+1]?=some (.int .i64 (r.2:Int)):=by
 induction l generalizing i with
 | nil=>simp at h
 | cons x l ih=>
  have e:rV (x::l)=[.int .i64 (x.1:Int),.int .i64 (x.2:Int)]++rV l:=by simp[rV]
  rw[e];cases i with
  | zero=>simp at h;subst h;simp
  | succ i=>
   have:=ih (i:=i) (by simpa using h);rw[show 2*(i+1)=2*i+2 by omega];simpa using this
theorem IA (c:bX)(l:List Nat):iz c l=rV (l.map λs=>(s,c.aF)):=by
 simp[iz,rV,List.flatMap_map]
theorem E2 {s:Sl}{rs:List (Nat×Nat)}(h:cP s 2 (rV rs) σ F){i:Nat}{r:Nat×Nat}(hr:rs[i]?=some r){K:Int->Int->Prop}(hK:K (r.1:Int) (r.2:Int)) :
 Ix s.a s.len (i:Int) 2 λa=>eW .i64 (a.add 0) σ λu=>eW .i64 (a.add 1) σ λw=>K u w:=by
 have j:=SO hr;have y:=(cS.1 hr).1;obtain⟨b,o,g,p⟩:=h.cell j.1;obtain⟨x,o1,d,e⟩:=h.cell j.2;rw[g]at d;cases d;have m:=h.1;rw[A5]at m;rw[g];refine ix O O ?_;rw[add_lit];refine nV ?_ (nV ?_ hK)<;>rw[add_lit]
 ·rw[show o+(i:Int).toNat*2+0=o+2*i by omega];exact p
 ·rw[show o+(i:Int).toNat*2+1=o+(2*i+1) by omega];exact e
theorem cX.mono {G:Rg}(h:cX σ F Y A T)(hs:∀b,b<σ.size->F b->G b):cX σ G Y A T:=dR.mono cX.loc h hs
theorem cX.cut (h:cX σ F Y A T):cX σ (Cut F σ) Y A T:=dR.cut cX.loc h
theorem ν (A:AR)(rs:List (Nat×Nat))(r:Nat×Nat):VW A (rs++[r])=Ui (VW A rs) r:=by simp[VW]
theorem Cr (h:cX σ F Y A T){sl:Sl}{rs:List (Nat×Nat)}{X:Rg}(hs:cP sl 2 (rV rs) σ X)(hX:∀b,b<σ.size->X b->¬F b)(hl:rs.length<=1000000)(hb:∀r∈rs,r.1<=1000000){R:aP}
 (hR:∀σ',Ext F σ σ'->cX σ' (Grow F σ) Y (VW A rs) T->R σ'):Xe.c (aW Y.p) sl σ R:=by
 refine Xe.o ?_;have P:sl.len=rs.length:=by have:=hs.1;rw[A5]at this;omega
 have B:cP sl 2 (rV rs) σ (Cut X σ):=aH.cut hs;refine ZP (a:=bN) (λ(t:Int) v=>∃i:Nat,t=(i:Int)/\i<=rs.length/\Ext F σ v/\cX v (Grow F σ) Y (VW A (rs.take i)) T) (λt _=>rs.length-t.toNat) ⟨0,rfl,O,Ext.refl _ _,by simpa[VW]using h.mono λb _ hb=>.inl hb⟩ ?_;rintro t v ⟨i,rfl,Z,e,J⟩;refine cH (λhlt=>?_) λhge=>?_
 ·have x:i<rs.length:=by omega
  have y:rs[i]?=some rs[i]:=cL x;have N:=hb _ (zd x);have M:=aH.bU B e λb C y j=>hX b C y.1 j;refine E2 M y ?_;have L:rs.take (i+1)=rs.take i++[rs[i]]:=by rw[zf,y];rfl
  generalize rs[i]=r at *;refine nw (cs:=[.int .i64 0,.int .i64 0]) λv4 hz4 e4 E=>E.s1 aA λv5 o5 b5=>b5.s1 aA λv6 o6 U=>?_;have w:bO v v6:=Ext.fresh (Ext.fresh e4 o5.ext λi Z=>O) o6.ext λi Z=>by omega
  have s:=J.cut.bK w;have V:¬Cut (Grow F σ) v v.size:=λj=>by have:=j.2;omega
  have g:bW v6 v.size [.int .i64 (r.1:Int),.int .i64 (r.2:Int)]:=U;have z6:v.size<v6.size:=U.lt;refine aG (s.hd.rP rfl (g.rI rfl (g.rI rfl (s.Clear r.1 r.2 N λv7 t7 S K=>?_))));have z:=S.cA g V;have d:=K.mono (G:=λb=>Cut (Grow F σ) v b\/v.size<b) λb _ hb=>by
   rcases hb with hb|hb
   ·exact .inl hb
   ·exact .inr O
  have H:¬(Cut (Grow F σ) v v.size\/v.size<v.size):=λj=>by
   rcases j with h|h
   ·exact V h
   ·omega
  refine aG (d.hd.rP rfl (z.rI rfl (z.rI rfl (d.xW _ _ λv8 t8 Q u=>?_))));have W:=Q.cA z H;refine aG (u.hd.rP rfl (W.rI rfl (W.rI rfl (u.wZ _ _ λv9 t9 e9 D=>?_))));have sub:∀b,(Cut (Grow F σ) v b\/v.size<b)->Grow F σ b:=λb hb=>by
   rcases hb with hb|hb
   ·exact hb.1
   ·exact .inr (by have:=e.1;omega)
  have ee:Ext F σ v9:=((((e.trans (bO.to w)).iI (S.sub λb hb=>hb.1))).iI (Q.sub sub)).iI (e9.sub sub);refine bZ (m:=i+1) O O ⟨⟨i+1,rfl,O,ee,?_⟩,O⟩;rw[L,ν];exact D.mono λb _ hb=>sub b hb
 ·have:i=rs.length:=by omega
  subst this;rw[zm]at J;exact hR v e J
end Go.Ar
namespace Go.Proofs
open Go.Vc
set_option maxRecDepth 100000
def Xx.h:Hn:=.q .o1 (.q (.q .o3 .aK) (.q .o1 (.q (.q .o5 (.k (.loop [(3,.I)] (.q (.cV (.seq [.it .i64 .p,.op])) (.q (.c .l .l) (.k (.q (.cV (.seq [.it .i64 .p,.op,.op,.op,.op])) (.oq 17)))))))) .aL)))
theorem Xx.o {a:R2}{b:Hp}{c:aN}(d:Xf.c a b λd e=>If (!d) (c 0 e) (bI a 2 e λg=>sf .i64 .p g e λh i=>WR [bN] (λj=>j 0 i) λk (l:Int) m=>sj .i64 .p h m (c l m) (λn o p=>sq .i64 .p h p λq r=>bE a 0 p λt=>Ix t.a t.len q 3 λu=>aQ u 0 p λv=>bE r 0 p λx=>bL (v*((x.len:Nat):Int)) λy=>bL (l+y) λz=>k z p))):Xx.c a b c:=Wa Tryz.func73 (x:=Xx.h) (R0 d)
def Xf.h:Hn:=.q .o1 (.q (.cV (.seq [.op,.op,.op,.dA true 5 (RI.ops 5),.op])) .l)
theorem Xf.o {a:R2}{b:Hp}{c:aO}(d:bY (λd e=>c d e) λf=>If (!a.isNone) (bI a 2 b λh=>f (!h.isNone) b) (f false b)):Xf.c a b c:=Wa Tryz.func105 (x:=Xf.h) (R0 d)
def Q8.h:Hn:=.q .o2 (.q (.k (.q .o4 (.c .aL (.q (.cV (.seq [.op,.op,.op,.dA false 2 [.op,.op],.op])) .aJ)))) (.q .o8 .l))
theorem Q8.o {a:Sl}{b:Int}{c:Hp}{d:Option Addr->Int->Hp->Prop}(e:ZK.c a c λe f=>If (!e) (d none 2 f) (bY (λg h=>If g (d none 1 h) (Wc.c a h λi j=>Nw (.map #[] 0) j λk l=>aV #[.slice i.a i.len i.cap,.I b,.map (some k.block)] 167 l λm n=>d (some m) 0 n)) λo=>If (b<0) (o true f) (o (decide (b>65536)) f))):Q8.c a b c d:=Wa Tryz.func126 (x:=Q8.h) (R0 e)
def Yk.h:Hn:=.q .o2 (.q .o8 (.q (.q .o2 (.c (.q .o3 .l) .l)) (.q (.q .o6 (.c (.q (.q .o9 (.q .o6 (.c .o8 (.o 11)))) .aL) .l)) (.q .o7 (.q .o8 (.q .fW (.q .fW (.q .o3 .l))))))))
theorem Yk.o {a:R2}{b:Int}{c:Hp}{d:Int->Int->Hp->Prop}(e:Xv.c a b c λe f g=>If (f != 0) (d 0 f g) (bQ e λh=>aX h 0 g λi=>If (((i.len:Nat):Int)==0) (bE a 0 g λk=>Ix k.a k.len b 3 λl=>aQ l 2 g λm=>bD e 1 g λo=>If (o<m) (bD e 1 g λq=>bL (q+1) λr=>bQ e λs=>aR s 1 (.I r) g λt=>d 0 4 t) (bD e 1 g λv=>bL (v+m) λw=>bQ e λx=>aR x 1 (.I (if 128<w then 128 else w)) g λy=>d 0 4 y)) (bE e 0 g λaa=>bL (((aa.len:Nat):Int)-1) λab=>bE e 0 g λad=>Ix ad.a ad.len ab 1 λae=>bM ae g λaf=>bE e 0 g λah=>eX ah 1 0 ab (ah.cap:Nat) λai=>bQ e λaj=>aR aj 0 (.slice ai.a ai.len ai.cap) g λak=>bD e 2 ak λam=>bQ e λan=>aR an 2 (.I (if ab<am then ab else am)) ak λao=>d af 0 ao))):Yk.c a b c d:=Wa Tryz.func171 (x:=Yk.h) (R0 e)
def Yt.h:Hn:=.q .o2 (.q .o8 (.q (.q .o2 (.c (.q .o3 .l) .l)) (.q (.oq 15) .l)))
theorem Yt.o {a:R2}{b:Int}{c:Hp}{d:Int->Int->Hp->Prop}(e:Xv.c a b c λe f g=>If (f != 0) (d 0 f g) (bQ e λh=>aQ h 1 g λi=>bE a 0 g λk=>Ix k.a k.len b 3 λl=>aQ l 2 g λm=>d (if m<i then m else i) 0 g)):Yt.c a b c d:=Wa Tryz.func173 (x:=Yt.h) (R0 e)
def Yx.h:Hn:=.q .o1 (.q .o8 (.q (.q .o2 .aJ) (.q .o3 (.q .o2 (.q .o4 .l)))))
theorem Yx.o {a:R2}{b:Int}{c:Sl}{d:Hp}{e:aN}(f:Xv.c a b d λf g h=>If (g != 0) (e g h) (WG.c c h λi j=>W3.c i j λk=>W1.c f i k λl m=>e l m)):Yx.c a b c d e:=Wa Tryz.func178 (x:=Yx.h) (R0 f)
def YW.h:Hn:=.q .o2 (.q .o8 (.q (.q .o2 (.c (.q .o3 .l) .l)) (.q (.q .o5 (.q .o2 (.c (.q .o3 .l) .l))) (.q (.q (.oq 10) .aJ) (.q .o9 (.jc [] (.q .o6 (.c .o8 .l)) (.q (.o 11) .l)))))))
theorem YW.o {a:R2}{b c:Int}{d:Hp}{e:Sl->Int->Hp->Prop}(f:Xv.c a b d λf g h=>If (g != 0) (e ⟨none,0,0⟩ g h) (aV #[.I c] 3 h λi j=>W1.c f ⟨some i,1,1⟩ j λk l=>If (k != 0) (e ⟨none,0,0⟩ k l) (bE f 0 l λn=>bQ f λo=>aQ o 1 l λp=>If (((n.len:Nat):Int)<=p) (e ⟨none,0,0⟩ 0 l) (bE a 0 l λr=>Ix r.a r.len b 3 λs=>aQ s 2 l λt=>Jn [] (λu=>bE f 0 u λw=>Xc.c f (if((w.len:Nat):Int)<t then((w.len:Nat):Int)else t) u λx y=>e x 0 y) λz=>bD f 1 l λab=>If (ab<t) (bD f 1 l λad=>bL (ad+1) λae=>bQ f λaf=>aR af 1 (.I ae) l λag=>z ag) (z l))))):YW.c a b c d e:=Wa Tryz.func181 (x:=YW.h) (R0 f)
def Yh.h:Hn:=.q .o1 (.q (.cV (.ic false [] [(2,.one .b)] (.take 0 (.all [(1,.take 2 (.split 5 (.tk [3,5,6,7] (.all [(4,.all [(8,.tk [9,10,11] (.done))]),(8,.all [(4,.tk [9,10,11] (.done))])])) (.tk [3,4,5,6,7,8,9,10,11] (.done))))])))) .l)
theorem Yh.o {a:R2}{b:Hp}{c:aO}(d:Jn [.b] (λ(d:Bool) e=>c d e) λf=>Xf.c a b λg h=>If g (bQ a λi=>(Xx.c a h λj k=>aQ i 1 k λl=>f (decide (j>l)) k) ∧ (aQ i 1 h λm=>Xx.c a h λn o=>f (decide (n>m)) o)) (f false h)):Yh.c a b c:=Wa Tryz.func182 (x:=Yh.h) (R0 d)
def W7.h:Hn:=.q .o1 (.q .o3 .l)
theorem W7.o {a:R2}{b:Hp}{c:Sl->Hp->Prop}(d:Xi.c a ⟨221,#[],#[]⟩ b λd e=>c d e):W7.c a b c:=Wa Tryz.func183 (x:=W7.h) (R0 d)
def XZ.h:Hn:=.q .o1 (.q .o3 .l)
theorem XZ.o {a:R2}{b:Hp}{c:Sl->Hp->Prop}(d:Xi.c a ⟨223,#[],#[]⟩ b λd e=>c d e):XZ.c a b c:=Wa Tryz.func188 (x:=XZ.h) (R0 d)
def Xv.h:Hn:=.q .o2 (.q (.q .o3 .aJ) (.q .o4 (.q (.q .o2 .aJ) (.q .o3 .l))))
theorem Xv.o {a:R2}{b:Int}{c:Hp}{d:Option Addr->Int->Hp->Prop}(e:Xf.c a c λe f=>If (!e) (d none 5 f) (ZG.c a b f λg h=>If g.isNone (d none 1 h) (d g 0 h))):Xv.c a b c d:=Wa Tryz.func211 (x:=Xv.h) (R0 e)
def W1.h:Hn:=.q .o1 (.q (.q .o9 .aK) (.q (.o 11) .aM))
theorem W1.o {a:R2}{b:Sl}{c:Hp}{d:aN}(e:bQ a λe=>aX e 0 c λf=>bL (((f.len:Nat):Int)+((b.len:Nat):Int)) λg=>If (g>256) (d 6 c) (bQ a λh=>aX h 0 c λi=>Xn.c i c λj k=>App j 1 8 3 [.I 0] b k λl m=>bQ a λn=>aR n 0 (.slice l.a l.len l.cap) m λo=>d 0 o)):W1.c a b c d:=Wa Tryz.func218 (x:=W1.h) (R0 e)
def Xc.h:Hn:=.q .o1 (.q .o8 (.q (.o 11) (.q (.cV (.tail 13 (RI.ops 13) [.op])) .aL)))
theorem Xc.o {a:R2}{b:Int}{c:Hp}{d:Sl->Hp->Prop}(e:bQ a λe=>aX e 0 c λf=>eX f 1 0 b (f.cap:Nat) λg=>WG.c g c λh i=>bE a 0 i λk=>eX k 1 b (k.len:Nat) (k.cap:Nat) λl=>WG.c l i λm n=>bQ a λo=>aR o 0 (.slice m.a m.len m.cap) n λp=>bD a 2 p λr=>bE a 0 p λt=>bQ a λu=>aR u 2 (.I (if((t.len:Nat):Int)<r then((t.len:Nat):Int)else r)) p λv=>d h v):Xc.c a b c d:=Wa Tryz.func219 (x:=Xc.h) (R0 e)
def Xi.h:Hn:=.q .o1 (.q (.q .o3 .aK) (.q .o1 (.q (.q .o5 (.k (.loop [(5,.one .s)] (.q (.cV (.seq [.it .i64 .p,.op])) (.q (.c .l .l) (.k (.q (.cV (.seq [.it .i64 .p,.op,.op,.op,.op])) (.q (.o 12) (.q .o3 (.c .o7 .l)))))))))) (.q .o2 .aL))))
theorem Xi.o {a:R2}{b:Fv}{c:Hp}{d:Sl->Hp->Prop}(e:Xf.c a c λe f=>If (!e) (d ⟨none,0,0⟩ f) (bI a 2 f λh=>sf .i64 .p h f λi j=>WR [.s] (λk=>k ⟨none,0,0⟩ j) λl (m:Sl) n=>sj .i64 .p i n (Z6.c m ⟨262,#[],#[]⟩ n λo=>d m o) (λp q r=>sq .i64 .p i r λs t=>bE a 0 r λv=>Ix v.a v.len s 3 λw=>aQ w 2 r λx=>V1 Tryz.prog b [.pointer t,.I x] [.one .s] r λy z=>If (((y.len:Nat):Int)>0) (aV #[.I s,.slice y.a y.len y.cap] 130 z λaa ab=>App m 2 32 130 [.I 0,.slice none 0 0] ⟨some aa,1,1⟩ ab λac ad=>l ac ad) (l m z)))):Xi.c a b c d:=Wa Tryz.func220 (x:=Xi.h) (R0 e)
def Xz.h:Hn:=.q .o1 (.q .o9 (.jc [] (.q .o6 (.c (.o 12) .l)) (.q .o9 .aL)))
theorem Xz.o {a:R2}{b:Int}{c:Hp}{d:Sl->Hp->Prop}(e:bQ a λe=>aQ e 2 c λf=>bL (f+1) λg=>Nz 2<|bL (g.tdiv 2) λh=>Xc.c a h c λi j=>Jn [] (λk=>bE a 0 k λm=>bQ a λn=>aR n 2 (.I ((m.len:Nat):Int)) k λo=>d i o) λp=>bD a 1 j λr=>If (r>b) (bD a 1 j λt=>bL (t-b) λu=>bQ a λv=>aR v 1 (.I (if b>u then b else u)) j λw=>p w) (p j)):Xz.c a b c d:=Wa Tryz.func221 (x:=Xz.h) (R0 e)
def YN.h:Hn:=.q .o1 (.q .o8 .l)
theorem YN.o {a:R2}{b:Int}{c:Hp}{d:Sl->Hp->Prop}(e:bQ a λe=>aX e 0 c λf=>Xc.c a ((f.len:Nat):Int) c λg h=>d g h):YN.c a b c d:=Wa Tryz.func223 (x:=YN.h) (R0 e)
def ZG.h:Hn:=.q .o1 (.q (.q (.cV (.seq [.op,.op,.op,.op,.dA false 2 [.op,.op],.op,.dA false 7 (RI.ops 7)])) .aK) (.jc [] (.q .o7 (.c .o8 .l)) (.q .o7 .l)))
theorem ZG.o {a:R2}{b:Int}{c:Hp}{d:Option Addr->Hp->Prop}(e:Xf.c a c λe f=>bY (λg h=>bY (λi j=>If i (d none j) (Jn [] (λk=>bI a 2 k λm=>Lk .i64 .p m b k λn=>d (n.getD none) k) λo=>bQ a λp=>bB p 2 j λq=>Lk .i64 .p q b j λr=>If ((r.getD none).isNone) (bI a 2 j λt=>aV #[.slice none 0 0,.I 1,.I 0] 170 j λu v=>ld .i64 .p t b (some u) v λw=>o w) (o j))) λx=>If g (x true h) (bE a 0 h λz=>x (decide (b≥((z.len:Nat):Int))) h)) λaa=>If (!e) (aa true f) (aa (decide (b<0)) f)):ZG.c a b c d:=Wa Tryz.func250 (x:=ZG.h) (R0 e)
end Go.Proofs
namespace Go.Ar
open Go Go.Vc Go.Proofs
theorem cP.sub {σ:Hp}{F:Rg}{s:Sl}{sz:Nat}{xs:List Value}(h:cP s sz xs σ F){lo hi mx:Nat}(h1:lo<=hi)(h2:hi<=s.len)(h3:hi<=mx) :
 cP ⟨if mx=lo then s.a else s.a.map (·.add (lo*sz)),hi-lo,mx-lo⟩ sz ((xs.drop (lo*sz)).take ((hi-lo)*sz)) σ F:=by
 have i:=h.1;have m:hi*sz<=s.len*sz:=lS _ h2;have e:(hi-lo)*sz=hi*sz-lo*sz:=Nat.sub_mul _ _ _;have g:lo*sz<=hi*sz:=lS _ h1;refine⟨by rw[zO,zt];simp only;omega,?_⟩;by_cases hm:mx=lo
 ·left;have:hi-lo=0:=by omega
  rw[this,vC,tz]
 ·rcases h.2 with h0|⟨b,o,cs,hb,ha,hq,hc⟩
  ·left;subst h0;simp
  ·refine .inr ⟨b,o+lo*sz,cs,hb,?_,hq,λj d=>?_⟩
   ·simp only[zA hm,ha,zh,add_lit]
   ·rw[zO,zt]at d;rw[qv,hc _ O,zY,zn,zB O]
inductive ue where
 | hd|dF|mp
 | li (k:Nat)
 deriving DecidableEq
structure hO where
 p:Nat
 m:Nat
 dF:Sl
 ps:List (Nat×Nat)
def jE (ps:List (Nat×Nat))(k:Nat):Option Nat:=(ps.find? λx=>x.1==k).map (·.2)
def kM (ps:List (Nat×Nat)):List (Int×Option Addr):=ps.map λx=>((x.1:Int),some ⟨x.2,0,none⟩)
def nW (s:Sl)(l:Li):List Value:=[.slice s.a s.len s.cap,.int .i64 (l.lim:Int),.int .i64 (l.low:Int)]
def jl (b:Nat)(l:Li):Hp->Rg->Prop:=λσ F=>F b/\fT l/\∃s:Sl,bW σ b (nW s l)/\cP s 1 (Wv l.os) σ (λq=>F q/\q≠b)/\s.len<=s.cap
def pJ (b:Option Nat)(l:Option Li):Hp->Rg->Prop:=λσ F=>match b,l with
 | some b,some l=>jl b l σ F
 | none,some l=>l=iD
 | _,none=>True
def EO (Y:hO)(bud:Nat):List Value:=[.slice Y.dF.a Y.dF.len Y.dF.cap,.int .i64 (bud:Int),.map (some Y.m)]
def CC (tb:List bX)(bud:Nat)(ls:List Li)(Y:hO):ue->Hp->Rg->Prop
 | .hd=>iH Y.p (EO Y bud)
 | .dF=>cP Y.dF 3 (gp tb)
 | .mp=>ka Y.m .i64 .p (kM Y.ps)
 | .li k=>pJ (jE Y.ps k) ls[k]?
theorem jl.loc (b:Nat)(l:Li):dR (jl b l):=by
 rintro σ y F G ⟨m,w,s,j,r,p⟩ u a;have i:=a b j.lt m;obtain⟨e,x⟩:=j;exact⟨i.1,w,s,⟨e,i.2.trans x⟩,cP.loc _ _ _ _ _ _ _ r u λq g d=>⟨⟨(a q g d.1).1,d.2⟩,(a q g d.1).2⟩,p⟩
theorem pJ.loc (b:Option Nat)(l:Option Li):dR (pJ b l):=by
 intro σ σ' F G h hz hs;unfold pJ at *;split at h
 ·exact jl.loc _ _ _ _ _ _ h hz hs
 ·exact h
 ·trivial
theorem CC.loc {tb:List bX}{bud:Nat}{ls:List Li}{Y:hO}:∀i,dR (CC tb bud ls Y i)
 | .hd=>iH.loc _ _
 | .dF=>cP.loc _ _ _
 | .mp=>ka.loc _ _ _ _
 | .li k=>pJ.loc _ _
structure eC (σ:Hp) (F:Rg) (Y:hO) (tb:List bX) (bud:Nat) (ls:List Li):Prop where
 nU:tb.length<=40
 ok:∀c∈tb,c.ok
 len:ls.length=tb.length
 keys:∀x∈Y.ps,x.1<tb.length
 sep:Sep (CC tb bud ls Y) σ F
variable {σ:Hp}{F G:Rg}{Y:hO}{tb:List bX}{bud:Nat}{ls:List Li}{b k:Nat}{l:Li}
theorem eC.loc:dR λσ F=>eC σ F Y tb bud ls:=λσ d F G h b a=>⟨h.nU,h.ok,h.len,h.keys,Sep.loc CC.loc _ _ _ _ h.sep b a⟩
theorem eC.bK {σ':Hp}(h:eC σ F Y tb bud ls)(e:bO σ σ'):eC σ' F Y tb bud ls:=dR.bK eC.loc h e
theorem eC.hd (h:eC σ F Y tb bud ls):bW σ Y.p (EO Y bud):=by
 obtain⟨G,b,a⟩:=h.sep.get .hd;exact a.2
theorem eC.jW (h:eC σ F Y tb bud ls):cP Y.dF 3 (gp tb) σ F:=by
 obtain⟨G,d,a⟩:=h.sep.get .dF;exact aH.mono a λb _ a=>d b a
theorem eC.oY (h:eC σ F Y tb bud ls):Y.dF.len=tb.length:=by
 have:=h.jW.1;rw[KG]at this;omega
theorem eC.map (h:eC σ F Y tb bud ls):dN σ Y.m .i64 .p (kM Y.ps):=by
 obtain⟨G,b,a⟩:=h.sep.get .mp;exact a.2
theorem Bg (ps:List (Nat×Nat))(k:Nat):bV (α:=Option Addr) (kM ps) (k:Int)=(jE ps k).map λb=>some ⟨b,0,none⟩:=by
 induction ps with
 | nil=>rfl
 | cons x l ih=>
  simp only[bV,kM,jE,zK,wh]at *;have e:(((x.1:Nat):Int)==(k:Int))=(x.1==k):=ke _ _;rw[e];cases x.1==k
  ·exact ih
  ·rfl
theorem F7 {ps:List (Nat×Nat)}(h:jE ps k=none):∀x∈ps,x.1≠k:=by
 unfold jE at h;simp only[qX,oV,zZ]at h;exact h
theorem SX {ps:List (Nat×Nat)}(h:jE ps k=none)(b:Nat):dE (α:=Option Addr) (kM ps) (k:Int) (some ⟨b,0,none⟩)=kM (ps++[(k,b)]):=by
 unfold dE;rw[zA]
 ·simp[kM]
 ·simp only[kM,List.any_map,zq,Function.comp,zZ,not_exists,not_and];intro x hx e;exact F7 h x hx O
theorem UO {ps:List (Nat×Nat)}(h:jE ps k=none)(b j:Nat):jE (ps++[(k,b)]) j=if j=k then some b else jE ps j:=by
 have a:=F7 h;unfold jE at *;rw[List.find?_append];by_cases hj:j=k
 ·subst hj;have:ps.find? (λx=>x.1==j)=none:=by simpa using h
  rw[this];simp
 ·rw[zA hj];cases hf:ps.find? (λx=>x.1==j)with
  | none=>
   have:(k==j)=false:=by simpa using λe=>hj e.symm
   simp[this]
  | some x=>simp
theorem F4 {ps:List (Nat×Nat)}(hn:((kM ps).map (·.1)).Nodup)(h:(k,b)∈ps):jE ps k=some b:=by
 induction ps with
 | nil=>simp at h
 | cons x l ih=>
  simp only[kM,zK,zo]at hn;unfold jE;rw[wh];rcases zT.1 h with rfl|h
  ·simp
  ·have:(x.1==k)=false:=by
    have:x.1≠k:=λe=>hn.1 (zD.2 ⟨(((k:Nat):Int),some ⟨b,0,none⟩),zD.2 ⟨(k,b),h,rfl⟩,by rw[e]⟩);simpa using this
   rw[this];exact ih hn.2 h
theorem HT (h:eC σ F Y tb bud ls){R:aO}(hR:R true σ):Xf.c (aW Y.p) σ R:=by
 refine Xf.o ?_;exact bY.intro (cJ rfl (aG (h.hd.rM rfl hR)))
theorem eC.w8 (h:eC σ F Y tb bud ls)(hb:jE Y.ps k=some b)(hl:ls[k]?=some l):∃G:Rg,(∀q,G q->F q)/\jl b l σ G/\¬G Y.m ∧
 ∀(σ':Hp) (l':Li) (G':Rg),Ext G σ σ'->(∀q,G' q->Grow G σ q)->jl b l' σ' G'->Ext F σ σ'/\eC σ' (λq=>F q/\q<σ.size/\¬G q\/G' q) Y tb bud (ls.set k l'):=by
 have p:=(cS.1 hl).1;obtain⟨G,s,g,d,a⟩:=h.sep.kB CC.loc (.li k);have g:jl b l σ G:=by
  simp only[CC,pJ,hb,hl]at g;exact g
 have r:¬G Y.m:=by
  obtain⟨H,_,hd,i⟩:=d .mp (by intro e;cases e);exact hd _ i.1
 refine⟨G,s,g,r,λσ' l' G' e w u=>⟨e.sub s,h.nU,h.ok,by rw[nM];exact h.len,h.keys,?_⟩⟩;refine a σ' (CC tb bud (ls.set k l') Y) G' (λj x=>?_) e w ?_ (CC.loc _)
 ·cases j<;>try rfl
  rename_i m;have r:m≠k:=λe=>x (by rw[e]);simp only[CC,zj (Ne.symm r)]
 ·simp only[CC,pJ,hb,zM p];exact u
theorem eC.mono (h:eC σ F Y tb bud ls)(hs:∀q,q<σ.size->F q->G q):eC σ G Y tb bud ls:=dR.mono eC.loc h hs
theorem eC.cut (h:eC σ F Y tb bud ls):eC σ (Cut F σ) Y tb bud ls:=dR.cut eC.loc h
theorem eC.fQ {v:Hp}(h:eC v (Grow F σ) Y tb bud ls)(e0:Ext F σ v)(hb:jE Y.ps k=some b)(hl:ls[k]?=some l):∃G:Rg,jl b l v G ∧
 ∀(σ':Hp) (l':Li) (G':Rg),Ext G v σ'->(∀q,G' q->Grow G v q)->jl b l' σ' G'->Ext F σ σ'/\eC σ' (Grow F σ) Y tb bud (ls.set k l'):=by
 obtain⟨G,m,p,_,d⟩:=h.w8 hb hl;refine⟨G,p,λσ' l' G' e i g=>?_⟩;obtain⟨r,j⟩:=d σ' l' G' e i g;refine⟨e0.iI r,j.mono λq _ a=>?_⟩;have:=e0.1;rcases a with a|a
 ·exact a.1
 ·rcases i q a with h2|h2
  ·exact m q h2
  ·exact .inr O
theorem Ri (h:eC σ F Y tb bud ls)(hk:k<tb.length){R:Option Addr->Hp->Prop}(hR:∀σ' Y' b,Ext F σ σ'->Y'.p=Y.p->jE Y'.ps k=some b->eC σ' (Grow F σ) Y' tb bud ls->R (some ⟨b,0,none⟩) σ') :
 ZG.c (aW Y.p) (k:Int) σ R:=by
 refine ZG.o ?_;have B:k<ls.length:=by rw[h.len];exact hk
 have J:ls[k]?=some ls[k]:=cL B;generalize ls[k]=l at J;have P:=h.oY;refine HT h (bY.intro (cF rfl ?_));refine bY.intro (fH O (aG (h.hd.rS rfl ?_)));refine fH aC ?_;refine Jn.intro (aG (h.hd.rM rfl ⟨_,h.map,?_⟩));rw[Bg];cases hf:jE Y.ps k with
 | some b=>
  refine cF rfl (aG (h.hd.rM rfl ⟨_,h.map,?_⟩));rw[Bg,hf];exact hR σ Y b (Ext.refl _ _) rfl hf (h.mono λq _ a=>.inl a)
 | none=>
  refine cJ rfl (aG (h.hd.rM rfl (nw (cs:=[.slice none 0 0,.int .i64 1,.int .i64 0]) λv U e y=>?_)));obtain⟨G,H,r,S,hd,g,w,u⟩:=h.cut.sep.pR CC.loc .mp (.li k) (by intro e;cases e);have L:∀q,G q->F q:=λq a=>(r q a).1;have g:ka Y.m .i64 .p (kM Y.ps) σ G:=g;have w:l=iD:=by
   simp only[CC,pJ,hf,J]at w;exact w
  have M:=g.2.lt;have D:dN v Y.m .i64 .p (kM Y.ps):=e.gN g.2 id;refine⟨Y.m,_,rfl,D,λv2 A s=>?_⟩;rw[SX hf]at s;have Q:Ext F σ v2:=(bO.to e).only A (.inl (L _ g.1));have z:Ext (λq=>G q\/H q) σ v2:=(bO.to e).only A (.inl (.inl g.1));have E:bW v2 σ.size [.slice none 0 0,.int .i64 1,.int .i64 0]:=Wp A y O;have d:eC v2 (Grow F σ) {Y with ps:=Y.ps++[(k,σ.size)]} tb bud ls:=by
   refine⟨h.nU,h.ok,h.len,λx i=>?_,?_⟩
   ·rcases zP.1 i with i|i
    ·exact h.keys x i
    ·simp only[zS]at i;subst i;exact hk
   refine(Sep.loc CC.loc).mono (u v2 (CC tb bud ls {Y with ps:=Y.ps++[(k,σ.size)]}) G (· = σ.size) (λj C K=>?_) z (λq a=>.inl (.inl a)) (λq a=>.inr O) (λq C K=>?_) ⟨g.1,s⟩ ?_ CC.loc) λq _ a=>?_
   ·cases j<;>first|rfl|exact absurd rfl C|skip
    rename_i m;have N:m≠k:=λe=>K (by rw[e]);simp only[CC,UO hf,zA N]
   ·have:=(r q C).2;omega
   ·simp only[CC,UO hf,zV,J,w,pJ];exact⟨rfl,fT.nil,⟨none,0,0⟩,E,cP.nil _ _ _ _,zC _⟩
   ·rcases a with a|a|a
    ·exact .inl a.1.1
    ·exact .inl (L q a)
    ·exact .inr O
  refine aG (d.hd.rM rfl ⟨_,d.map,?_⟩);rw[Bg,UO hf,zB rfl];exact hR v2 {Y with ps:=Y.ps++[(k,σ.size)]} σ.size Q rfl (by show jE (Y.ps++[(k,σ.size)]) k=_;rw[UO hf,zB rfl]) d
theorem Af (h:eC σ F Y tb bud ls)(hk:k<tb.length){R:Option Addr->Int->Hp->Prop}(hR:∀σ' Y' b,Ext F σ σ'->Y'.p=Y.p->jE Y'.ps k=some b->eC σ' (Grow F σ) Y' tb bud ls->R (some ⟨b,0,none⟩) 0 σ') :
 Xv.c (aW Y.p) (k:Int) σ R:=by
 refine Xv.o ?_;exact HT h (cF rfl (Ri h hk λσ' Y' b e g d a=>cF rfl (hR σ' Y' b e g d a)))
theorem bR.rG {s:Sl}{sz:Nat}{xs:List Value}(h:bR s sz xs σ F):s.len<=s.cap:=by
 rcases h.2 with⟨q1,q2⟩|⟨_,_,_,_,_,q,_⟩
 ·omega
 ·exact q
theorem Gw (h:jl b l σ G){m:Nat}(hm:m<=l.os.length){R:Sl->Hp->Prop}
 (hR:∀s z σ',Ext (· = b) σ σ'->σ.size<=z->bR s 1 (Wv (l.os.take m)) σ' (λq=>σ.size<=q/\q<z)->jl b (gS m l).2 σ' (λq=>q=b\/z<=q)->R s σ') :
 Xc.c (aW b) (m:Int) σ R:=by
 refine Xc.o ?_;obtain⟨Y,e,s,J,A,Z⟩:=h;have S:s.len=l.os.length:=by have:=A.1;simp[Wv]at this;omega
 have C:=e.many;have M:=e.low;have r:=cP.sub A (lo:=0) (hi:=m) (mx:=s.cap) O O O;have V:((Wv l.os).drop (0*1)).take ((m-0)*1)=Wv (l.os.take m):=by simp[Wv]
 rw[V]at r;refine aG (J.rS rfl (ji (lo:=0) O aC aC (HV r Vj aC λs1 L Q x H=>?_)));have j:=x.cA J id;have F:=aH.bK A x;have u:=cP.sub F (lo:=m) (hi:=s.len) (mx:=s.cap) O O O;have W:((Wv l.os).drop (m*1)).take ((s.len-m)*1)=Wv (l.os.drop m):=by
  rw[mc (by simp[Wv];omega)];simp[Wv]
 rw[W]at u;refine aG (j.rS rfl (ji aC aC aC (HV u Vj aC λy P E B w=>?_)));have K:=B.cA j id;refine aG (K.s1 (by simp[nW]) λv3 o3 a=>aG (a.rI rfl (aG (a.rS rfl (aG (a.s1 (by simp[nW]) λv4 o4 g=>?_))))));have d:Ext (· = b) P v4:=o3.ext.trans o4.ext;have U:=J.lt;have D:=x.1;have p:y.len=l.os.length-m:=by rw[E];simp only;omega
 refine hR s1 L.size v4 ((bO.to (x.trans B)).trans d) D ?_ ⟨.inl rfl,yu e,y,?_,?_,bR.rG w⟩
 ·refine aI.bU (aI.bK (aI.mono H (G:=λq=>σ.size<=q/\q<L.size) λq i N=>⟨N,i⟩) B) d λq _ i X=>by omega
 ·have:(if((y.len:Nat):Int)<(l.low:Int)then((y.len:Nat):Int)else(l.low:Int))=((min l.low (l.os.length-m):Nat):Int):=by rw[p];split<;>omega
  rw[this]at g;exact g
 ·refine aH.mono (aH.bU w.fP d λq _ i X=>O) λq _ i=>⟨.inr i,O⟩
theorem PO (h:jl b l σ G){sl:Sl}{xs:List Int}{X:Rg}(hs:cP sl 1 (Wv xs) σ X)(hx:xs≠[])(hfit:l.os.length+xs.length<=256){R:aN}
 (hR:∀σ',Ext (· = b) σ σ'->jl b (eO xs l) σ' (λq=>q=b\/σ.size<=q)->R 0 σ'):W1.c (aW b) sl σ R:=by
 refine W1.o ?_;obtain⟨H,u,s,g,d,J⟩:=h;have B:s.len=l.os.length:=by have:=d.1;simp[Wv]at this;omega
 have D:sl.len=xs.length:=by have:=hs.1;simp[Wv]at this;omega
 have z:=qC.2 hx;have x:eO xs l = {l with os:=l.os++xs}:=by unfold eO;rw[zA O]
 refine aG (g.rS rfl (bZ (m:=l.os.length+xs.length) aC O (fH O (aG (g.rS rfl ?_)))));refine Xn.o ?_;refine ji (lo:=0) aC aC aC ?_;have C:=g.lt;refine⟨Wv l.os,Wv xs,by simp[Wv];omega,by simp[Wv];omega,?_,hs.rd,Vj,?_,by simp only;omega,λp=>by simp only at p;omega,λy c w=>?_⟩
 ·by_cases h0:s.len=0
  ·have:l.os=[]:=w9.1 O;rw[this];simp only[h0,zV];cases s.a<;>simp[Rd,Wv]
  ·simp only[zA h0,vC];have:=d.rd;cases ha:s.a with
   | none=>rw[ha]at this;simpa[Rd]using this
   | some a=>rw[ha]at this;simpa[Rd,Addr.add_zero']using this
 ·simp only;have:(s.len-0+sl.len)*8<=256*8:=kU O O;omega
 ·refine nw λv K e i=>aG ((e.cA g id).s1 (by simp[nW]) λF o2 r=>?_);have E:l.os.length+xs.length<=c:=by simp only at w;omega
  refine hR F ((bO.to e).trans o2.ext) ?_;rw[x];have:=An (xs:=xs) u;rw[x]at this;refine⟨.inl rfl,this,⟨some ⟨σ.size,0,none⟩,s.len-0+sl.len,c⟩,r,⟨by simp[Wv];omega,.inr ⟨σ.size,0,_,⟨.inr (zC _),O⟩,rfl,(Wp o2 i O).q,λj A=>?_⟩⟩,by simp only;omega⟩;simp only[Wv,za,zJ]at A;rw[zG,kF,←kF,zg (by simp[Wv];omega)];simp[Wv]
theorem WkI (h:jl b l σ G){sl:Sl}{xs:List Int}{X:Rg}(hs:cP sl 1 (Wv xs) σ X)(hfit:¬l.os.length+xs.length<=256)(hxs:xs.length<=1000000){R:aN}
 (hR:R 6 σ):W1.c (aW b) sl σ R:=by
 refine W1.o ?_;obtain⟨j,d,s,g,a,p⟩:=h;have e:s.len=l.os.length:=by have:=a.1;simp[Wv]at this;omega
 have i:sl.len=xs.length:=by have:=hs.1;simp[Wv]at this;omega
 have:=d.many;exact aG (g.rS rfl (bZ (m:=l.os.length+xs.length) aC O (mh O hR)))
end Go.Ar
namespace Go.Ar
open Go Go.Vc Go.Proofs
variable {σ:Hp}{F G:Rg}{Y:hO}{tb:List bX}{bud:Nat}{ls:List Li}{b k:Nat}{l:Li}{c:bX}
theorem eC.cls (h:eC σ F Y tb bud ls)(hc:tb[k]?=some c):c.ok/\k<tb.length:=⟨h.ok c (zE hc),(cS.1 hc).1⟩
theorem jl.st {v:Hp}(h:jl b l σ G){s:Sl}{l':Li}(ho:Ext (· = b) σ v)(hb:bW v b (nW s l'))(hs:cP s 1 (Wv l'.os) σ (λq=>G q/\q≠b))(hc:s.len<=s.cap)(ok:fT l'):jl b l' v G:=
 ⟨h.1,ok,s,hb,aH.bU hs ho λq _ d a=>d.2 a,hc⟩
theorem l7 (h:eC σ F Y tb bud ls)(hc:tb[k]?=some c)(hl:ls[k]?=some l){R:Int->Int->Hp->Prop}
 (hR:∀σ' Y',Ext F σ σ'->Y'.p=Y.p->eC σ' (Grow F σ) Y' tb bud (ls.set k (Kj c l).2)->R ((Kj c l).1.getD 0) (if(Kj c l).1.isSome then 0 else 4) σ'):Yk.c (aW Y.p) (k:Int) σ R:=by
 obtain⟨r,hk⟩:=h.cls hc;refine Yk.o ?_;refine Af h hk λv Y' b e hp hb V=>cF rfl ?_;obtain⟨G,hL,H⟩:=V.fQ e hb hl;have z:=hL;obtain⟨P,i,s,g,L,u⟩:=hL;have N:=V.hd;rw[hp]at N;have U:s.len=l.os.length:=by have:=L.1;simp[Wv]at this;omega
 have o1:=i.low;have o2:=i.many;have o3:=i.lim;have o4:=i.oK;have a:=IT r i;have fin:∀v' G',Ext G v v'->(∀q,G' q->Grow G v q)->jl b (Kj c l).2 v' G'->R ((Kj c l).1.getD 0) (if(Kj c l).1.isSome then 0 else 4) v':=λv' G' X hg S=>by
  obtain⟨C,h2⟩:=H v' _ G' X hg S;exact hR v' Y' C hp h2
 unfold bX.ok at r;have y:∀{v':Hp},Ext (· = b) v v'->Ext G v v':=λX=>X.sub λq A=>by rw[A];exact P
 refine aG (g.rS rfl ?_);by_cases h0:l.os=[]
 ·have W:(Kj c l).1=none:=by unfold Kj;rw[h0];rfl
  have C:(Kj c l).2=if l.lim<c.batch then{l with lim:=l.lim+1}else{l with lim:=min (l.lim+c.batch) 128}:=by unfold Kj;rw[h0];rfl
  rw[W,C]at fin;rw[C]at a;refine cJ (by simp[U,h0]) (aG (N.rS rfl (uX V.jW hc (d:=2) O ?_)));simp only[zA (show ¬(2=0) by omega),zA (show ¬(2=1) by omega)];refine aG (g.rI rfl (cH (λc1=>?_) λc1=>?_))
  ·have B:l.lim<c.batch:=by omega
   rw[zB B]at fin a;refine aG (g.rI rfl (bZ (m:=l.lim+1) O O (aG (g.s1 (by simp[nW]) λv' M j=>?_))));exact fin v' G (y M.ext) (λq A=>.inl A) (z.st M.ext j L u a)
  ·have B:¬l.lim<c.batch:=by omega
   rw[zA B]at fin a;refine aG (g.rI rfl (bZ (m:=l.lim+c.batch) O O (aG (g.s1 (by simp[nW]) λv' M j=>?_))));refine fin v' G (y M.ext) (λq A=>.inl A) (z.st M.ext ?_ L u a);have:(if(128:Int)<((l.lim+c.batch:Nat):Int)then(128:Int)else((l.lim+c.batch:Nat):Int))=((min (l.lim+c.batch) 128:Nat):Int):=by split<;>omega
   rw[this]at j;exact j
 ·have hpos:=qC.2 h0;obtain⟨x,hx⟩:∃x,l.os[l.os.length-1]?=some x:=⟨_,cL O⟩;have K:l.os.getLast?=some x:=by rw[List.getLast?_eq_getElem?];exact hx
  have W:(Kj c l).1=some x:=by unfold Kj;rw[K]
  have C:(Kj c l).2 = {l with os:=l.os.dropLast,low:=min l.low (l.os.length-1)}:=by unfold Kj;rw[K]
  rw[W,C]at fin;rw[C]at a;refine cF (by simp only[nk];omega) ?_;refine aG (g.rS rfl (bZ (m:=l.os.length-1) aC O (aG (g.rS rfl (L.qc hx (aG (g.rS rfl ?_)))))));have w:=cP.sub L (lo:=0) (hi:=l.os.length-1) (mx:=s.cap) O O O;have ed:((Wv l.os).drop (0*1)).take ((l.os.length-1-0)*1)=Wv l.os.dropLast:=by simp[Wv,yp]
  rw[ed]at w;refine ji (lo:=0) O aC aC (aG (g.s1 (by simp[nW]) λv1 Z D=>aG (D.rI rfl (aG (D.s1 (by simp[nW]) λv2 Q J=>?_)))));have E:=Z.ext.trans Q.ext;refine fin v2 G (y E) (λq A=>.inl A) (z.st E ?_ w aC a);have:(if((l.os.length-1:Nat):Int)<(l.low:Int)then((l.os.length-1:Nat):Int)else(l.low:Int))=((min l.low (l.os.length-1):Nat):Int):=by split<;>omega
  rw[this]at J;exact J
theorem Ng (h:eC σ F Y tb bud ls)(hc:tb[k]?=some c)(hl:ls[k]?=some l){R:Int->Int->Hp->Prop}
 (hR:∀σ' Y',Ext F σ σ'->Y'.p=Y.p->eC σ' (Grow F σ) Y' tb bud ls->R ((p8 c l:Nat):Int) 0 σ'):Yt.c (aW Y.p) (k:Int) σ R:=by
 obtain⟨u,A⟩:=h.cls hc;refine Yt.o ?_;refine Af h A λv Y' b e r y g=>cF rfl ?_;obtain⟨G,x,m⟩:=g.fQ e y hl;obtain⟨w,z,s,i,B,j⟩:=x;have a:=g.hd;rw[r]at a;refine aG (i.rI rfl (aG (a.rS rfl (uX g.jW hc (d:=2) O ?_))));simp only[zA (show ¬(2=0) by omega),zA (show ¬(2=1) by omega)];have:(if(c.batch:Int)<(l.lim:Int)then(c.batch:Int)else(l.lim:Int))=((p8 c l:Nat):Int):=by unfold p8;split<;>omega
 rw[this];exact hR v Y' e r g
theorem Wm2 (l:List Int)(i:Nat)(h:i<l.length):l.reverse[i]?=l[l.length-1-i]? := by
 rw[List.getElem?_reverse h]
theorem Ν {s:Sl}{xs:List Int}(h:bR s 1 (Wv xs) σ F)(hlen:xs.length<=1000000){R:aP}(hR:∀σ',Ext F σ σ'->bR s 1 (Wv xs.reverse) σ' F->R σ'):W3.c s σ R:=by
 refine W3.o ?_;have N:s.len=xs.length:=by have:=h.1;simp[Wv]at this;omega
 let jI (i:Nat):List Int:=(List.range xs.length).map λj=>if j<i\/xs.length-i<=j then xs.getD (xs.length-1-j) 0 else xs.getD j 0
 have ln:∀i,(jI i).length=xs.length:=λi=>by simp[jI]
 have bV:∀i j,j<xs.length->(jI i)[j]?=some (if j<i\/xs.length-i<=j then xs.getD (xs.length-1-j) 0 else xs.getD j 0):=λi j d=>by simp[jI,d]
 have S:jI 0=xs:=by
  apply zp;intro j;by_cases d:j<xs.length
  ·rw[bV 0 j d,zA O];simp[zN,cL d]
  ·rw[zX (by rw[ln];omega),zX O]
 have r:∀i,xs.length<=2*i+1->i<=xs.length->jI i=xs.reverse:=by
  intro i L K;apply zp;intro j;by_cases d:j<xs.length
  ·rw[bV i j d,Wm2 xs j d,zN,zN,cL (show xs.length-1-j<xs.length by omega),cL d];split
   ·rfl
   ·have:xs.length-1-j=j:=by omega
    simp only[this];rfl
  ·rw[zX (by rw[ln];omega),zX aE]
 have step:∀i,2*i+1<xs.length->((jI i).set i (xs.getD (xs.length-1-i) 0)).set (xs.length-1-i) (xs.getD i 0)=jI (i+1):=by
  intro i hi;apply zp;intro j;by_cases d:j<xs.length
  ·rw[bV (i+1) j d,nq,nq];simp only[nM,ln];by_cases B:xs.length-1-i=j
   ·subst B;rw[zB rfl,zB O,zB O]
    congr 2;omega
   ·rw[zA B];by_cases C:i=j
    ·subst C;rw[zB rfl,zB O,zB O]
    ·rw[zA C,bV i j d];by_cases e3:j<i\/xs.length-i<=j
     ·rw[zB e3,zB O]
     ·rw[zA e3,zA O]
  ·rw[zX (by simp[ln];omega),zX (by rw[ln];omega)]
 refine yx ?_;rw[UV O O];refine Kh (a:=bN) (bb:=bN) (λ(i j:Int) v=>∃n:Nat,i=(n:Int)/\j=(xs.length:Int)-1-n/\n<=xs.length/\Ext F σ v/\bR s 1 (Wv (jI n)) v F) (λi _ _=>xs.length-i.toNat) ⟨0,rfl,O,O,Ext.refl _ _,by rw[S];exact h⟩ ?_;rintro i j v ⟨n,rfl,rfl,V,ev,z⟩;refine cH (λP=>?_) λQ=>?_
 ·have w:2*n+1<xs.length:=by omega
  have G:(xs.length:Int)-1-n=((xs.length-1-n:Nat):Int):=by omega
  rw[G];have E:=bV n (xs.length-1-n) O;have D:=bV n n O;rw[zA O]at E D;rw[zN]at E D;obtain⟨b,p⟩:∃b,s.a=some ⟨b,0,none⟩:=by
   rcases z.2 with⟨q1,q2⟩|⟨b,cs,_,A,_⟩
   ·omega
   ·exact⟨b,A⟩
  have g:∀u,bR s 1 (Wv (jI n)) u F->∀(j:Nat) (x:Int),(jI n)[j]?=some x->cell u (Addr.add ⟨b,0,none⟩ ((j:Int).toNat*1))=some (.int .i64 x):=λu y j x U=>by
   obtain⟨J,o,A,M⟩:=y.fP.cell (j:=j) (v:=.int .i64 x) (by simp[Wv,U]);rw[p]at A;cases A;rw[add_lit,show 0+(j:Int).toNat*1=0+j by omega];exact M
  rw[p];refine⟨λu=>bR s 1 (Wv (jI n)) u F,z,?_⟩;refine ix O O ⟨_,λu y=>g u y _ _ E,?_⟩;refine ix O O ⟨_,λu y=>g u y _ _ D,?_⟩;refine ix O O ?_;refine z.st (j:=n) (by simp[Wv,ln];omega) (λJ e=>by rw[p]at e;cases e;rw[add_lit];simp) λW B L=>?_;refine ix O O ?_;refine L.st (j:=xs.length-1-n) (by simp[Wv,ln];omega) (λJ e=>by rw[p]at e;cases e;rw[add_lit];simp) λX C K=>?_;refine bZ (m:=n+1) O O (bZ (m:=xs.length-1-n-1) O O ⟨⟨n+1,rfl,O,O,(ev.trans B).trans C,?_⟩,O⟩);rw[←step n w,zN,zN];have H:∀(l:List Int) (i:Nat) (x:Int),Wv (l.set i x)=(Wv l).set i (.int .i64 x):=λl i x=>by simp[Wv,uj]
  rw[H,H];exact K
 ·rw[r n O O]at z;exact hR v ev z
theorem Rp (h:jl b l σ G){sl:Sl}(hz:sl.len=0){R:aN}(hR:∀σ',Ext (· = b) σ σ'->jl b l σ' G->R 0 σ'):W1.c (aW b) sl σ R:=by
 refine W1.o ?_;have A:=h;obtain⟨D,j,s,z,g,E⟩:=h;have r:s.len=l.os.length:=by have:=g.1;simp[Wv]at this;omega
 have u:=j.many;refine aG (z.rS rfl (bZ (m:=l.os.length) aC O (fH O (aG (z.rS rfl ?_)))));refine Xn.o ?_;refine ji (lo:=0) aC aC aC ?_;have d:=cP.sub g (lo:=0) (hi:=s.len) (mx:=s.len) O O O;have C:((Wv l.os).drop (0*1)).take ((s.len-0)*1)=Wv l.os:=by rw[r,mc (by simp[Wv])];simp
 rw[C]at d;have key:∀(e:Sl),cP e 1 (Wv l.os) σ (λq=>G q/\q≠b)->e.len<=e.cap->bQ (some ⟨b,0,none⟩) λw=>dG (w.add 0) (.slice e.a e.len e.cap) σ λv2=>R 0 v2:=λe p x=>by
  refine aG (z.s1 (by simp[nW]) λv2 o2 y=>hR v2 o2.ext ?_);exact A.st (l':=l) (s:=e) o2.ext y p x j
 refine⟨Wv l.os,[],by simp[Wv];omega,by simp[hz],d.rd,by cases sl.a<;>simp[Rd],by simp,?_,by simp only;omega,λB=>?_,λi=>absurd (by simp only[hz];omega) i⟩
 ·simp only[hz];have:(s.len-0+0)*8<=256*8:=kU O O;omega
 ·simp only[hz,zr];cases ha:(if s.len=0 then s.a else s.a.map (·.add (0*1)))
  ·rw[ha]at d;exact key ⟨none,s.len-0,s.len-0⟩ d (zC _)
  ·rw[ha]at d;exact key ⟨some _,s.len-0,s.len-0⟩ d (zC _)
theorem J8 (h:jl b l σ G){sl:Sl}{xs:List Int}{X:Rg}(hs:cP sl 1 (Wv xs) σ X)(hfit:l.os.length+xs.length<=256){R:aN}
 (hR:∀σ',Ext (· = b) σ σ'->jl b (eO xs l) σ' (Grow G σ)->R 0 σ'):W1.c (aW b) sl σ R:=by
 by_cases hx:xs=[]
 ·subst hx;have g:eO [] l=l:=by unfold eO;rw[zA (by simp only[lU]at hfit ⊢;omega)];simp
  refine Rp h (by have:=hs.1;simp[Wv]at this;omega) λσ' e d=>hR σ' e ?_;rw[g];exact(jl.loc _ _).mono d λq _ a=>.inl a
 ·exact PO h hs hx hfit λσ' e d=>hR σ' e ((jl.loc _ _).mono d λq _ a=>a.imp (λe=>by rw[e];exact h.1) id)
theorem RP (h:eC σ F Y tb bud ls)(hc:tb[k]?=some c)(hl:ls[k]?=some l){sl:Sl}{xs:List Int}{X:Rg}(hs:cP sl 1 (Wv xs) σ X)(hX:∀q,X q->¬F q)(hfit:l.os.length+xs.length<=256){R:aN}
 (hR:∀σ' Y',Ext F σ σ'->Y'.p=Y.p->eC σ' (Grow F σ) Y' tb bud (ls.set k (eO xs.reverse l))->R 0 σ'):Yx.c (aW Y.p) (k:Int) sl σ R:=by
 obtain⟨u,w⟩:=h.cls hc;have D:sl.len=xs.length:=by have:=hs.1;simp[Wv]at this;omega
 refine Yx.o ?_;refine Af h w λv Y' b e z H E=>cF rfl ?_;have m:=aH.bU hs e λq _ a=>hX q a;refine HV m Vj O λs1 K C J r=>?_;refine Ν r O λv2 A j=>?_;have d:bO v v2:=Ext.fresh J A λq a=>a;obtain⟨G,s,g⟩:=(E.bK d).fQ (e.trans (bO.to d)) H hl;refine J8 s j.fP aE λv3 y i=>?_;obtain⟨x,B⟩:=g v3 _ _ (y.sub λq a=>a▸s.1) (λq a=>a) i;exact hR v3 Y' x z B
theorem Qt {α:Type}{ls:List α}{k:Nat}{l:α}(h:ls[k]?=some l):ls.set k l=ls:=by
 apply zp;intro j;by_cases hj:j=k
 ·subst hj;rw[zM (cS.1 h).1,h]
 ·rw[zj (Ne.symm hj)]
theorem Om (h:eC σ F Y tb bud ls)(hc:tb[k]?=some c)(hl:ls[k]?=some l)(x:Int){R:Sl->Int->Hp->Prop}
 (hR:∀σ' Y' s e (Q:Rg),Ext F σ σ'->Y'.p=Y.p->(l.os.length+1<=256->e=0)->(∀q,Q q->σ.size<=q)->bR s 1 (Wv (dS c x l).1) σ' Q->eC σ' (λq=>Grow F σ q/\¬Q q) Y' tb bud (ls.set k (dS c x l).2)->R s e σ'):YW.c (aW Y.p) (k:Int) x σ R:=by
 obtain⟨M,hk⟩:=h.cls hc;refine YW.o ?_;refine Af h hk λv Y' b e hp hb h'=>cF rfl ?_;have hσv:=e.1;obtain⟨G,hG,hL,_,P⟩:=h'.w8 hb hl;have hblt:b<v.size:=by obtain⟨_,_,s,hbk,_⟩:=hL;exact hbk.lt
 have u:=hL.1;have ab:=hL.2.1;have hmany:=ab.many;have r:∀(σ':Hp) (l':Li) (G':Rg),Ext G v σ'->(∀q,G' q->Grow G v q)->jl b l' σ' G'->Ext F σ σ'/\eC σ' (λq=>Grow F σ q/\q<v.size/\¬G q\/G' q) Y' tb bud (ls.set k l'):=λσ' l' G' e' hg hL'=>by
  obtain⟨H,h1⟩:=P σ' l' G' e' hg hL';exact⟨e.iI H,h1⟩
 have hin:∀{G':Rg} {q:Nat},(∀q,G' q->Grow G v q)->(Grow F σ q/\q<v.size/\¬G q\/G' q)->Grow F σ q:=λhg a=>by
  rcases a with a|a
  ·exact a.1
  ·rcases hg _ a with E|E
   ·exact hG _ E
   ·exact .inr O
 refine nw (cs:=[.int .i64 x]) λv1 hz1 H hb1=>?_;have ac:=(jl.loc _ _).bK hL H;have K:cP ⟨some ⟨v.size,0,none⟩,1,1⟩ 1 (Wv [x]) v1 (· = v.size):=hb1.fP (o:=0) rfl (by simp[Wv]) (λj hj=>by
  simp only[Wv,zK,qz,zQ,lU]at hj ⊢;rw[zG])
 by_cases hfit:l.os.length+1<=256
 ·refine J8 ac K (by simpa using hfit) λv2 e2 A=>cF rfl ?_;have D:Ext G v v2:=(bO.to H).trans (e2.sub λq a=>a▸u);have aa:∀q,Grow G v1 q->Grow G v q:=λq a=>a.imp id λZ=>by omega
  obtain⟨eF2,E⟩:=r v2 _ _ D aa A;have i:(eO [x] l).os=l.os++[x]/\(eO [x] l).lim=l.lim/\(eO [x] l).low=l.low:=by unfold eO;rw[zA (by simp only[zQ,lU];omega)];exact⟨rfl,rfl,rfl⟩
  have w:=A;obtain⟨_,ok2,s2,g,S,C⟩:=A;have hs2l:s2.len=l.os.length+1:=by have:=S.1;simp[Wv,i.1]at this;omega
  refine aG (g.rS rfl (aG (g.rI rfl ?_)));rw[i.2.1];refine cH (λc1=>?_) λc1=>?_
  ·have B:l.os.length+1<=l.lim:=by simp only at c1;omega
   have y:dS c x l=([],eO [x] l):=by unfold dS;rw[zA O,zB B]
   refine hR v2 Y' _ 0 (λ_=>False) eF2 hp (λ_=>rfl) (λq a=>a.elim) (by rw[y];exact bR.nil _ _ _ _) ?_;rw[y];exact E.mono λq _ a=>⟨hin aa a,id⟩
  ·have B:¬l.os.length+1<=l.lim:=by simp only at c1;omega
   have y:dS c x l=gS (min c.batch (l.os.length+1)) (nC c (eO [x] l)):=by unfold dS;rw[zA O,zA B]
   have V:=E.hd;rw[hp]at V;refine aG (V.rS rfl (uX E.jW hc (d:=2) O ?_));simp only[zA (show ¬(2=0) by omega),zA (show ¬(2=1) by omega)];refine Jn.intro ?_;have rest:∀v3,Ext (· = b) v2 v3->jl b (nC c (eO [x] l)) v3 (Grow G v1)->bQ (some ⟨b,0,none⟩) λa62=>jB (a62.add 0) v3 λU=>Xc.c (aW b) (if((U.len:Nat):Int)<(c.batch:Int)then((U.len:Nat):Int)else(c.batch:Int)) v3 λt67 v4=>R t67 0 v4:=by
    intro v3 e3 hL3;have L:=hL3;obtain⟨_,ok3,s3,N,hs3,hcap3⟩:=hL3;have W:(nC c (eO [x] l)).os=l.os++[x]:=by unfold nC;split<;>exact i.1
    have J:s3.len=l.os.length+1:=by have:=hs3.1;simp[Wv,W]at this;omega
    refine aG (N.rS rfl ?_);have em:(if((s3.len:Nat):Int)<(c.batch:Int)then((s3.len:Nat):Int)else(c.batch:Int))=((min c.batch (l.os.length+1):Nat):Int):=by rw[J];split<;>omega
    rw[em];refine Gw L (by rw[W];simp;omega) λs z v4 e4 hz hr hL4=>?_;have e24:Ext (· = b) v2 v4:=e3.trans e4;have e04:Ext G v v4:=D.trans (e24.sub λq a=>a▸u);have hs23:=e3.1;have hs02:=D.1;obtain⟨eF4,h4⟩:=r v4 _ (λq=>q=b\/z<=q) e04 (λq a=>a.imp (λ(Z:q=b)=>by rw[Z];exact u) λ(Z:z<=q)=>O) hL4;refine hR v4 Y' s 0 (λq=>v3.size<=q/\q<z) eF4 hp (λ_=>rfl) (λq a=>O) (by rw[y];exact hr) ?_;rw[y];refine h4.mono λq _ a=>⟨?_,λhQ=>?_⟩
    ·rcases a with a|a|a
     ·exact a.1
     ·subst a;exact hG _ u
     ·exact .inr O
    ·rcases a with a|a|a<;>omega
   refine aG (g.rI rfl ?_);rw[i.2.1];refine cH (λc2=>?_) λc2=>?_
   ·have c2':l.lim<c.batch:=by omega
    have eu:nC c (eO [x] l) = {eO [x] l with lim:=l.lim+1}:=by unfold nC;rw[i.2.1,zB c2']
    have X:=LP M ok2;refine aG (g.rI rfl ?_);rw[i.2.1];have hl128:=ab.lim;refine bZ (m:=l.lim+1) O O (aG (g.s1 (by simp[nW]) λv3 o3 hb3=>rest v3 o3.ext ?_));rw[eu]at X ⊢;exact w.st o3.ext hb3 S C X
   ·have eu:nC c (eO [x] l)=eO [x] l:=by unfold nC;rw[i.2.1,zA O]
    exact rest v2 (Ext.refl _ _) (by rw[eu];exact w)
 ·refine WkI ac K (by simpa using hfit) aA (cJ rfl ?_);have y:dS c x l=([],l):=by unfold dS;rw[zB O]
  refine hR v1 Y' _ 6 (λ_=>False) (e.trans (bO.to H)) hp (λZ=>absurd Z hfit) (λq a=>a.elim) (by rw[y];exact bR.nil _ _ _ _) ?_;rw[y,Qt hl];exact(h'.bK H).mono λq _ a=>⟨a,id⟩
end Go.Ar
namespace Go.Ar
open Go Go.Vc Go.Proofs
open Go.Bu (Zi QR Zz iX)
variable {σ:Hp}{F:Rg}{p hs:Nat}{A:AR}{Y:Lay}{T:Nat->Hp->Rg->Prop}
theorem cX.rE (h:cX σ F Y A T){k q:Nat}{c:bX}{ss:List cI}(h1:Y.fJ[k]?=some q)(h2:A.tb[k]?=some c)(h3:A.cC[k]?=some ss) :
 ∃G:Rg,(∀b,G b->F b)/\(∃ps,fC σ G q c ps ss)/\(∀j,∃H:Rg,(∀b,H b->F b)/\(∀b,H b->¬G b)/\T j σ H)/\∀(σ':Hp) (ss':List cI) (ps':List (Nat×Nat)) (G' H:Rg),
  Ext G σ σ'->(∀b,G' b->G b\/σ.size<=b)->fC σ' G' q c ps' ss'->(∀b,(F b/\b<σ.size/\¬G b\/G' b)->H b)->cX σ' H Y {A with cC:=A.cC.set k ss'} T:=by
 obtain⟨G,d,g,hd,a⟩:=h.step (.cC k);have r:k<A.cC.length:=(cS.1 h3).1;refine⟨G,d,ES h1 h2 h3 g,λj=>hd (.cE j) (by intro e;cases e),λσ' ss' ps' G' H e p i m=>?_⟩;refine a σ' _ _ T G' H h.lay.lH h.tl Wpn e p ?_ m;simp only[AC];rw[h1,h2,zM r];exact⟨ps',i⟩
theorem Rz (h:cX σ F Y A T)(k m:Int){R:Sl->Int->Hp->Prop}(hR:∀s σ',Ext F σ σ'->bR s 1 (ints (Yy A k m)) σ' (λb=>σ.size<=b)->cX σ' (Cut F σ) Y (YS A k m) T->R s (QM A k m) σ') :
 WE.c (aW Y.p) k m σ R:=by
 refine WE.o ?_;refine UJ h k (λw=>?_) λx J z=>?_
 ·have a:QM A k m=1:=by unfold QM;rw[w];rfl
  have j:YS A k m=A:=by unfold YS;rw[a];rfl
  have i:Yy A k m=[]:=by unfold Yy;rw[a];rfl
  have:=hR ⟨none,0,0⟩ σ (Ext.refl _ _) (by rw[i];exact bR.nil _ _ _ _) (by rw[j];exact h.cut);rw[a]at this;exact cJ rfl this
 ·subst J;have w:A.ck (x:Int)=true:=by unfold AR.ck;simp;omega
  obtain⟨c,ss,q,t,r,D,u,C,_,_,L⟩:=h.at_ z;obtain⟨G,H,⟨M,E⟩,_,g⟩:=h.rE C D u;refine cF rfl (aG (h.hd.rS rfl (h.kq C ?_)));by_cases hm:m<0
  ·have a:QM A x m=1:=by unfold QM;rw[w,zB rfl,zB hm]
   have j:YS A x m=A:=by unfold YS;rw[a];rfl
   have i:Yy A x m=[]:=by unfold Yy;rw[a];rfl
   have:=hR ⟨none,0,0⟩ σ (Ext.refl _ _) (by rw[i];exact bR.nil _ _ _ _) (by rw[j];exact h.cut);rw[a]at this;exact Nh E m hm this
  ·have a:QM A x m=0:=by unfold QM;rw[w,zB rfl,zA hm]
   have B:VC A x m=Ke c m.toNat ss:=by unfold VC;simp only[dC];rw[D,u]
   have j:YS A x m = {A with cC:=A.cC.set x (Ke c m.toNat ss).2}:=by unfold YS;rw[a,zB rfl,B];rfl
   have i:Yy A x m=(Ke c m.toNat ss).1:=by unfold Yy;rw[a,zB rfl,B]
   refine N7 E m O λs σ' e d y=>?_;have:=hR s σ' (e.sub H) (by rw[i];exact d) (by rw[j];exact g σ' _ _ (Cut G σ) _ e (λb K=>.inl K.1) y (Ec H));rw[a]at this;exact this
theorem Pd {k:Nat}{f:fU->fU}:∀j,j≠Lb.cE k->AC {A with cE:=A.cE.modify k f} Y (cG {A with cE:=A.cE.modify k f} Y) j=AC A Y (cG A Y) j:=by
 intro j hj;cases j<;>first|rfl|skip
 rename_i k';have a:k≠k':=λe=>hj (by rw[e]);simp only[AC,cG];simp[ur,a]
theorem eZ.kv {k:Nat}{f:fU->fU}(h:eZ A Y):eZ {A with cE:=A.cE.modify k f} Y:=⟨h.c,h.t,h.cC,by simpa using h.cE,h.nU,h.oS,h.n1,h.n2,h.n3,h.st,h.room,h.ok⟩
theorem cX.uN (h:cX σ F Y A (cG A Y)){k q:Nat}{c:bX}{t:fU}(h1:Y.gC[k]?=some q)(h2:A.tb[k]?=some c)(h3:A.cE[k]?=some t) :
 ∃G:Rg,(∀b,G b->F b)/\iA σ G q c.batch A.room t/\∀(σ':Hp) (f:fU->fU) (G' H:Rg),
  Ext G σ σ'->(∀b,G' b->G b\/σ.size<=b)->iA σ' G' q c.batch A.room (f t)->(∀b,(F b/\b<σ.size/\¬G b\/G' b)->H b)->cX σ' H Y {A with cE:=A.cE.modify k f} (cG {A with cE:=A.cE.modify k f} Y):=by
 obtain⟨G,m,d,hd,a⟩:=h.step (.cE k);have g:iA σ G q c.batch A.room t:=by
  simp only[AC,cG]at d;rw[h1,h2,h3]at d;exact d
 refine⟨G,m,g,λσ' f G' H e r p i=>?_⟩;refine a σ' _ _ _ G' H h.lay.kv (λj=>cG.loc j) Pd e r ?_ i;simp only[AC,cG];rw[h1,h2,List.getElem?_modify_eq,h3];exact p
theorem η (h:cX σ F Y A (cG A Y))(k:Int){R:Sl->Int->Hp->Prop}(hR:∀s σ',Ext F σ σ'->(∀b,lE s b->F b)->cP s 1 (Wv (YP A k)) σ' (lE s)->s.len<=s.cap->cX σ' (λb=>F b/\¬lE s b) Y (ZW A k) (cG (ZW A k) Y)->R s (Qd A k) σ') :
 WA.c (aW Y.p) k σ R:=by
 refine WA.o ?_;refine UJ h k (λD=>?_) λx P H=>?_
 ·have g:Qd A k=1:=by unfold Qd;rw[D];rfl
  have y:ZW A k=A:=by unfold ZW;rw[g];rfl
  have m:YP A k=[]:=by unfold YP;rw[g];rfl
  have:=hR ⟨none,0,0⟩ σ (Ext.refl _ _) (λb d=>by obtain⟨a,i,_⟩:=d;cases i) (by rw[m];exact cP.nil _ _ _ _) (zC _) (by rw[y];exact h.mono λb _ d=>⟨d,λ⟨a,i,_⟩=>by cases i⟩);rw[g]at this;exact cJ rfl this
 ·subst P;have D:A.ck (x:Int)=true:=by unfold AR.ck;simp;omega
  obtain⟨c,V,q,t,r,M,Q,U,C,L,S⟩:=h.at_ H;obtain⟨G,J,K,w⟩:=h.uN L M C;refine cF rfl (aG (h.hd.rS rfl (h.p7 L ?_)));by_cases d:t.bs=[]
  ·have g:Qd A x=4:=by unfold Qd;rw[D,zB rfl];simp only[dC];rw[C];simp[d]
   have y:ZW A x=A:=by unfold ZW;rw[g];rfl
   have m:YP A x=[]:=by unfold YP;rw[g];rfl
   have:=hR ⟨none,0,0⟩ σ (Ext.refl _ _) (λb d=>by obtain⟨a,i,_⟩:=d;cases i) (by rw[m];exact cP.nil _ _ _ _) (zC _) (by rw[y];exact h.mono λb _ d=>⟨d,λ⟨a,i,_⟩=>by cases i⟩);rw[g]at this;exact Wft K d this
  ·have g:Qd A x=0:=by unfold Qd;rw[D,zB rfl];simp only[dC];rw[C];simp[d]
   have y:ZW A x = {A with cE:=A.cE.modify x fU.rem}:=by unfold ZW;rw[g,zB rfl];rfl
   have m:YP A x=t.bs.getLast?.getD []:=by unfold YP;rw[g,zB rfl];simp only[dC];rw[C]
   refine Wiz K d λs σ' e B j u E=>?_;have z:∀b,(F b/\b<σ.size/\¬G b\/G b/\¬lE s b)->F b/\¬lE s b:=λb d=>by
    rcases d with d|d
    ·exact⟨d.1,λN=>d.2.2 (B b N)⟩
    ·exact⟨J b d.1,d.2⟩
   have:=hR s σ' (e.sub J) (λb d=>J b (B b d)) (by rw[m];exact j) u (by rw[y];exact w σ' _ (λb=>G b/\¬lE s b) _ e (λb d=>.inl d.1) E z);rw[g]at this;exact this
theorem Np (h:cX σ F Y A (cG A Y))(k:Int){sl:Sl}{xs:List Int}{X:Rg}(hs:cP sl 1 (Wv xs) σ X)(hi:∀x∈xs,iF x){R:Bool->Int->Hp->Prop}(hR:∀σ',Ext F σ σ'->cX σ' (Grow F σ) Y (Kf A k xs) (cG (Kf A k xs) Y)->R (Vp A k xs) (HW A k xs) σ') :
 WK.c (aW Y.p) k sl σ R:=by
 refine WK.o ?_;have u:sl.len=xs.length:=by have:=hs.1;simp[Wv]at this;omega
 have no:∀e:Int,e≠0->HW A k xs=e->R false e σ:=λe he C=>by
  have e3:Vp A k xs=false:=by unfold Vp;rw[zb O];rfl
  have L:Kf A k xs=A:=by unfold Kf;rw[e3];rfl
  have:=hR σ (Ext.refl _ _) (by rw[L];exact h.mono λb _ g=>.inl g);rw[C,e3]at this;exact this
 refine UJ h k (λhk=>cJ rfl (no 1 aB (by unfold HW;rw[hk];rfl))) λx P U=>?_;subst P;have hk:A.ck (x:Int)=true:=by unfold AR.ck;simp;omega
 obtain⟨c,W,q,t,r,N,M,hq,ht,hr,hok⟩:=h.at_ U;obtain⟨G1,ps,hG1,V⟩:=h.cC hq N M;obtain⟨G,hG,hC,K⟩:=h.uN hr N ht;have Q:HW A x xs=if xs.length=c.batch then(if xs.all (λx=>eB c W x==some true)then 0 else 8)else 1:=by unfold HW;rw[hk,zB rfl];simp only[dC];rw[N,M]
 refine cF rfl (aG (h.hd.rS rfl (h.xQ (d:=2) N O ?_)));simp only[zA (show ¬(2=0) by omega),zA (show ¬(2=1) by omega)];rw[uW];refine cN (λg=>?_) λg=>?_
 ·have:¬xs.length=c.batch:=by rw[←u];simpa using g
  exact no 1 aB (by rw[Q,zA this])
 have H:xs.length=c.batch:=by rw[←u];simpa using g
 rw[zB H]at Q;have h32:c.batch<=32:=hok.2.2.2.2.2.2.2;refine ZP (a:=bN) (λ(i:Int) v=>∃j:Nat,i=(j:Int)/\j<=xs.length/\v=σ/\∀y∈xs.take j,eB c W y=some true) (λi _=>xs.length-i.toNat) ⟨0,rfl,O,rfl,by simp⟩ ?_;rintro i v ⟨j,rfl,hj,rfl,s⟩;refine cH (λhlt2=>?_) λhge=>?_
 ·have J:j<xs.length:=by omega
  have P:xs[j]?=some xs[j]:=cL J;have aa:xs.take (j+1)=xs.take j++[xs[j]]:=by rw[zf,P];rfl
  have w:=zd J;generalize xs[j]=y at *;have E:eB c W y≠some true->R false 8 v:=λZ=>no 8 aB (by
   rw[Q,zA];intro ha;rw[kR]at ha;exact Z (by simpa using ha y w))
  refine hs.qc P (aG (h.hd.rS rfl (h.kq hq (Mt V _ (hi y w) (λb g=>?_) λg=>?_))))
  ·refine bY.intro (cF rfl ?_);cases b
   ·exact cJ rfl (E (by rw[g];simp))
   ·refine cF rfl (bZ (m:=j+1) O O ⟨⟨j+1,rfl,O,rfl,λz hz=>?_⟩,O⟩);rw[aa]at hz;rcases zP.1 hz with C|C
    ·exact s z C
    ·simp at C;rw[C];exact g
  ·exact bY.intro (cJ rfl (cJ rfl (E (by rw[g];simp))))
 ·have:j=xs.length:=by omega
  subst this;rw[zm]at s;have B:HW A x xs=0:=by
   rw[Q,zB];rw[kR];intro y hy;simp[s y hy]
  have D:Vp A x xs=decide (t.bs.length<A.room):=by unfold Vp;rw[B];simp only[dC];rw[ht];simp
  refine aG (h.hd.rS rfl (h.p7 hr (Nu hC hs O (λZ=>absurd H Z) (λ_ hf=>?_) λ_ hf σ' e S=>?_)))
  ·rw[zb O]at D;have L:Kf A x xs=A:=by unfold Kf;rw[D];rfl
   have:=hR v (Ext.refl _ _) (by rw[L];exact h.mono λb _ g=>.inl g);rw[B,D]at this;exact this
  ·rw[zU O]at D;have L:Kf A x xs = {A with cE:=A.cE.modify x λt=>{t with bs:=t.bs++[xs]}}:=by unfold Kf;rw[D,zB rfl];rfl
   have:=hR σ' (e.sub hG) (by rw[L];exact K σ' (λt=>{t with bs:=t.bs++[xs]}) (Grow G v) _ e (λb g=>g) S (Ha hG λb g=>g));rw[B,D]at this;exact this
theorem fC.FW {q:Nat}{c:bX}{ps:List (Nat×Nat)}{ss:List cI}{G:Rg}(h:fC σ G q c ps ss):∀s∈ss,s.st<=1024:=by
 intro s hs;obtain⟨i,a⟩:=zL hs;have d:=(cS.1 a).1;have b:i<ps.length:=by rw[h.len];exact d
 have:=(h.sp _ _ _ (cL b) a).fit;omega
theorem GV (h:cX σ F Y A T)(k:Int){sl:Sl}{xs:List Int}(hi:∀x∈xs,iF x)(hl:xs.length<=1000000)(hcap:sl.len<=sl.cap)
 (hs:(∃X:Rg,cP sl 1 (Wv xs) σ X/\∀b,b<σ.size->X b->¬F b)\/∃j,∀H,T j σ H->cP sl 1 (Wv xs) σ H)
 {R:aN} (hR:∀σ',Ext F σ σ'->cX σ' (Grow F σ) Y (Zj A k xs) T->R (Q3 A k xs) σ') :
 WC.c (aW Y.p) k sl σ R:=by
 refine WC.o ?_;have no:∀e:Int,e≠0->Q3 A k xs=e->R e σ:=λe he S=>by
  have V:Zj A k xs=A:=by unfold Zj;rw[zA O]
  have:=hR σ (Ext.refl _ _) (by rw[V];exact h.mono λb _ d=>.inl d);rw[S]at this;exact this
 refine UJ h k (λP=>cJ rfl (no 1 aB (by unfold Q3;rw[P];rfl))) λx hx L=>?_;subst hx;have P:A.ck (x:Int)=true:=by unfold AR.ck;simp;omega
 obtain⟨c,g,q,t,r,J,u,hq,_,_,hok⟩:=h.at_ L;obtain⟨G,Z,⟨ps,K⟩,hd,B⟩:=h.rE hq J u;have hX:∃X:Rg,cP sl 1 (Wv xs) σ X/\∀b,X b->¬G b:=by
  rcases hs with⟨X,S,h2⟩|⟨j,hj⟩
  ·exact⟨Cut X σ,aH.cut S,λb d hg=>h2 b d.2 d.1 (Z b hg)⟩
  ·obtain⟨H,_,D,hT⟩:=hd j;exact⟨H,hj H hT,D⟩
 obtain⟨X,hsX,N⟩:=hX;have eE:Q3 A x xs=iT c g xs:=by unfold Q3;rw[P,zB rfl];simp only[dC];rw[J,u]
 refine cF rfl (aG (h.hd.rS rfl (h.kq hq (NP K hsX N hi hl hcap (λD=>?_) λh0 o σ1 Q m E=>?_))))
 ·refine cJ (by simpa using D) (no _ D eE)
 ·refine cF rfl ?_;have eS:Zj A x xs=VW {A with cC:=A.cC.set x (cK (xs.foldl (fK c) g))} ((Qc (xs.foldl (fK c) g)).map λs=>(s,c.aF)):=by
   unfold Zj;rw[eE,zB h0];simp only[dC];rw[J,u]
  have M:=B σ1 _ _ (Cut G σ) _ Q (λb d=>.inl d.1) E (Ec Z);rw[IA]at m;have C:((Qc (xs.foldl (fK c) g)).map λs=>(s,c.aF)).length<=1000000/\∀r∈((Qc (xs.foldl (fK c) g)).map λs=>(s,c.aF)),r.1<=1000000:=by
   have i:∀(ys:List Int) (ls:List cI),((ys.foldl (fK c) ls).map (·.st))=ls.map (·.st):=by
    intro ys
    induction ys with
    | nil=>intro ls;rfl
    | cons y ys ih=>
     intro ls;rw[lC,ih];unfold fK;split
     ·rename_i j hj;split
      ·rename_i s a;split
       ·simp only[uj];apply zp;intro z;rw[nq];by_cases w:j=z
        ·subst w;rw[zB rfl];have:=(cS.1 a).1;rw[zB (by simpa using this)];simp[a,cI.put]
        ·rw[zA w]
       ·rfl
      ·rfl
     ·rfl
   have U:∀s∈Qc (xs.foldl (fK c) g),s∈g.map (·.st):=by
    intro s a;rw[←i xs g];unfold Qc at a;simp only[zD,zH]at a ⊢;obtain⟨z,w,rfl⟩:=a;exact⟨z,w.1,rfl⟩
   have hfew:=K.lA;refine⟨?_,λr hr=>?_⟩
   ·have:(Qc (xs.foldl (fK c) g)).length<=(xs.foldl (fK c) g).length:=by
     unfold Qc;rw[za];exact na _ _
    have h2:(xs.foldl (fK c) g).length=g.length:=by have:=congrArg List.length (i xs g);simpa using this
    rw[za];omega
   ·obtain⟨s,a,rfl⟩:=zD.1 hr;obtain⟨z,w,rfl⟩:=zD.1 (U s a);have:=K.FW z w;simp only;omega
  refine Cr M m.fP (λb _ d hf=>by have:=hf.2;omega) C.1 C.2 λσ2 V W=>?_;have:=hR σ2 ((Q.sub Z).trans (V.sub λb d=>d.1)) ?_
  ·rw[eE,h0]at this;exact this
  ·rw[eS];exact W.mono λb _ d=>by
    rcases d with d|d
    ·exact .inl d.1
    ·exact .inr (zI Q.1 d)
theorem Tt (l:List (Nat×Nat))(x:Int):bV (iB l) x=(l.find? λr=>(r.1:Int)==x).map λr=>(r.2:Int):=by
 induction l with
 | nil=>rfl
 | cons r l ih=>
  have:iB (r::l)=((r.1:Int),(r.2:Int))::iB l:=rfl;rw[this,Kl,wh,ih];by_cases h:(r.1:Int)=x
  ·simp[h]
  ·have:((r.1:Int)==x)=false:=by simpa using h
   rw[this,zA h]
theorem Rs (l:List (Nat×Nat))(x:Int):cT (iB l) x=iB (l.filter λq=>!((q.1:Int)==x)):=by
 unfold cT iB;rw[List.filter_map];rfl
theorem WlN (l:List (Nat×Nat))(x m:Nat):dE (iB l) (x:Int) (m:Int)=iB (cD.mset2 l x m):=by
 unfold dE cD.mset2 iB;have e:(l.map λr=>((r.1:Int),(r.2:Int))).any (λy=>y.1==(x:Int))=l.any λr=>r.1==x:=by
  rw[List.any_map]
  congr 1
  funext r
  exact ke r.1 x
 rw[e];split
 ·rw[kP,kP];apply kA;intro r _;simp only[Function.comp_def];rw[ke];split<;>rfl
 ·simp
theorem cX.pU (h:cX σ F Y A T):F Y.rn/\dN σ Y.rn .i64 bN (iB A.runs)/\∀(σ':Hp) (rs:List (Nat×Nat)),QJ σ σ' Y.rn->dN σ' Y.rn .i64 bN (iB rs)->cX σ' F Y {A with runs:=rs} T:=by
 obtain⟨G,g,⟨e,m⟩,_,a⟩:=h.step .runs;refine⟨g _ e,m,λσ' rs j p=>?_⟩;exact a σ' _ _ T G _ h.lay.sd h.tl Pf (j.ext.sub λb d=>by subst d;exact e) (λb d=>.inl d) ⟨e,p⟩ (AK g λb d=>d)
theorem PY (h:cX σ F Y A T)(x:Int)(hf:∀r∈A.runs,r.1<=1000000){R:aN}(hR:∀σ',Ext F σ σ'->cX σ' (Grow F σ) Y (QL A x) T->R (Va A x) σ') :
 WU.c (aW Y.p) x σ R:=by
 refine WU.o ?_;obtain⟨Q,L,g⟩:=h.pU;refine Vd h (cF rfl (aG (h.hd.rM rfl ⟨_,L,?_⟩)));rw[Tt];cases hr:(A.runs.find? λr=>(r.1:Int)==x)with
 | none=>
  have J:Va A x=8:=by unfold Va qG;rw[hr];rfl
  have z:QL A x=A:=by unfold QL qG;rw[hr]
  have:=hR σ (Ext.refl _ _) (by rw[z];exact h.mono λb _ a=>.inl a);rw[J]at this;exact cJ rfl this
 | some r=>
  have J:Va A x=0:=by unfold Va qG;rw[hr];rfl
  have z:QL A x=Ui {A with runs:=A.runs.filter λq=>!((q.1:Int)==x)} r:=by unfold QL qG;rw[hr]
  have w:=uQ hr;have u:(r.1:Int)=x:=by simpa using tQ hr
  refine cF rfl (aG (h.hd.rM rfl ⟨_,L,λm y _ s=>?_⟩));have o1:=y _ rfl;have d:dN m Y.rn .i64 bN (cT (iB A.runs) x):=s;rw[Rs]at d;have E:=g m _ o1 d;simp only[zh,px];refine nw (cs:=[.int .i64 x,.int .i64 (r.2:Int)]) λS M e G=>?_;have B:=E.cut.bK e;have C:cP ⟨some ⟨m.size,0,none⟩,1,1⟩ 2 (rV [r]) S (· = m.size):=by
   refine⟨rfl,.inr ⟨_,0,_,rfl,rfl,G.q,λj U=>?_⟩⟩;have:rV [r]=[.int .i64 (r.1:Int),.int .i64 (r.2:Int)]:=rfl;rw[this,u,zG]
  refine Cr B C (λb _ a N=>by have:=N.2;omega) aA (λq K=>by simp at K;subst K;exact hf _ w) λv3 P D=>?_;have H:Ext F σ v3:=(o1.ext.sub λb a=>by subst a;exact Q).trans ((bO.to e).trans (P.sub λb a=>a.1));have:=hR v3 H (by
   rw[z];exact D.mono λb _ a=>by
    rcases a with a|a
    ·exact .inl a.1
    ·exact .inr (by have:=o1.1;omega))
  rw[J]at this;exact this
theorem Qp (rs:List (Nat×Nat)):∀A:AR,(VW A rs).tb=A.tb/\(VW A rs).room=A.room/\(VW A rs).cE=A.cE/\(VW A rs).cC=A.cC/\(VW A rs).runs=A.runs/\(VW A rs).n=A.n:=by
 induction rs with
 | nil=>intro A;exact⟨rfl,rfl,rfl,rfl,rfl,rfl⟩
 | cons r rs ih=>intro A;exact ih (Ui A r)
theorem VF (A:AR)(k:Int)(xs:List Int):(Zj A k xs).tb=A.tb/\(Zj A k xs).room=A.room/\(Zj A k xs).cE=A.cE/\(Zj A k xs).runs=A.runs/\(Zj A k xs).n=A.n:=by
 unfold Zj;split
 ·split
  ·exact⟨(Qp _ _).1,(Qp _ _).2.1,(Qp _ _).2.2.1,(Qp _ _).2.2.2.2.1,(Qp _ _).2.2.2.2.2⟩
  ·exact⟨rfl,rfl,rfl,rfl,rfl⟩
 ·exact⟨rfl,rfl,rfl,rfl,rfl⟩
theorem cX.Oq {T':Nat->Hp->Rg->Prop}(h:cX σ F Y A T)(hT:∀k,dR (T' k))(hi:∀k G,T k σ G->T' k σ G):cX σ F Y A T':=by
 refine⟨h.lay,hT,?_⟩;obtain⟨ρ,a⟩:=h.sep;refine⟨ρ,λi=>?_⟩;have:=a i;cases i<;>first|exact this|exact hi _ _ this
theorem TB (h:cX σ F Y A T){k:Nat}(hk:k<A.tb.length){q:Nat}(hq:Y.fJ[k]?=some q){K:aP}(hK:∀σ',Ext F σ σ'->cX σ' (Grow F σ) Y (QS A k) T->K σ') :
 W0.c (aW q) σ λt34 v2=>Xe.c (aW Y.p) t34 v2 K:=by
 obtain⟨c,m,U,t,r,D,j,i,_,_,R⟩:=h.at_ hk;rw[hq]at i;cases i;obtain⟨G,E,⟨V,w⟩,hd,g⟩:=h.rE hq D j;refine Ml w λo S y d u=>?_;have x:=g S _ _ (Cut G σ) _ y (λb a=>.inl a.1) u (Ec E);rw[IA]at d;have L:QS A k=VW {A with cC:=A.cC.set k (cK m)} ((Qc m).map λs=>(s,c.aF)):=by
  unfold QS;rw[D,j]
 have H:=w.lA;have B:=w.FW;refine Cr x d.fP (λb _ a J=>by have:=J.2;omega) ?_ (λr P=>?_) λM N C=>?_
 ·have:(Qc m).length<=m.length:=by unfold Qc;rw[za];exact na _ _
  rw[za];omega
 ·obtain⟨s,e,rfl⟩:=zD.1 P;unfold Qc at e;simp only[zD,zH]at e;obtain⟨z,Q,rfl⟩:=e;have:=B z Q.1;simp only;omega
 ·refine hK M ((y.sub E).trans (N.sub λb a=>a.1)) ?_;rw[L];exact C.mono λb _ a=>by
   rcases a with a|a
   ·exact .inl a.1
   ·exact .inr (zI y.1 a)
theorem Pr (A:AR)(k:Nat):(QS A k).tb=A.tb/\(QS A k).room=A.room/\(QS A k).cE=A.cE/\(QS A k).runs=A.runs/\(QS A k).n=A.n:=by
 unfold QS;split
 ·exact⟨(Qp _ _).1,(Qp _ _).2.1,(Qp _ _).2.2.1,(Qp _ _).2.2.2.2.1,(Qp _ _).2.2.2.2.2⟩
 ·exact⟨rfl,rfl,rfl,rfl,rfl⟩
theorem VB (m:Nat)(A:AR):((List.range m).foldl QS A).tb=A.tb/\((List.range m).foldl QS A).room=A.room/\((List.range m).foldl QS A).cE=A.cE/\((List.range m).foldl QS A).runs=A.runs/\((List.range m).foldl QS A).n=A.n:=by
 induction m with
 | zero=>exact⟨rfl,rfl,rfl,rfl,rfl⟩
 | succ m ih=>
  rw[zw,m6];have:=Pr ((List.range m).foldl QS A) m;exact⟨this.1.trans ih.1,this.2.1.trans ih.2.1,this.2.2.1.trans ih.2.2.1,this.2.2.2.1.trans ih.2.2.2.1,this.2.2.2.2.trans ih.2.2.2.2⟩
theorem NA (h:cX σ F Y A T){dH:Sl}(hcr:dH=Y.dH){K:aP}(hK:∀σ',Ext F σ σ'->cX σ' (Grow F σ) Y (YO A) T->K σ') :
 WR [bN] (λI=>I 0 σ) λJ (t28:Int) v1=>If (decide (t28<((dH.len:Nat):Int))) (Ix dH.a dH.len t28 1 λa30=>fX a30 v1 λl=>W0.c l v1 λt34 v2=>
  Xe.c (aW Y.p) t34 v2 λv3=>Ar .i64 (t28+1) λt36=>J t36 v3) (K v1):=by
 subst hcr;have H:=h.wK;refine ZP (a:=bN) (λ(t:Int) v=>∃i:Nat,t=(i:Int)/\i<=A.tb.length/\Ext F σ v/\cX v (Grow F σ) Y ((List.range i).foldl QS A) T) (λt _=>A.tb.length-t.toNat) ⟨0,rfl,O,Ext.refl _ _,h.mono λb _ d=>.inl d⟩ ?_;rintro t v ⟨i,rfl,E,e,j⟩;refine cH (λB=>?_) λx=>?_
 ·have g:i<A.tb.length:=by omega
  have u:=VB i A;obtain⟨c,G,q,t,r,D,z,w,_,_,C⟩:=h.at_ g;refine j.kq w (TB j.cut (by rw[u.1];exact g) w λv3 y s=>?_);refine bZ (m:=i+1) O (by have:=h.lay.oS;omega) ⟨⟨i+1,rfl,O,e.iI (y.sub λb d=>d.1),?_⟩,O⟩;rw[zw,m6];exact s.mono λb _ d=>by
   rcases d with d|d
   ·exact d.1
   ·exact .inr (zI e.1 d)
 ·have:i=A.tb.length:=by omega
  subst this;exact hK v e j
def lG (A:AR):Prop:=∀t∈A.cE,∀xs∈t.bs,∀x∈xs,iF x
theorem fU.mP (t:fU):∀xs∈t.tick.bs,xs∈t.bs:=λxs h=>qZ h
theorem fU.rr (t:fU):∀xs∈t.out,xs∈t.bs:=λxs h=>m7 h
theorem Vg {α:Type}{l:List α}{k:Nat}{t:α}{f:α->α}(h:l[k]?=some t):l.modify k f=l.set k (f t):=by
 apply zp;intro i;rw[nq,ur];by_cases hi:k=i
 ·subst hi;have:=(cS.1 h).1;rw[zB rfl,zB this,h];simp
 ·simp[hi]
theorem Hb (A:AR)(k:Nat):(Kz A k).tb=A.tb/\(Kz A k).room=A.room/\(Kz A k).cE=(match A.cE[k]? with|some t=>A.cE.set k t.tick|none=>A.cE)/\(Kz A k).runs=A.runs/\(Kz A k).n=A.n:=by
 have key:∀(l:List (List Int)) (B:AR),(l.foldl (λA' a=>Zj A' k a) B).tb=B.tb/\(l.foldl (λA' a=>Zj A' k a) B).room=B.room/\(l.foldl (λA' a=>Zj A' k a) B).cE=B.cE/\(l.foldl (λA' a=>Zj A' k a) B).runs=B.runs/\(l.foldl (λA' a=>Zj A' k a) B).n=B.n:=by
  intro l
  induction l with
  | nil=>intro B;exact⟨rfl,rfl,rfl,rfl,rfl⟩
  | cons x l ih=>
   intro B;have b:=ih (Zj B k x);have d:=VF B k x;exact⟨b.1.trans d.1,b.2.1.trans d.2.1,b.2.2.1.trans d.2.2.1,b.2.2.2.1.trans d.2.2.2.1,b.2.2.2.2.trans d.2.2.2.2⟩
 unfold Kz;cases A.cE[k]? with
 | none=>exact⟨rfl,rfl,rfl,rfl,rfl⟩
 | some t=>exact key _ _
theorem Sn {k:Nat}(h:lG A):lG (Kz A k):=by
 unfold lG;rw[(Hb A k).2.2.1];cases hk:A.cE[k]? with
 | none=>exact h
 | some t=>
  intro t' ht';rcases wQ ht' with h1|h1
  ·exact h t' h1
  ·subst h1;exact λb a=>h t (zE hk) b (t.mP b a)
def pv (A:AR)(Y:Lay)(k r:Nat)(c:bX)(t:fU)(out:Sl)(sls:List Sl)(j:Nat):Hp->Rg->Prop:=
 if j=k then λσ G=>iA σ G r c.batch A.room t.tick/\cP out 1 (sls.map nQ) σ G/\pd sls t.out σ G else cG A Y j
theorem pv.loc {k r:Nat}{c:bX}{t:fU}{out:Sl}{sls:List Sl}(j:Nat):dR (pv A Y k r c t out sls j):=by
 unfold pv;split
 ·exact λσ i F G ⟨d,e,g⟩ a b=>⟨iA.loc _ _ _ _ d a b,cP.loc _ _ _ _ _ _ _ e a b,pd.loc _ _ _ _ _ _ g a b⟩
 ·exact cG.loc j
theorem Wm8 {k r:Nat}{c:bX}{t:fU}{out:Sl}{sls:List Sl}{tr:List fU}:∀j,j≠Lb.cE k->AC {A with cE:=tr} Y (pv A Y k r c t out sls) j=AC A Y (cG A Y) j:=by
 intro j hj;cases j<;>first|rfl|skip
 rename_i k';have a:¬k'=k:=λe=>hj (by rw[e]);simp only[AC,pv];rw[zA a]
theorem OQ (h:cX σ F Y A (cG A Y)){k r:Nat}(hk:k<A.tb.length)(hr:Y.gC[k]?=some r)(hI:lG A){K:aP}(hK:∀σ',Ext F σ σ'->cX σ' (Grow F σ) Y (Kz A k) (cG (Kz A k) Y)->K σ') :
 Xj.c (aW r) σ λt20 v2=>WR [bN] (λI1=>I1 0 v2) λJ1 (t22:Int) v3=>If (decide (t22<((t20.len:Nat):Int))) (Ix t20.a t20.len t22 1 λa24=>jB a24 v3 λbatch=>
  WC.c (aW Y.p) (k:Int) batch v3 λt29 v4=>Ar .i64 (t22+1) λt30=>J1 t30 v4) (K v3):=by
 obtain⟨c,ss,q,t,r',hc,hss,hq,P,N,hok⟩:=h.at_ hk;rw[hr]at N;cases N;obtain⟨G,hG,hi,hd,L⟩:=h.step (.cE k);have D:iA σ G r c.batch A.room t:=by
  simp only[AC,cG]at hi;rw[hr,hc,P]at hi;exact hi
 refine TG D λout v2 e2 J R=>?_;obtain⟨d,E,M⟩:=J;have V:=e2.sub hG;have hOg:cP out 1 (d.map nQ) v2 (Grow G σ):=aH.mono E λb _ g=>.inl g;have Q:pd d t.out v2 (Grow G σ):=(pd.loc _ _).mono M λb _ g=>.inl g;have S:cX v2 (Grow F σ) Y {A with cE:=A.cE.set k t.tick} (pv A Y k r c t out d):=by
  refine L v2 _ _ _ (Grow G σ) _ ?_ pv.loc Wm8 e2 (λb g=>g) ?_ (Ha hG λb g=>g)
  ·exact⟨h.lay.c,h.lay.t,h.lay.cC,by simpa using h.lay.cE,h.lay.nU,h.lay.oS,h.lay.n1,h.lay.n2,h.lay.n3,h.lay.st,h.lay.room,h.lay.ok⟩
  ·simp only[AC,pv,zV];exact⟨R,hOg,Q⟩
 have hol:out.len=t.out.length:=by
  have:=E.1;have:=M.1;simp at *;omega
 have hfew:t.out.length<=8:=by
  have h1:=D.lA;have h2:=D.r1;have:t.out.length<=t.bs.length:=by unfold fU.out;rw[zO];omega
  omega
 refine ZP (a:=bN) (λ(i:Int) w=>∃j:Nat,i=(j:Int)/\j<=t.out.length/\Ext F σ w/\cX w (Grow F σ) Y ((t.out.take j).foldl (λA' xs=>Zj A' k xs) {A with cE:=A.cE.set k t.tick}) (pv A Y k r c t out d)) (λi _=>t.out.length-i.toNat) ⟨0,rfl,O,V,S⟩ ?_;rintro i w ⟨j,rfl,hj,ew,s⟩;refine cH (λhlt=>?_) λhge=>?_
 ·have B:j<t.out.length:=by omega
  have hx:t.out[j]?=some t.out[j]:=cL B;have Z:t.out.take (j+1)=t.out.take j++[t.out[j]]:=by rw[zf,hx];rfl
  have z:=t.rr _ (zd B);generalize t.out[j]=xs at *;obtain⟨G2,hG2,u⟩:=s.sep.get (.cE k);simp only[AC,pv,zV]at u;have X:j<d.length:=by rw[u.2.2.1];exact B
  have W:d[j]?=some d[j]:=cL X;refine u.2.1.Au W (GV (xs:=xs) s k (hI t (zE P) xs z) (by have:=D.all xs z;have:=D.b1;omega) (u.2.2.2 j _ xs W hx).2 (.inr ⟨k,λH C=>?_⟩) λw2 e3 U=>?_)
  ·unfold pv at C;rw[zB rfl]at C;exact(C.2.2.2 j _ xs W hx).1
  ·refine bZ (m:=j+1) O O ⟨⟨j+1,rfl,O,ew.iI e3,?_⟩,O⟩;rw[Z,m6];exact U.mono λb _ g=>by
    rcases g with g|g
    ·exact g
    ·exact .inr (zI ew.1 g)
 ·have:j=t.out.length:=by omega
  subst this;rw[zm]at s;have x:=Hb A k;rw[P]at x;have e1:Kz A k=t.out.foldl (λA' xs=>Zj A' k xs) {A with cE:=A.cE.set k t.tick}:=by unfold Kz;rw[P]
  rw[←e1]at s;refine hK w ew (s.Oq (λj=>cG.loc j) λj G3 y=>?_);unfold pv at y;unfold cG;rw[x.1,x.2.1,x.2.2.1];simp only;split at y
  ·rename_i hjk;subst hjk;rw[hr,hc,zM (by rw[h.lay.cE];exact hk)];exact y.1
  ·rename_i hjk;rw[zj (λe=>hjk e.symm)];exact y
theorem II (m:Nat)(A:AR)(hI:lG A):((List.range m).foldl Kz A).tb=A.tb/\((List.range m).foldl Kz A).cE.length=A.cE.length/\((List.range m).foldl Kz A).runs=A.runs/\((List.range m).foldl Kz A).n=A.n/\lG ((List.range m).foldl Kz A):=by
 induction m with
 | zero=>exact⟨rfl,rfl,rfl,rfl,hI⟩
 | succ m ih=>
  rw[zw,m6];have:=Hb ((List.range m).foldl Kz A) m;refine⟨this.1.trans ih.1,?_,this.2.2.2.1.trans ih.2.2.1,this.2.2.2.2.trans ih.2.2.2.1,Sn ih.2.2.2.2⟩;show(Kz ((List.range m).foldl Kz A) m).cE.length=_;rw[this.2.2.1];split
  ·rw[nM];exact ih.2.1
  ·exact ih.2.1
theorem M7 (h:cX σ F Y A (cG A Y))(hI:lG A){R:aP}(hR:∀σ',Ext F σ σ'->cX σ' (Grow F σ) Y (Hl A) (cG (Hl A) Y)->R σ'):Zd.c (aW Y.p) σ R:=by
 refine Zd.o ?_;refine Vd h (cF rfl (aG (h.hd.rS rfl ?_)));have J:=h.jA;refine ZP (a:=bN) (λ(t:Int) v=>∃i:Nat,t=(i:Int)/\i<=A.tb.length/\Ext F σ v/\cX v (Grow F σ) Y ((List.range i).foldl Kz A) (cG ((List.range i).foldl Kz A) Y)) (λt _=>A.tb.length-t.toNat) ⟨0,rfl,O,Ext.refl _ _,h.mono λb _ d=>.inl d⟩ ?_;rintro t v ⟨i,rfl,G,e,u⟩;refine cH (λx=>?_) λs=>?_
 ·have j:i<A.tb.length:=by simp only at x;omega
  have g:=II i A hI;obtain⟨c,H,q,t,r,E,B,D,_,y,C⟩:=h.at_ j;refine u.p7 y (OQ u.cut (by rw[g.1];exact j) y g.2.2.2.2 λv3 z w=>?_);refine bZ (m:=i+1) O (by have:=h.lay.oS;omega) ⟨⟨i+1,rfl,O,e.iI (z.sub λb d=>d.1),?_⟩,O⟩;rw[zw,m6];exact w.mono λb _ d=>by
   rcases d with d|d
   ·exact d.1
   ·exact .inr (zI e.1 d)
 ·have:i=A.tb.length:=by simp only at s;omega
  subst this;refine hR v e ?_;unfold Hl;rw[h.lay.cE];exact u
end Go.Ar
namespace Go.Bu
variable {n:Nat}{S:Nat->Bool}
theorem V9 {m a k x:Nat}(h:ZZ n S m a k=some x):∃j,j<k/\m<=2^j/\a<=2^j/\(Km n S j).head?=some x/\∀i,i<j->m<=2^i->a<=2^i->Km n S i=[]:=by
 have wX:∀k,ZZ n S m a k=none->∀i,i<k->m<=2^i->a<=2^i->Km n S i=[]:=by
  intro k
  induction k with
  | zero=>intro _ i hi;omega
  | succ k ih=>
   intro hn i hi d b;rw[ZZ]at hn;split at hn
   ·cases hn
   ·rename_i hn';by_cases e:i=k
    ·subst e;rw[zB ⟨d,b⟩]at hn;simpa using hn
    ·exact ih hn' i O d b
 induction k with
 | zero=>simp[ZZ]at h
 | succ k ih=>
  rw[ZZ]at h;split at h
  ·rename_i y hy;cases h;obtain⟨j,d,b⟩:=ih hy;exact⟨j,O,b⟩
  ·rename_i hn;split at h
   ·rename_i hc;exact⟨k,O,hc.1,hc.2,h,wX k hn⟩
   ·cases h
theorem Hm {m a:Nat}:∀{k},ZZ n S m a k=none->∀i,i<k->m<=2^i->a<=2^i->Km n S i=[]
 | 0,_,i,hi,_,_=>by omega
 | k+1,hn,i,hi,h1,h2=>by
  rw[ZZ]at hn;split at hn
  ·cases hn
  ·rename_i hn';by_cases e:i=k
   ·subst e;rw[zB ⟨h1,h2⟩]at hn;simpa using hn
   ·exact Hm hn' i O h1 h2
theorem lY (hb:Bounded S n){m a x:Nat}(h:Zz n S m a=some x):x+m<=n/\∀y,x<=y->y<x+m->S y=true:=by
 obtain⟨j,_,p,_,e,_⟩:=V9 h;have b:x∈Km n S j:=List.mem_of_head? e;obtain⟨q,rfl,d⟩:=(Q1 hb).1 b;have:=ZX hb (ZR.1 d).1;exact⟨O,λy g i=>Vb d (Qh.2 O)⟩
end Go.Bu
namespace Go.Ar
open Go Go.Vc Go.Proofs
open Go.Bu (Zi QR Zz iX)
variable {σ:Hp}{F H:Rg}{p hs:Nat}{A:AR}{sp:Sp}{Y:Lay}{T:Nat->Hp->Rg->Prop}
structure W2 (σ:Hp) (F H:Rg) (Y:Lay) (A:AR) (T:Nat->Hp->Rg->Prop) (sp:Sp):Prop where
 a:cX σ F Y A T
 s:dD σ H Y.hs sp
 d:∀b,F b->¬H b
 g:Gl σ
 o:jh F
 o2:jh H
def gJ (F H:Rg):Rg:=λb=>F b\/H b
theorem W2.j7 (h:W2 σ F H Y A T sp){σ':Hp}{A':AR}(e:Ext F σ σ')(ha:cX σ' F Y A' T):W2 σ' F H Y A' T sp:=
 ⟨ha,dR.bU dD.loc h.s e λb _ i a=>h.d b a i,h.d,h.g.bU e h.o,h.o,h.o2⟩
theorem W2.space (h:W2 σ F H Y A T sp){σ':Hp}{sp':Sp}(e:Ext H σ σ')(hs:dD σ' H Y.hs sp'):W2 σ' F H Y A T sp':=
 ⟨dR.bU cX.loc h.a e λb _ j i=>h.d b j i,hs,h.d,h.g.bU e h.o2,h.o,h.o2⟩
theorem W2.bK (h:W2 σ F H Y A T sp){σ':Hp}(e:bO σ σ'):W2 σ' F H Y A T sp:=⟨h.a.bK e,h.s.bK e,h.d,h.g.bK e,h.o,h.o2⟩
theorem W2.cut (h:W2 σ F H Y A T sp):W2 σ (Cut F σ) (Cut H σ) Y A T sp:=⟨h.a.cut,dR.cut dD.loc h.s,λb e i=>h.d b e.1 i.1,h.g,h.o.sub λb e=>e.1,h.o2.sub λb e=>e.1⟩
theorem W2.m8 (h:W2 σ F H Y A T sp){σ':Hp}{A':AR}(e:Ext F σ σ')(ha:cX σ' (Grow F σ) Y A' T):W2 σ' (Grow F σ) (Cut H σ) Y A' T sp:=
 ⟨ha,dR.bU dD.loc (dR.cut dD.loc h.s) e λb _ a j=>h.d b j a.1,λb a i=>by
  rcases a with a|a
  ·exact h.d b a i.1
  ·have:=i.2;omega,h.g.bU e h.o,h.o.grow h.g,h.o2.sub λb a=>a.1⟩
theorem W2.yV (h:W2 σ F H Y A T sp){K:Option Addr->Prop}(hK:K (some ⟨Y.hs,0,none⟩)):fX (Addr.add ⟨Y.p,0,none⟩ 1) σ K:=h.a.hd.rP rfl hK
theorem L6 (st:List Nat)(a m:Nat):UY st a (m+1)=jn (UY st a m) ((a+m:Nat):Int):=by
 unfold UY;rw[zw,kQ,m6];rfl
theorem Td {a m:Int}(h:fI sp a m≠0):gF sp a m=sp:=by unfold gF;rw[zA h]
theorem P2 {size:Nat}(h1:1<=size)(h:∀j,1<=j->j*size+size<=sp.st.length->fI sp ((j*size:Nat):Int) (size:Int)≠0):cY sp size=none:=by
 unfold cY;rw[oV];intro x hx;obtain⟨j,b,rfl⟩:=zD.1 hx;rw[zW]at b;have d:(j+1)*size<=sp.st.length:=zI (lS size b) (yL _ _);rw[zl,Nat.one_mul]at d;by_cases h0:j=0
 ·subst h0;simp
 ·have:=h j O d;have a:(fI sp ((j*size:Nat):Int) (size:Int)==0)=false:=by simpa only[nk]using this
  rw[a,sP];simp
theorem PT {size j:Nat}(h1:1<=size)(h0:1<=j)(hf:j*size+size<=sp.st.length)(hm:fI sp ((j*size:Nat):Int) (size:Int)=0)(h:∀i,1<=i->i<j->fI sp ((i*size:Nat):Int) (size:Int)≠0):cY sp size=some (j*size):=by
 unfold cY;have m:j<sp.st.length/size:=by
  rw[Nat.lt_iff_add_one_le,Nat.le_div_iff_mul_le h1,zl,Nat.one_mul];exact hf
 have a:List.range (sp.st.length/size)=List.range j++(j::(List.range (sp.st.length/size-j-1)).map (j+1 + ·)):=by
  apply zp;intro i;rw[List.getElem?_append,oW];by_cases d:i<j
  ·rw[zB d,oR O,oR d]
  ·rw[zA d];by_cases hij:i=j
   ·subst hij;rw[pW,vG,oR m]
   ·rw[show i-j=(i-j-1)+1 by omega,AP,ze];by_cases hl:i<sp.st.length/size
    ·rw[oR hl,oR O];simp only[zh]
     congr 1;omega
    ·rw[zX (by rw[oW];omega),zX (by rw[oW];omega)];rfl
 rw[a,kQ,List.find?_append];have b:((List.range j).map (· * size)).find? (λ(s:Nat)=>s != 0&&fI sp s size==0)=none:=by
  rw[oV];intro x hx;obtain⟨i,d,rfl⟩:=zD.1 hx;rw[zW]at d;by_cases h0:i=0
  ·subst h0;simp
  ·have:=h i O d;have g:(fI sp ((i*size:Nat):Int) (size:Int)==0)=false:=by simpa only[nk]using this
   rw[g,sP];simp
 rw[b,zK,wh];have:(j*size != 0&&fI sp ((j*size:Nat):Int) (size:Int)==0)=true:=by
  rw[hm];have p:0<j*size:=Nat.mul_pos O O;have e:j*size≠0:=by omega
  simp[e]
 rw[this];rfl
theorem RR (h:W2 σ F H Y A T sp){size:Nat}(h1:size=16\/size=32\/size=64){R:aO}(h0:U0 A sp size=none->∀σ',Ext (gJ F H) σ σ'->W2 σ' F H Y A T sp->R false σ')
 (hR:∀A' sp',U0 A sp size=some (A',sp')->∀σ',Ext (gJ F H) σ σ'->W2 σ' F H Y A' T sp'->R true σ'):Za.c (aW Y.p) (size:Int) σ R:=by
 refine Za.o ?_;have hn2:sp.st.length<=1024:=by obtain⟨q,r,l,B,hh⟩:=h.s;exact hh.n2
 have Z:∀{a b:Hp},Ext H a b->Ext (gJ F H) a b:=λe=>e.sub λb P=>.inr P;have ea:∀{a b:Hp},Ext F a b->Ext (gJ F H) a b:=λe=>e.sub λb P=>.inl P;have d:∀j,j*size+size=(j+1)*size:=λj=>by rw[zl,Nat.one_mul]
 refine ZP (a:=bN) (λ(t:Int) v=>∃j:Nat,t=((j*size:Nat):Int)/\1<=j/\j*size<=1024+64/\Ext (gJ F H) σ v/\W2 v F H Y A T sp/\∀i,1<=i->i<j->i*size+size<=sp.st.length->fI sp ((i*size:Nat):Int) (size:Int)≠0) (λt _=>2000-t.toNat)
  ⟨1,O,zC _,O,Ext.refl _ _,h,λi h1 h2=>O⟩ ?_
 rintro t v ⟨j,rfl,hj,P,e,z,x⟩;refine bZ (m:=j*size+size) O O (aG (z.yV (CX z.s (cH (λhlt=>?_) λhge=>?_))))
 ·have hf:j*size+size<=sp.st.length:=by omega
  refine aG (z.yV (Γ z.s z.g z.o2 _ _ λv2 Q E=>?_));refine cN (λW=>?_) λW=>?_
  ·have M:fI sp ((j*size:Nat):Int) (size:Int)≠0:=by simpa using W
   rw[Td M]at E;refine bZ (m:=(j+1)*size) (by rw[←d];omega) (by rw[←d];omega) ⟨⟨j+1,rfl,O,by rw[←d];omega,e.trans (Z Q),z.space Q E,λi y G J=>?_⟩,by rw[←d];omega⟩;by_cases hij:i=j
   ·subst hij;exact M
   ·exact x i y O J
  ·have X:fI sp ((j*size:Nat):Int) (size:Int)=0:=by simpa using W
   have U:=z.space Q E;have L:∀i,i<j->i*size+size<=sp.st.length:=λi hi=>by
    have:(i+1)*size<=j*size:=lS _ hi;rw[d];omega
   have D:=PT (sp:=sp) O hj hf X λi y G=>x i y G (L i G);have K:U0 A sp size=some ({A with st:=UY A.st (j*size/16) (size/16),S:=QR A.n A.S ((j*size:Nat):Int) size},gF sp ((j*size:Nat):Int) size):=by unfold U0;rw[D]
   have hd16:(j*size)%16=0:=by
    rcases h1 with rfl|rfl|rfl
    ·omega
    ·omega
    ·omega
   refine nz aB (bZ (m:=j*size/16) (by rw[Xq O];simp) O ?_);refine ZP (a:=bN) (λ(t:Int) w=>∃i:Nat,t=((j*size/16+i:Nat):Int)/\i<=size/16/\Ext (gJ F H) σ w/\W2 w F H Y {A with st:=UY A.st (j*size/16) i} T (gF sp ((j*size:Nat):Int) size)) (λt _=>200-t.toNat)
    ⟨0,O,O,e.trans (Z Q),U⟩ ?_
   rintro t w ⟨i,rfl,hi,ew,u⟩;refine bZ (m:=j*size+size) O O (nz aB (bZ (m:=(j*size+size)/16) (by rw[Xq O];simp) O (cH (λhlt2=>?_) λhge2=>?_)))
   ·refine aG (u.a.hd.rP rfl (u.a.Br _ λw2 t2 N C=>?_));refine bZ (m:=j*size/16+(i+1)) O O ⟨⟨i+1,rfl,O,ew.trans (ea N),?_⟩,O⟩;rw[L6];exact u.j7 N C
   ·have V:i=size/16:=by omega
    subst V;refine aG (u.a.hd.rP rfl (u.a.wZ _ _ λw2 t2 N C=>?_));exact hR _ _ K w2 (ew.trans (ea N)) (u.j7 N C)
 ·have D:=P2 (sp:=sp) (size:=size) O λi y J=>by
   by_cases hij:i<j
   ·exact x i y hij J
   ·have:j*size<=i*size:=lS _ O;omega
  have K:U0 A sp size=none:=by unfold U0;rw[D]
  exact h0 K v e z
theorem SD {m a:Nat}(h1:1<=m)(h2:m<=64)(ha:a=1\/a=2\/a=4\/a=8\/a=16):Go.Bu.fR (m:Int) (a:Int)=true:=by
 have b:Go.Bu.gG (a:Int)=true:=by rcases ha with rfl|rfl|rfl|rfl|rfl<;>decide
 unfold Go.Bu.fR;rw[b];simp only[uG,zF,zR];omega
theorem W2.take (h:W2 σ F H Y A T sp){m a:Nat}(hok:Go.Bu.fR (m:Int) (a:Int)=true){R:Int->Int->Hp->Prop}(h0:Zz A.n A.S m a=none->∀σ',Ext F σ σ'->W2 σ' F H Y A T sp->R 0 6 σ')
 (h1:∀x,Zz A.n A.S m a=some x->x+m<=A.n->∀σ',Ext F σ σ'->W2 σ' F H Y {A with S:=Go.Bu.take A.S x (x+m)} T sp->R (x:Int) 0 σ'):XS.c (aW Y.fr) (m:Int) (a:Int) σ R:=by
 have b:Go.Bu.Bounded A.S A.n:=by obtain⟨s,u,p,_⟩:=h.a.free;exact p.jK
 refine h.a.xA _ _ λσ' e r=>?_;have d:=h.j7 e r;cases ht:Zz A.n A.S m a with
 | none=>
  have j:Go.Bu.jq A.n A.S (m:Int) (a:Int)=6:=by unfold Go.Bu.jq;rw[hok,zB rfl];simp only[dC];rw[ht]
  have g:Go.Bu.jo A.n A.S (m:Int) (a:Int)=0:=by unfold Go.Bu.jo;rw[hok,zB rfl];simp only[dC];rw[ht]
  have i:Go.Bu.jr A.n A.S (m:Int) (a:Int)=A.S:=by unfold Go.Bu.jr;rw[hok,zB rfl];simp only[dC];rw[ht]
  rw[j,g];rw[i]at d;exact h0 ht σ' e d
 | some x=>
  have j:Go.Bu.jq A.n A.S (m:Int) (a:Int)=0:=by unfold Go.Bu.jq;rw[hok,zB rfl];simp only[dC];rw[ht]
  have g:Go.Bu.jo A.n A.S (m:Int) (a:Int)=x:=by unfold Go.Bu.jo;rw[hok,zB rfl];simp only[dC];rw[ht]
  have i:Go.Bu.jr A.n A.S (m:Int) (a:Int)=Go.Bu.take A.S x (x+m):=by unfold Go.Bu.jr;rw[hok,zB rfl];simp only[dC];rw[ht]
  rw[j,g];rw[i]at d;exact h1 x ht (Go.Bu.lY b ht).1 σ' e d
theorem WmG {size:Nat}{A':AR}{sp':Sp}(h:U0 A sp size=some (A',sp')):A'.n=A.n:=by
 unfold U0 at h;split at h
 ·cases h
 ·cases h;rfl
def Fits (σ:Hp)(F H F' H':Rg):Prop:=(∀b,F' b->Grow F σ b)/\∀b,H' b->H b
theorem LG (h:W2 σ F H Y A T sp){m a no:Nat}(h1:1<=m)(h2:m<=64)(ha:a=1\/a=2\/a=4\/a=8\/a=16)(hn1:1<=no)(hn2:no<=1000){R:Int->Int->Hp->Prop}
 (h0:(cZ A sp m a no).1=none->∀σ',Ext (gJ F H) σ σ'->W2 σ' F H Y (cZ A sp m a no).2.1 T (cZ A sp m a no).2.2->R 0 6 σ')
 (hR:∀x,(cZ A sp m a no).1=some x->x+m<=A.n->∀σ' F' H',Fits σ F H F' H'->Ext (gJ F H) σ σ'->W2 σ' F' H' Y (cZ A sp m a no).2.1 T (cZ A sp m a no).2.2->R (x:Int) 0 σ') :
 YV.c (aW Y.p) (m:Int) (a:Int) (no:Int) σ R:=by
 refine YV.o ?_;have J:=SD h1 h2 ha;have es:∀{a b:Hp},Ext H a b->Ext (gJ F H) a b:=λe=>e.sub λb j=>.inr j;have s:∀{a b:Hp},Ext F a b->Ext (gJ F H) a b:=λe=>e.sub λb j=>.inl j;have fin:∀(v:Hp) (x:Nat) (A1:AR) (sp1:Sp),Ext (gJ F H) σ v->x+m<=A.n->W2 v F H Y {A1 with S:=Go.Bu.take A1.S x (x+m)} T sp1->cZ A sp m a no=(some x,dT A1 x m no,sp1) →
  bQ (some ⟨Y.p,0,none⟩) λL=>fX (L.add 3) v λU=>XP.c U (x:Int) (m:Int) v λt55 u=>bQ (some ⟨Y.p,0,none⟩) λN=>fX (N.add 4) u λaa=>Yu.c aa (x:Int) (m:Int) (no:Int) u λt63 v3=>R (x:Int) 0 v3:=by
  intro v x A1 sp1 e hxm z y;have V:x<=1000000:=by have:=h.a.lay.n2;omega
  refine aG (z.a.hd.rP rfl (z.a.Use _ _ λu t2 D W=>?_));have g:=z.j7 D W;refine aG (g.a.hd.rP rfl (g.a.Set x m V hn1 hn2 λv3 t3 e3 Z=>?_));have P:=g.m8 e3 Z;refine hR x (by rw[y]) hxm v3 (Grow F u) (Cut H u) ⟨λb j=>?_,λb j=>j.1⟩ ((e.trans (s D)).trans (s e3)) (by rw[y];exact P);rcases j with j|j
  ·exact .inl j
  ·exact .inr (zI (e.trans (s D)).1 j)
 refine aG (h.a.hd.rP rfl (h.take J (λG v e z=>?_) λx G C v e z=>?_))
 ·refine Jn.intro (cJ rfl ?_);have M:(if(a:Int)>(m:Int)then(a:Int)else(m:Int))=((max m a:Nat):Int):=by
   by_cases hgt:(a:Int)>(m:Int)
   ·rw[zB hgt];omega
   ·rw[zA hgt];omega
  rw[M];refine ZP (a:=bN) (λ(t:Int) w=>w=v/\(t=16\/t=32/\16<max m a\/t=64/\32<max m a)) (λt _=>100-t.toNat) ⟨rfl,.inl rfl⟩ ?_;rintro(t:Int) w ⟨rfl,hcase⟩;have ha16:a<=16:=by omega
  refine cH (λhlt=>?_) λhge=>?_
  ·have:t=16\/t=32:=by omega
   rcases this with rfl|rfl
   ·exact ar O O ⟨⟨rfl,O⟩,by decide⟩
   ·exact ar O O ⟨⟨rfl,O⟩,by decide⟩
  ·have Q:t=((Kc (max m a):Nat):Int):=by
    unfold Kc;by_cases c1:max m a<=16
    ·rw[zB c1];omega
    ·rw[zA c1];by_cases c2:max m a<=32
     ·rw[zB c2];omega
     ·rw[zA c2];omega
   subst Q;have X:Kc (max m a)=16\/Kc (max m a)=32\/Kc (max m a)=64:=by omega
   refine RR z X (λy σ' K r=>?_) λA' B y σ' K r=>?_
   ·have d:cZ A sp m a no=(none,A,sp):=by unfold cZ;rw[G];simp only;rw[y]
    exact cJ rfl (h0 (by rw[d]) σ' ((s e).trans K) (by rw[d];exact r))
   ·refine cF rfl (aG (r.a.hd.rP rfl (r.take J (λE u D g=>?_) λx E C u D g=>?_)))
    ·have d:cZ A sp m a no=(none,A',B):=by unfold cZ;rw[G];simp only;rw[y];simp only;rw[E]
     exact cJ rfl (h0 (by rw[d]) u (((s e).trans K).trans (s D)) (by rw[d];exact g))
    ·have d:cZ A sp m a no=(some x,dT A' x m no,B):=by unfold cZ;rw[G];simp only;rw[y];simp only;rw[E]
     exact cF rfl (fin u x A' B (((s e).trans K).trans (s D)) (by rw[←WmG y];exact C) g d)
 ·have d:cZ A sp m a no=(some x,dT A x m no,sp):=by unfold cZ;rw[G]
  refine Jn.intro (cF rfl (cF rfl (fin v x A sp (s e) C z d)))
theorem Fits.refl:Fits σ F H F H:=⟨λb a=>.inl a,λb a=>a⟩
theorem SB (h:W2 σ F H Y A T sp)(k:Int){R:aN}(hR:∀σ' F' H',Fits σ F H F' H'->Ext (gJ F H) σ σ'->W2 σ' F' H' Y (cR A sp k).1 T (cR A sp k).2->R (KV A sp k) σ') :
 Yn.c (aW Y.p) k σ R:=by
 refine Yn.o ?_;refine UJ h.a k (λE=>?_) λx hx M=>?_
 ·have e1:KV A sp k=1:=by unfold KV;rw[E];rfl
  have z:cR A sp k=(A,sp):=by unfold cR;rw[E];rfl
  have:=hR σ F H Fits.refl (Ext.refl _ _) (by rw[z];exact h);rw[e1]at this;exact cJ rfl this
 ·subst hx;have E:A.ck (x:Int)=true:=by unfold AR.ck;simp;omega
  obtain⟨c,N,q,t,r,K,B,W,_,_,V⟩:=h.a.at_ M;have ht2:=h.a.lay.oS;obtain⟨_,_,_,U,hp4,_⟩:=V;refine cF rfl (aG (h.a.hd.rS rfl (h.a.xQ (d:=1) K O ?_)));simp only[zA (show ¬(1=0) by omega),zV];refine bZ (m:=x+1) O O ?_;have eE:KV A sp x=match (cZ A sp c.aF 1 (x+1)).1 with
   | some y=>pa c N y
   | none=>6:=by unfold KV;rw[E,zB rfl];simp only[dC];rw[K,B];rfl
  have Z:cR A sp x=match cZ A sp c.aF 1 (x+1)with
   | (some y,A',w)=>(if pa c N y=0 then{A' with cC:=A'.cC.set x (iC c N y)}else A',w)
   | (none,A',w)=>(A',w):=by unfold cR;rw[E,zB rfl];simp only[dC];rw[K,B];rfl
  refine LG (a:=1) h U O (.inl rfl) O O (λD σ' e u=>?_) λy D hyn σ' F' H' i e u=>?_
  ·have:=hR σ' F H Fits.refl e;rw[eE,Z,D]at this;generalize cZ A sp c.aF 1 (x+1)=g at *;obtain⟨g1,g2,g3⟩:=g;simp only at D;subst D;exact cJ rfl (this u)
  ·have C:(cZ A sp c.aF 1 (x+1)).2.1.tb=A.tb/\(cZ A sp c.aF 1 (x+1)).2.1.cC=A.cC:=by
    unfold cZ;split
    ·exact⟨rfl,rfl⟩
    ·split
     ·exact⟨rfl,rfl⟩
     ·rename_i A1 sp1 hga;have:A1.tb=A.tb/\A1.cC=A.cC:=by
       unfold U0 at hga;split at hga
       ·cases hga
       ·cases hga;exact⟨rfl,rfl⟩
      split
      ·exact this
      ·exact this
   have s:=λσ' F' H'=>hR σ' F' H';rw[eE,Z]at s;generalize cZ A sp c.aF 1 (x+1)=g at *;obtain⟨g1,A',w⟩:=g;simp only at D u C s;subst D;simp only at s;have hWc:=u;obtain⟨G,S,⟨ps,hC⟩,_,J⟩:=u.a.rE W (by rw[C.1];exact K) (by rw[C.2];exact B);have hn2:=h.a.lay.n2;refine cF rfl (aG (u.a.hd.rS rfl (u.a.kq W (O0 hC O (λh9 v z=>?_) λX v ps' z P=>?_))))
   ·have:=s v F' H' i (e.lX z) (by rw[h9];exact u.bK z);rw[h9]at this;exact this
   ·have Q:=J v _ _ (Grow G σ') _ z (λb j=>j) P (Ha S λb j=>j);have L:=u.m8 (z.sub S) Q;have:=s v (Grow F' σ') (Cut H' σ') ⟨λb j=>?_,λb j=>i.2 b j.1⟩ (e.fE (z.sub S) λb j=>?_) (by rw[X];exact L)
    ·rw[X]at this;exact this
    ·rcases j with j|j
     ·exact i.1 b j
     ·exact .inr (zI e.1 j)
    ·rcases i.1 b j with h1|h1
     ·exact .inl (.inl h1)
     ·exact .inr h1
theorem GF (A:AR)(sp:Sp)(m a no:Nat):(cZ A sp m a no).2.1.tb=A.tb/\(cZ A sp m a no).2.1.cC=A.cC/\(cZ A sp m a no).2.1.cE=A.cE/\(cZ A sp m a no).2.1.room=A.room/\(cZ A sp m a no).2.1.runs=A.runs/\(cZ A sp m a no).2.1.n=A.n:=by
 unfold cZ;split
 ·exact⟨rfl,rfl,rfl,rfl,rfl,rfl⟩
 ·split
  ·exact⟨rfl,rfl,rfl,rfl,rfl,rfl⟩
  ·rename_i A1 sp1 hga;have:A1.tb=A.tb/\A1.cC=A.cC/\A1.cE=A.cE/\A1.room=A.room/\A1.runs=A.runs/\A1.n=A.n:=by
    unfold U0 at hga;split at hga
    ·cases hga
    ·cases hga;exact⟨rfl,rfl,rfl,rfl,rfl,rfl⟩
   split
   ·exact this
   ·exact this
theorem Mz:∀a:Nat,a<17->1<=a->((bits .and .i64 (a:Int) ((a:Int)-1) != 0) = !(a==1||(a==2||(a==4||(a==8||a==16))))):=by decide
theorem WcP (h:W2 σ F H Y A T sp)(m a:Int){R:Int->Int->Hp->Prop}(hR:∀σ' F' H',Fits σ F H F' H'->Ext (gJ F H) σ σ'->W2 σ' F' H' Y (cD A sp m a).1 T (cD A sp m a).2->R ((Qb A sp m a:Nat):Int) (QH A sp m a) σ') :
 WT.c (aW Y.p) m a σ R:=by
 refine WT.o ?_;have G:Ko m a=false->R 0 1 σ:=λu=>by
  have e1:QH A sp m a=1:=by unfold QH;rw[u];rfl
  have E:cD A sp m a=(A,sp):=by unfold cD;rw[u];rfl
  have X:Qb A sp m a=0:=by unfold Qb;rw[u];rfl
  have:=hR σ F H Fits.refl (Ext.refl _ _) (by rw[E];exact h);rw[e1,X]at this;exact this
 have d:¬(1<=m/\m<=64/\(a=1\/a=2\/a=4\/a=8\/a=16))->R 0 1 σ:=λhn=>G (by
  rw[←rR];intro hp;unfold Ko at hp;simp at hp;omega)
 refine Vd h.a (cF rfl (bY.intro (cH (λZ=>bY.intro (cJ rfl (bY.intro (cJ rfl (bY.intro (cJ rfl (cJ rfl (d O)))))))) λZ=>?_)));refine bY.intro (cH (λc2=>bY.intro (cJ rfl (bY.intro (cJ rfl (cJ rfl (d O)))))) λc2=>?_);refine bY.intro (cH (λc3=>bY.intro (cJ rfl (cJ rfl (d O)))) λc3=>?_);refine bY.intro (cH (λW=>cJ rfl (d O)) λW=>ar O O ?_);obtain⟨y,rfl⟩:=zk (show 0<=m by omega);obtain⟨z,rfl⟩:=zk (show 0<=a by omega);rw[Mz z O O];refine cN (λL=>?_) λL=>?_
 ·refine d (λhh=>?_);simp at L;omega
 ·have hz:z=1\/z=2\/z=4\/z=8\/z=16:=by
   simp at L;omega
  have u:Ko (y:Int) (z:Int)=true:=by
   unfold Ko;simp;omega
  have U:QH A sp y z=if(cZ A sp y z 41).1.isSome then 0 else 6:=by unfold QH;rw[u,zB rfl];rfl
  have S:Qb A sp y z=(cZ A sp y z 41).1.getD 0:=by unfold Qb;rw[u,zB rfl];rfl
  have Q:cD A sp y z=match cZ A sp y z 41 with
   | (some x,A',r)=>({A' with runs:=cD.mset2 A'.runs x y},r)
   | (none,A',r)=>(A',r):=by unfold cD;rw[u,zB rfl];rfl
  refine LG (no:=41) h O O hz O O (λw σ' e B=>?_) λx w hyn σ' F' H' s e B=>?_
  ·have:=hR σ' F H Fits.refl e;rw[U,Q,S,w]at this;generalize cZ A sp y z 41=g at *;obtain⟨g1,g2,g3⟩:=g;simp only at w;subst w;exact cJ rfl (this B)
  ·have j:=λσ' F' H'=>hR σ' F' H';rw[U,Q,S]at j;generalize cZ A sp y z 41=g at *;obtain⟨g1,A',r⟩:=g;simp only at w B j;subst w;simp only at j;obtain⟨V,hm,D⟩:=B.a.pU;refine cF rfl (aG (B.a.hd.rM rfl ⟨_,_,rfl,hm,λv P J=>?_⟩));have C:dN v Y.rn .i64 bN (dE (iB A'.runs) (x:Int) (y:Int)):=J;rw[WlN]at C;have M:=D v _ P C;have E:Ext F' σ' v:=P.ext.sub λb N=>by subst N;exact V
   have K:=B.j7 E M;exact j v F' H' s (e.fE E λb N=>by
    rcases s.1 b N with h1|h1
    ·exact .inl (.inl h1)
    ·exact .inr h1) K
theorem OC (h:W2 σ F H Y A T sp){R:aN}(hR:∀σ',Ext (gJ F H) σ σ'->W2 σ' (Cut F σ) (Cut H σ) Y (eL A sp).1 T (eL A sp).2->R ((vj A:Nat):Int) σ') :
 Yw.c (aW Y.p) σ R:=by
 refine Yw.o ?_;have es:∀{a b:Hp},Ext (Cut H σ) a b->Ext (gJ F H) a b:=λe=>e.sub λb u=>.inr u.1;have W:∀{a b:Hp},Ext (Cut F σ) a b->Ext (gJ F H) a b:=λe=>e.sub λb u=>.inl u.1;obtain⟨G,hG,q,hT,_⟩:=h.a.m4;refine Vd h.a (cF rfl (aG (h.a.hd.rP rfl (Oj hT λs v1 Z d=>?_))));have hn2:=h.a.lay.n2;have V:=h.a.lay.st;have x:=d.jT;have X:(Ks A.st 0).length<=64:=by
  unfold Ks;refine zI (na _ _) ?_;rw[oW];omega
 have B:∀k∈Ks A.st 0,k<=64:=λk Q=>by
  unfold Ks at Q;have:=(zH.1 Q).1;rw[zW]at this;omega
 have hsl:=aH.cut d.fP;refine ZP (a:=bN) (λ(t:Int) w=>∃i:Nat,t=(i:Int)/\i<=(Ks A.st 0).length/\Ext (gJ F H) σ w/\W2 w (Cut F σ) (Cut H σ) Y (((Ks A.st 0).take i).foldl Vx (A,sp)).1 T (((Ks A.st 0).take i).foldl Vx (A,sp)).2/\cP s 1 (ints (Ks A.st 0)) w (λb=>σ.size<=b)) (λt _=>(Ks A.st 0).length-t.toNat)
  ⟨0,rfl,O,bO.to Z,h.cut.bK Z,d.fP⟩ ?_
 rintro t w ⟨i,rfl,hi,e,y,U⟩;refine cH (λhlt=>?_) λhge=>?_
 ·have C:i<(Ks A.st 0).length:=by omega
  have hx:(Ks A.st 0)[i]?=some (Ks A.st 0)[i]:=cL C;have P:(Ks A.st 0).take (i+1)=(Ks A.st 0).take i++[(Ks A.st 0)[i]]:=by rw[zf,hx];rfl
  have Q:=B _ (zd C);generalize (Ks A.st 0)[i]=k at *;refine U.pt hx (aG (y.a.hd.rP rfl (y.a.Dh _ λw2 t2 S E=>?_)));have r:=y.j7 S E;refine aG (r.a.hd.rP rfl (bZ (m:=k*16) O O (r.a.rZ _ _ λw3 t3 M J=>?_)));have j:=r.j7 M J;refine aG (j.yV (bZ (m:=k*16) O O (RU j.s j.g j.o2 _ _ λw4 K N=>?_)));have D:=j.space K N;have L:cP s 1 (ints (Ks A.st 0)) w4 (λb=>σ.size<=b):=aH.bU (aH.bU (aH.bU U S λb _ u z=>by have:=z.2;omega) M λb _ u z=>by have:=z.2;omega) K λb _ u z=>by have:=z.2;omega
  refine bZ (m:=i+1) O O ⟨⟨i+1,rfl,O,((e.trans (W S)).trans (W M)).trans (es K),?_,L⟩,O⟩;rw[P,m6];exact D
 ·have:i=(Ks A.st 0).length:=by omega
  subst this;rw[zm]at y;rw[x];exact hR w e y
end Go.Ar
namespace Go.Proofs
open Go.Vc
set_option maxRecDepth 100000
def WN.wy:Hn:=.seq (.o 1) (.seq (.o 1) (.block (.loop [(1,.one bN),(2,.one bN),(3,.one bN),(10,.one .b),(11,.one .b)] (.block (.seq (.o 4) (.seq (.seq (.o 2) (.cond (.seq (.o 5) (.leaf)) (.leaf))) .leaf))))))
def WN.Mc (data:Sl)(a:Int)(b:Int)(limit:Int)(cmp:Fv)(σ:Hp)(R:aP):Prop:=
 WR [bN,bN,bN,.b,.b] (λI=>I a b limit true true σ) λJ (a1:Int) (b1:Int) (limit1:Int) (wasBalanced:Bool) (wasPartitioned:Bool) v=>
 Ar .i64 (b1-a1) λlength=>
 If (decide (length<=12)) (Ws.c data a1 b1 cmp v λv1=>
  R v1)
  False
theorem WN.ui {data:Sl}{a:Int}{b:Int}{limit:Int}{cmp:Fv}{σ:Hp}{R:aP}(hv:WN.Mc data a b limit cmp σ R):WN.c data a b limit cmp σ R:=
 Wa Tryz.func267 (x:=WN.wy) (args:=[.slice data.a data.len data.cap,.int .i64 a,.int .i64 b,.int .i64 limit,.func (.func cmp.f) cmp.first cmp.captured]) (rs:=[]) (R:=R) (R0 hv)
end Go.Proofs
namespace Go.Ar
open Go Go.Vc Go.Proofs
variable {σ:Hp}{Q:Rg}{key:Nat->Nat}
def jy (key:Nat->Nat)(l:List Nat)(h:Nat):List Nat:=l.takeWhile (λg=>decide (key g<key h))++h::l.dropWhile (λg=>decide (key g<key h))
def UX (key:Nat->Nat)(l:List Nat):List Nat:=l.foldl (jy key) []
theorem D6 (l:List Nat)(h:Nat):(jy key l h).Perm (h::l):=by
 unfold jy;refine List.perm_middle.trans ?_;rw[BA]
theorem PS {l:List Nat}{h:Nat}(hs:l.Pairwise (λa b=>key a<key b))(hne:∀g∈l,key g≠key h):(jy key l h).Pairwise (λa b=>key a<key b):=by
 induction l with
 | nil=>simp[jy]
 | cons g l ih=>
  rw[mA]at hs;unfold jy;by_cases hg:key g<key h
  ·rw[List.takeWhile_cons_of_pos (by simpa using hg),List.dropWhile_cons_of_pos (by simpa using hg),lZ,mA];refine⟨λb d=>?_,ih hs.2 λx i=>hne x (lz _ i)⟩;have:=(D6 l h).mem_iff.1 d;rcases zT.1 this with h1|h1
   ·subst h1;exact hg
   ·exact hs.1 b h1
  ·have e:key h<key g:=by have:=hne g (lB);omega
   rw[Dq (by simpa using hg),List.dropWhile_cons_of_neg (by simpa using hg),qn,mA];refine⟨λb d=>?_,mA.2 hs⟩;rcases zT.1 d with h1|h1
   ·subst h1;exact e
   ·have:=hs.1 b h1;omega
theorem Lu {s:List Nat}{h j:Nat}(hs:s.Pairwise (λa b=>key a<key b))(hj:j<=s.length)(h1:∀g∈s.drop j,key h<key g)(h2:∀g,j≠0->s[j-1]?=some g->key g<key h):jy key s h=s.take j++h::s.drop j:=by
 have x:∀g∈s.take j,key g<key h:=by
  intro g hg;obtain⟨i,p⟩:=zL hg;have w:=(cS.1 p).1;rw[zO]at w;rw[zY,zB O]at p;have r:s[j-1]?=some (s[j-1]' O):=cL _;have m:=h2 _ O r;by_cases hij:i=j-1
  ·subst hij;rw[r]at p;cases p;exact m
  ·have:=zy.1 hs i (j-1) O O O;have u:s[i]' O=g:=by
    have:=cL (l:=s) (i:=i) O;rw[this]at p;exact Option.some.inj p
   rw[u]at this;omega
 have e:jy key (s.take j++s.drop j) h=s.take j++h::s.drop j:=by
  unfold jy;rw[List.takeWhile_append_of_pos (by intro g hg;simpa using x g hg),List.dropWhile_append_of_pos (by intro g hg;simpa using x g hg)];cases hd:s.drop j with
  | nil=>simp
  | cons g d=>
   have:=h1 g (by rw[hd];exact lB);rw[Dq aE,List.dropWhile_cons_of_neg aE,km]
 rw[nS]at e;exact e
theorem KB (l:List Nat):(UX key l).Perm l:=by
 have:∀(m acc:List Nat),(m.foldl (jy key) acc).Perm (m++acc):=by
  intro m
  induction m with
  | nil=>intro acc;exact List.Perm.refl _
  | cons h m ih=>
   intro acc;rw[lC];refine(ih _).trans ?_;refine((D6 acc h).append_left m).trans ?_;exact List.perm_middle
 have:=this l []
 rwa [km]at this
theorem Lj (l:List Nat){i h:Nat}(hh:l[i]?=some h):UX key (l.take (i+1))=jy key (UX key (l.take i)) h:=by
 unfold UX;rw[zf,hh,uy,m6];rfl
theorem GZ {l:List Nat}(hn:l.Pairwise (λa b=>key a≠key b)):∀i,(UX key (l.take i)).Pairwise (λa b=>key a<key b)
 | 0=>by simp[UX]
 | i+1=>by
  have ih:=GZ hn i;cases hh:l[i]? with
  | none=>
   have:l.take (i+1)=l.take i:=by rw[zf,hh];simp
   rw[this];exact ih
  | some h=>
   rw[Lj l hh];refine PS ih λg m=>?_;have:=(KB (l.take i)).mem_iff.1 m;obtain⟨a,j⟩:=zL this;have e:=(cS.1 j).1;rw[zO]at e;rw[zY,zB O]at j;have d:=(cS.1 hh).1;have:=zy.1 hn a i O d O;rw[(cS.1 j).2,(cS.1 hh).2]at this;exact this
theorem Ο (l:List Nat)(i x:Nat):(ints l).set i (.int .i64 (x:Int))=ints (l.set i x):=by simp[ints,uj]
theorem _root_.Go.Vc.bR.A6 {s:Sl}{l:List Nat}(h:bR s 1 (ints l) σ Q){i x:Nat}(hx:l[i]?=some x){K:Int->Prop}(hK:K (x:Int)):Ix s.a s.len (i:Int) 1 λa=>gT (· = σ) bN a K:=by
 have j:=(cS.1 hx).1;obtain⟨b,o,e,g⟩:=h.fP.cell (J0 hx);have p:=h.jT;rw[e];refine ix O O ?_;refine⟨(x:Int),λm d=>?_,hK⟩;rw[d,add_lit,show o+(i:Int).toNat*1=o+i by omega];exact g
theorem _root_.Go.Vc.bR.xM {s:Sl}{l:List Nat}(h:bR s 1 (ints l) σ Q){i x:Nat}(hi:i<l.length){K:aP}(hK:∀σ',Ext Q σ σ'->bR s 1 (ints (l.set i x)) σ' Q->K σ'):Ix s.a s.len (i:Int) 1 λa=>dG a (.int .i64 (x:Int)) σ K:=by
 have m:=h.jT;rcases h.2 with⟨h0,_⟩|⟨b,cs,hq,ha,hb,hle,hcl,ht⟩
 ·omega
 rw[ha];refine ix O O ?_;refine h.st (j:=i) (by rw[QO];exact hi) (λp d=>?_) λσ' e g=>hK σ' e (by rw[←Ο];exact g);rw[ha]at d;cases d;rw[add_lit];congr 1;omega
def tW (f:Fv)(key:Nat->Nat)(l:List Nat)(Q:Rg)(σ:Hp):Prop:=∀x∈l,∀y∈l,∀(σ':Hp) (R:aN),Ext Q σ σ'->(∀(d:Int) σ'',bO σ' σ''->(d<0↔key x<key y)->R d σ'') →
 V1 Tryz.prog f [.int .i64 (x:Int),.int .i64 (y:Int)] [.one bN] σ' R
theorem Wof (P D:List Nat)(g h:Nat):((P++g::h::D).set (P.length+1) g).set P.length h=P++h::g::D:=by
 rw[wL _ _ O,show P.length+1-P.length=1 by omega,wL _ _ (zC _),pW];rfl
set_option maxRecDepth 4000 in
theorem Weg {s:Sl}{l:List Nat}{f:Fv}(h:bR s 1 (ints l) σ Q)(hl:l.length<=1000)(hn:l.Pairwise (λa b=>key a≠key b))(hc:tW f key l Q σ){R:aP}
 (hR:∀σ',Ext Q σ σ'->bR s 1 (ints (UX key l)) σ' Q->R σ'):Ws.c s 0 (l.length:Int) f σ R:=by
 refine Ws.o ?_;rcases xi l.length with h0|hpos
 ·have W:l=[]:=w9.1 h0;subst W;refine ar O O (ZP (a:=bN) (λ(t:Int) v=>t=1/\v=σ) (λ_ _=>0) ⟨rfl,rfl⟩ ?_);rintro t v ⟨rfl,rfl⟩;refine fH aA (hR v (Ext.refl _ _) h)
 refine bZ (m:=1) O O (ZP (a:=bN) (λ(t:Int) v=>∃i:Nat,t=(i:Int)/\1<=i/\i<=l.length/\Ext Q σ v/\bR s 1 (ints (UX key (l.take i)++l.drop i)) v Q) (λt _=>l.length-t.toNat) ⟨1,rfl,zC _,hpos,Ext.refl _ _,?_⟩ ?_)
 ·have:UX key (l.take 1)=l.take 1:=by
   cases l with
   | nil=>rfl
   | cons x l=>rfl
  rw[this,nS];exact h
 rintro t v ⟨i,rfl,hi1,hi,e,S⟩;refine cH (λhlt=>?_) λhge=>?_
 ·have u:i<l.length:=by omega
  have hx:l[i]?=some l[i]:=cL u;have A:l.drop i=l[i]::l.drop (i+1):=qL u;have hxm:=zd u;rw[A]at S;generalize l[i]=x at *;have hsl:(UX key (l.take i)).length=i:=by rw[(KB _).length_eq,zO];omega
  have G:=GZ hn i;have X:∀g∈UX key (l.take i),g∈l/\key g≠key x:=by
   intro g E;have:=(KB (l.take i)).mem_iff.1 E;refine⟨m7 this,?_⟩;obtain⟨a,Y⟩:=zL this;have U:=(cS.1 Y).1;rw[zO]at U;rw[zY,zB O]at Y;have:=zy.1 hn a i O u O;rw[(cS.1 Y).2,(cS.1 hx).2]at this;exact this
  have N:=Lj (key:=key) l hx;generalize UX key (l.take i)=S0 at *;refine ZP (a:=bN) (λ(t:Int) w=>∃j:Nat,t=(j:Int)/\j<=i/\Ext Q σ w/\bR s 1 (ints (S0.take j++x::(S0.drop j++l.drop (i+1)))) w Q/\∀g∈S0.drop j,key x<key g) (λt _=>t.toNat)
   ⟨i,rfl,zC _,e,?_,λg E=>by rw[C9 O]at E;simp at E⟩ ?_
  ·rw[mc O,C9 O,qn];exact S
  rintro t w ⟨j,rfl,hj,ew,p,B⟩;have fin:(∀g,j≠0->S0[j-1]?=some g->key g<key x)->Ar .i64 ((i:Int)+1) λi2=>(∃i':Nat,i2=(i':Int)/\1<=i'/\i'<=l.length/\Ext Q σ w/\bR s 1 (ints (UX key (l.take i')++l.drop i')) w Q)/\l.length-i2.toNat<l.length-(i:Int).toNat:=by
   intro h2;refine bZ (m:=i+1) O O ⟨⟨i+1,rfl,O,O,ew,?_⟩,O⟩;rw[N,Lu G O B h2,kF,lZ];exact p
  refine Jn.intro ⟨(· = w),rfl,cH (λc1=>?_) λc1=>cF rfl (fin λg hj0=>O)⟩;have C:j-1<S0.length:=by omega
  have E:S0[j-1]?=some S0[j-1]:=cL C;have aa:S0.take j=S0.take (j-1)++[S0[j-1]]:=by
   have:=zf (l:=S0) (i:=j-1);rw[show j-1+1=j by omega,E]at this;exact this
  have pe:S0.drop (j-1)=S0[j-1]::S0.drop j:=by
   have:=qL (l:=S0) C;rw[show j-1+1=j by omega]at this;exact this
  have L:=X _ (zd C);generalize S0[j-1]=g at *;have y:S0.take j++x::(S0.drop j++l.drop (i+1))=S0.take (j-1)++g::x::(S0.drop j++l.drop (i+1)):=by rw[aa];simp
  have D:(S0.take (j-1)).length=j-1:=by rw[zO];omega
  rw[y]at p;have M:(S0.take (j-1)++g::x::(S0.drop j++l.drop (i+1)))[j]?=some x:=by
   rw[zi O,D,show j-(j-1)=1 by omega];rfl
  have H:(S0.take (j-1)++g::x::(S0.drop j++l.drop (i+1)))[j-1]?=some g:=by
   rw[zi O,D,pW];rfl
  refine p.A6 M (bZ (m:=j-1) O O (p.A6 H (hc x hxm g L.1 w _ ew λd w2 e2 hd=>?_)));have r:=aI.bK p e2;have J:=ew.trans (bO.to e2);by_cases hlt2:key x<key g
  ·refine cJ (zU (hd.2 hlt2)) ⟨(· = w2),rfl,bZ (m:=j-1) O O (bZ (m:=j-1) O O (r.A6 H (r.A6 M ?_)))⟩;refine r.xM (i:=j) aE λw3 e3 Z=>Z.xM (i:=j-1) aE λw4 e4 K=>?_;have F:=Wof (S0.take (j-1)) (S0.drop j++l.drop (i+1)) g x;rw[D,show j-1+1=j by omega]at F;rw[F]at K;refine bZ (m:=j-1) O O ⟨⟨j-1,rfl,O,(J.trans e3).trans e4,?_,λz P=>?_⟩,O⟩
   ·rw[pe];exact K
   ·rw[pe]at P;rcases zT.1 P with h1|h1
    ·subst h1;exact hlt2
    ·exact B z h1
  ·refine cF (zb λhh=>hlt2 (hd.1 hh)) ?_;have V:key g<key x:=by have:=L.2;omega
   refine bZ (m:=i+1) O O ⟨⟨i+1,rfl,O,O,J,?_⟩,O⟩;rw[N,Lu G (j:=j) O B λz _ P=>by rw[E]at P;cases P;exact V];rw[kF,lZ,y];exact r
 ·have:i=l.length:=by omega
  subst this;rw[zm,List.drop_length,km]at S;exact hR v e S
theorem Rc {e:Int}{K:Int->Prop}(h0:0<=e)(h1:e<256)(hK:K e):Ar .u8 e K:=by
 have a:IntKind.u8.wrap e=e:=by
  unfold IntKind.wrap;simp[IntKind.bits,IntKind.signed];omega
 unfold Ar;rw[a];exact hK
set_option maxRecDepth 100000 in
theorem R7 {n:Nat}(hn:n<=12){R:aN}(hR:∀t,R t σ):ZY.c (n:Int) σ R:=by
 refine ZY.o ?_;refine ZM.o ?_;refine Jn.intro (fH O (Jn.intro (fH O (Jn.intro (fH O ?_)))));refine Rc O O ?_;have a:n=0\/n=1\/n=2\/n=3\/n=4\/n=5\/n=6\/n=7\/n=8\/n=9\/n=10\/n=11\/n=12:=by omega
 rcases a with rfl|rfl|rfl|rfl|rfl|rfl|rfl|rfl|rfl|rfl|rfl|rfl|rfl<;>exact⟨_,O,rfl,hR _⟩
theorem Nm {s:Sl}{l:List Nat}{f:Fv}(h:bR s 1 (ints l) σ Q)(hl:l.length<=12)(hn:l.Pairwise (λa b=>key a≠key b))(hc:tW f key l Q σ){R:aP}
 (hR:∀σ',Ext Q σ σ'->bR s 1 (ints (UX key l)) σ' Q->R σ'):WO.c s f σ R:=by
 refine WO.o ?_;have g:=h.jT;rw[g];have j:IntKind.u64.wrap (l.length:Int)=(l.length:Int):=by
  unfold IntKind.wrap;simp[IntKind.bits,IntKind.signed];omega
 unfold Ar;rw[j];refine R7 hl λt=>WN.ui ?_;unfold WN.Mc;refine Fm (a:=bN) (bb:=bN) (c:=bN) (d:=.b) (e:=.b) (λ(x:Int) (y:Int) _ _ _ v=>x=0/\y=(l.length:Int)/\v=σ) (λ_ _ _ _ _ _=>0) ⟨rfl,rfl,rfl⟩ ?_;rintro x y z u w v ⟨rfl,rfl,rfl⟩;refine ar O O (mh O ?_);exact Weg h O hn hc hR
end Go.Ar
namespace Go.Ar
open Go Go.Vc Go.Proofs
variable {σ:Hp}{F:Rg}{p q:Nat}{st:List Nat}
def jk (st:List Nat)(h:Nat):Nat:=KX st h*100000+used st h*1000+(999-h)
def VG (st:List Nat):List Nat:=(List.range (st.length/16)).filter λh=>0<gB st (16*h) (16*h+16) 2
theorem Gu (st:List Nat)(h:Nat):used st h<=16:=by
 unfold used gB;refine zI vQ ?_;rw[zO];omega
theorem Al (st:List Nat)(h:Nat):KX st h<=2:=by
 unfold KX;split
 ·omega
 ·split<;>omega
theorem Fq {g h:Nat}(hg:g<=64)(hh:h<=64):yJ st g h=decide (jk st g<jk st h):=by
 have b:=Gu st g;have a:=Gu st h;have d:=Al st g;have e:=Al st h;unfold yJ jk;rw[mX];simp only[nX,zF,zR,zZ];omega
theorem UM {α:Type}{P Q:α->Bool}:∀{l:List α},(∀x∈l,P x=Q x)->l.takeWhile P=l.takeWhile Q
 | [],_=>rfl
 | x::l,h=>by
  rw[wD,wD,h x lB,UM λy hy=>h y (lz _ hy)]
theorem UI {α:Type}{P Q:α->Bool}:∀{l:List α},(∀x∈l,P x=Q x)->l.dropWhile P=l.dropWhile Q
 | [],_=>rfl
 | x::l,h=>by
  rw[Dw,Dw,h x lB,UI λy hy=>h y (lz _ hy)]
theorem VZ (hl:st.length<=1024):∀h∈VG st,16*h+16<=st.length/\h<=64:=by
 intro h hh;unfold VG at hh;have:=(zH.1 hh).1;rw[zW]at this;omega
theorem UD (hl:st.length<=1024):eP st=UX (jk st) (VG st):=by
 have key:∀(l acc:List Nat),(∀x∈l,x<=64)->(∀x∈acc,x<=64)->l.foldl (nA st) acc=l.foldl (jy (jk st)) acc:=by
  intro l
  induction l with
  | nil=>intro acc _ _;rfl
  | cons h l ih=>
   intro acc h1 h2;have b:=h1 h lB;have e:nA st acc h=jy (jk st) acc h:=by
    unfold nA jy;rw[UM λg d=>Fq (h2 g d) b,UI λg d=>Fq (h2 g d) b]
   rw[lC,lC,e];refine ih _ (λx a=>h1 x (lz _ a)) λx a=>?_;rcases zT.1 ((D6 acc h).mem_iff.1 a)with h3|h3
   ·rw[h3];exact b
   ·exact h2 x h3
 exact key _ [] (λx a=>(VZ hl x a).2) aA
theorem SG (hl:st.length<=1024):(VG st).Pairwise λa b=>jk st a≠jk st b:=by
 have g:(VG st).Pairwise (· ≠ ·):=List.Pairwise.sublist sk xB;refine List.Pairwise.imp_of_mem (λ{a b} i e d=>?_) g;have j:=(VZ hl a i).2;have m:=(VZ hl b e).2;have:=Gu st a;have:=Gu st b;unfold jk;omega
theorem EZ:∀{n m p:Nat},n<=m->(∀j,j<n->st[p+j]?=some 2)->(n=m\/st[p+n]?≠some 2)->gA st p m=n
 | 0,m,p,_,_,he=>by
  unfold gA;rcases he with h|h
  ·rw[←h];simp
  ·cases m with
   | zero=>simp
   | succ m=>
    cases hd:st[p]? with
    | none=>
     have:=List.getElem?_eq_none_iff.1 hd;rw[C9 this];simp
    | some x=>
     have d:=(cS.1 hd).1;rw[qL d,sL,Dq]
     ·rfl
     ·have b:=(cS.1 hd).2;rw[b];intro h2;rw[zr,hd]at h;exact h (by simpa using h2)
 | n+1,m,p,hm,ha,he=>by
  have a:=ha 0 O;rw[zr]at a;have d:=(cS.1 a).1;have b:=(cS.1 a).2;have e:=EZ (n:=n) (m:=m-1) (p:=p+1) O (λj g=>by rw[show p+1+j=p+(j+1) by omega];exact ha _ O) (by
   rcases he with h|h
   ·left;omega
   ·right;rw[show p+1+n=p+(n+1) by omega];exact h)
  unfold gA at *;obtain⟨k,rfl⟩:∃k,m=k+1:=⟨m-1,O⟩;rw[qL d,sL,List.takeWhile_cons_of_pos (by rw[b];rfl),zQ];rw[Ds]at e;rw[e]
theorem JB (e:Nat):∀(f f' x:Nat),e-x<f->e-x<f'->Q5 st e f x=Q5 st e f' x:=by
 intro f
 induction f with
 | zero=>intro f' x h;omega
 | succ f ih=>
  intro f' x h1 h2;obtain⟨g,rfl⟩:∃g,f'=g+1:=⟨f'-1,O⟩;unfold Q5;by_cases hc:e<=x
  ·rw[zB hc,zB hc]
  ·rw[zA hc,zA hc];split
   ·exact ih g _ O O
   ·rw[ih g (x+gA st x (e-x)+1) O O]
theorem Pp {want:Int}{x:Nat}(h:want<=(x:Int)):∀l,gP want x l=[]
 | []=>rfl
 | r::l=>by unfold gP;rw[zB h]
theorem PE {want:Int}{x:Nat}(h:¬want<=(x:Int))(r:Nat×Nat)(l:List (Nat×Nat)):gP want x (r::l)=r::gP want (x+r.2) l:=by
 show(if want<=(x:Int)then[]else r::gP want (x+r.2) l)=_
 rw[zA h]
theorem S8 {e x f:Nat}(hx:x<e)(hf:e-x<f):Q5 st e f x=if gA st x (e-x)=0 then Q5 st e f (x+1)else(x,gA st x (e-x))::Q5 st e f (x+gA st x (e-x)+1):=by
 obtain⟨g,rfl⟩:∃g,f=g+1:=⟨f-1,O⟩;rw[Q5,zA O];split
 ·exact JB e _ _ _ O O
 ·rw[JB e g (g+1) _ O O]
theorem Rj {e x f:Nat}(hx:e<=x):Q5 st e f x=[]:=by
 cases f with
 | zero=>rfl
 | succ f=>rw[Q5,zB hx]
theorem Rt (h:gI σ p q st){n2:Nat}(hb:bW σ n2 [.pointer (some ⟨p,0,none⟩)]){Q:Rg}(hq:¬Q p/\¬Q q/\¬Q n2)(hl:st.length<=1024){l:List Nat}(hm:∀x∈l,16*x+16<=st.length) :
 tW ⟨233,#[],#[.pointer (some ⟨n2,0,none⟩)]⟩ (jk st) l Q σ:=by
 intro x hx y hy σ' R e hR;refine Gf (all := #[.int .i64 (x:Int),.int .i64 (y:Int),.pointer (some ⟨n2,0,none⟩)]) (by kernel_rfl) aA ?_;show XN.c (x:Int) (y:Int) ⟨n2,0,none⟩ σ' R;refine XN.o ?_;have g:=h.bU e hq.1 hq.2.1;have i:=e.cA hb hq.2.2;have b:=hm x hx;have a:=hm y hy;have A:=Gu st x;have E:=Gu st y;have F:=Al st x;have D:=Al st y;refine⟨(· = σ'),rfl,⟨_,λm hm=>by rw[hm,i.cell];rfl,⟨_,λm hm=>by rw[hm,i.cell];rfl,?_⟩⟩⟩;refine vp g b λC=>⟨rfl,vp g a λB=>⟨rfl,Dt g b (Dt g a (ar O O ?_))⟩⟩;refine cN (λu=>?_) λu=>?_
 ·have s:((KX st x:Nat):Int)-((KX st y:Nat):Int)≠0:=by simpa using u
  refine hR _ σ' (Ext.refl _ _) ?_;unfold jk;omega
 ·have z:((KX st x:Nat):Int)-((KX st y:Nat):Int)=0:=by simpa using u
  refine g.iX (v:=1) b (g.iX (v:=1) a ?_);have j:gB st (16*x) (16*x+16) 1=used st x:=rfl;have r:gB st (16*y) (16*y+16) 1=used st y:=rfl;rw[j,r];refine ar O O (cN (λd=>?_) λd=>?_)
  ·have s:((used st x:Nat):Int)-((used st y:Nat):Int)≠0:=by simpa using d
   refine hR _ σ' (Ext.refl _ _) ?_;unfold jk;omega
  ·have w:((used st x:Nat):Int)-((used st y:Nat):Int)=0:=by simpa using d
   refine ar O O (hR _ σ' (Ext.refl _ _) ?_);unfold jk;omega
theorem Wna (l:List (Nat×Nat))(r:Nat×Nat):rV (l++[r])=rV l++[.int .i64 (r.1:Int),.int .i64 (r.2:Int)]:=by simp[rV]
theorem VU (n:Nat)(P:Nat->Bool):(List.range (n+1)).filter P=(List.range n).filter P++(if P n then[n]else[]):=by
 rw[zw,vP]
 congr 1
 cases h:P n<;>simp[h]
set_option maxRecDepth 4000 in
theorem MM (h:gI σ p q st)(want:Int)(h12:(VG st).length<=12){R:Sl->Int->Hp->Prop}(h0:want<0->∀σ',bO σ σ'->R ⟨none,0,0⟩ 1 σ')
 (h1:¬want<0->∀s σ',bO σ σ'->bR s 2 (rV (HE st want)) σ' (λb=>σ.size<=b)->R s 0 σ'):YB.c (aW p) want σ R:=by
 refine YB.o ?_;have n2:=h.n2;refine nw (cs:=[.pointer (some ⟨p,0,none⟩)]) λu hz e L=>L.vo rfl (HB (h.bK e) (cF rfl (cH (λhw=>h0 hw u e) λhw=>?_)));have hu:=h.bK e;refine L.vo rfl (DU hu ?_);refine Kh (a:=.s) (bb:=bN) (λ(A:Sl) (t:Int) v=>∃k:Nat,t=(k:Int)/\k<=st.length/16/\bO u v/\bR A 1 (ints ((List.range k).filter λh=>0<gB st (16*h) (16*h+16) 2)) v (λb=>u.size<=b)) (λ_ t _=>st.length/16-t.toNat)
  ⟨0,rfl,O,Ext.refl _ _,bR.nil _ _ _ _⟩ ?_
 rintro A t v ⟨k,rfl,hk,ev,C⟩;have hv:=hu.bK ev;have hbv:=ev.cA L id;refine cH (λhlt=>?_) λhge=>?_
 ·have F:16*k+16<=st.length:=by omega
  have hlen:=C.jT;have hfl:((List.range k).filter λh=>0<gB st (16*h) (16*h+16) 2).length<=k:=zI (na _ _) (by rw[oW];omega);refine hbv.vo rfl (vp hv F λc=>hv.iX (v:=2) F (cH (λhc=>?_) λhc=>?_))
  ·have N:0<gB st (16*k) (16*k+16) 2:=by omega
   refine C.push (vs:=[.int .i64 (k:Int)]) (λb L=>zI ev.1 L) rfl rfl (by simp[dM]) O O λs' v' hl' e' Z=>?_;refine bZ (m:=k+1) O O ⟨⟨k+1,rfl,O,Ext.fresh ev e' λi hi=>hi,?_⟩,O⟩;rw[VU,zB (by simpa using N),Vl];exact Z
  ·refine bZ (m:=k+1) O O ⟨⟨k+1,rfl,O,ev,?_⟩,O⟩;rw[VU,zA aE,km];exact C
 have hkk:k=st.length/16:=by omega
 subst hkk;have hplt:=h.lt;have hcmp:=Rt hv hbv (Q:=λb=>u.size<=b) ⟨O,O,O⟩ n2 (l:=VG st) λx hx=>(VZ n2 x hx).1;refine Nm C h12 (SG n2) hcmp λw ew H=>?_;have H:bR A 1 (ints (UX (jk st) (VG st))) w (λb=>u.size<=b):=H;rw[←UD n2]at H;have E:bO u w:=Ext.fresh ev ew λi hi=>hi;have hT:=hu.bK E;have hbw:=E.cA L id;have hol:=H.jT;have hmem:∀x∈eP st,16*x+16<=st.length:=λx hx=>by
  rw[UD n2]at hx;exact(VZ n2 x ((KB _).mem_iff.1 hx)).1
 have hlen12:(eP st).length<=12:=by rw[UD n2,(KB _).length_eq];exact h12
 have hslo:=aH.cut H.fP;refine Im (a:=.s) (bb:=bN) (c:=bN) (λ(out:Sl) (d:Int) (t:Int) v=>∃(k:Nat) (D:List (Nat×Nat)) (m:Nat),t=(k:Int)/\k<=(eP st).length/\d=(m:Int)/\m<=16*k/\D.length<=16*k/\bO w v/\bR out 2 (rV D) v (λb=>w.size<=b)/\D++gP want m (((eP st).drop k).flatMap (KU st))=HE st want) (λ_ _ t _=>(eP st).length-t.toNat)
  ⟨0,[],0,rfl,O,rfl,O,by simp,Ext.refl _ _,bR.nil _ _ _ _,by simp[HE]⟩ ?_
 rintro out d t v ⟨k,D,m,rfl,hk,rfl,hm,hD,K,Y,J⟩;have hTv:=hT.bK K;have hbv2:=K.cA hbw id;refine cH (λhlt=>?_) λhge=>?_
 ·have F:k<(eP st).length:=by omega
  have hx:(eP st)[k]?=some (eP st)[k]:=cL F;have hxm:=hmem _ (zd F);have pe:(eP st).drop k=(eP st)[k]::(eP st).drop (k+1):=qL F;rw[pe,mM]at J;generalize (eP st)[k]=x at *;have hsl2:=aH.bK hslo K;refine hsl2.pt hx ?_;refine Im (a:=.s) (bb:=bN) (c:=bN) (λ(out:Sl) (d:Int) (t:Int) z=>∃(i:Nat) (D:List (Nat×Nat)) (m:Nat),t=(i:Int)/\i<=17/\d=(m:Int)/\m<=16*k+i/\m<=16*k+16/\D.length<=16*k+i/\D.length<=16*k+16/\bO w z/\bR out 2 (rV D) z (λb=>w.size<=b)/\D++gP want m (Q5 st (16*x+16) 17 (16*x+i)++((eP st).drop (k+1)).flatMap (KU st))=HE st want) (λ_ _ t _=>20-t.toNat)
   ⟨0,D,m,rfl,O,rfl,O,O,O,O,K,Y,by simpa[KU]using J⟩ ?_
  rintro B g t2 z ⟨i,D2,m2,rfl,hi,rfl,hm1,hm2,hD1,hD2,V,G,r⟩;have hTz:=hT.bK V;have hbz:=V.cA hbw id;have hlz:B.len=D2.length:=by have:=G.1;rw[A5]at this;omega
  refine cH (λhlt3=>?_) λhge3=>?_
  ·have hi':i<16:=by omega
   refine cH (λhdone=>?_) λhgo=>?_
   ·rw[Pp O,km]at r;rw[r]at G;exact h1 hw B z ((Ext.trans e E).trans V) (aI.mono G λb _ L=>by have:=(Ext.trans e E).1;omega)
   ·refine ZP (a:=bN) (λ(t:Int) y=>y=z/\∃n:Nat,t=(n:Int)/\i+n<=16/\∀j,j<n->st[16*x+i+j]?=some 2) (λt _=>20-t.toNat) ⟨rfl,0,rfl,O,λj hj=>O⟩ ?_;rintro t3 y ⟨rfl,n,rfl,hn,M⟩;have P:(i+n=16\/st[16*x+i+n]?≠some 2)->If (decide ((n:Int)>0)) (Ar .i64 ((x:Int)*16) λt73=>Ar .i64 (t73+(i:Int)) λt75=>Nw (.cells #[.int .i64 t75,.int .i64 (n:Int)] 92 (0,0)) y λn78 v13=>
     App B 2 16 92 [.int .i64 0,.int .i64 0] ⟨some n78,1,1⟩ v13 λS v14=>Ar .i64 ((m2:Int)+(n:Int)) λg=>Ar .i64 ((i:Int)+(n:Int)) λi1=>Ar .i64 (i1+1) λi2=>
     (∃(i:Nat) (D:List (Nat×Nat)) (m:Nat),i2=(i:Int)/\i<=17/\g=(m:Int)/\m<=16*k+i/\m<=16*k+16/\D.length<=16*k+i/\D.length<=16*k+16/\bO w v14/\bR S 2 (rV D) v14 (λb=>w.size<=b)/\D++gP want m (Q5 st (16*x+16) 17 (16*x+i)++((eP st).drop (k+1)).flatMap (KU st))=HE st want)/\20-i2.toNat<20-(i:Int).toNat)
     (Ar .i64 ((i:Int)+1) λi3=>(∃(i:Nat) (D:List (Nat×Nat)) (m:Nat),i3=(i:Int)/\i<=17/\(m2:Int)=(m:Int)/\m<=16*k+i/\m<=16*k+16/\D.length<=16*k+i/\D.length<=16*k+16/\bO w y/\bR B 2 (rV D) y (λb=>w.size<=b)/\D++gP want m (Q5 st (16*x+16) 17 (16*x+i)++((eP st).drop (k+1)).flatMap (KU st))=HE st want)/\20-i3.toNat<20-(i:Int).toNat):=by
     intro hst;have hrl:gA st (16*x+i) (16*x+16-(16*x+i))=n:=EZ O M (by
      rcases hst with h|h
      ·left;omega
      ·right;exact h)
     rw[S8 O O,hrl]at r;refine cH (λN=>?_) λhz0=>?_
     ·rw[zA O,lZ,PE O]at r;refine bZ (m:=x*16) O O (bZ (m:=16*x+i) O O ?_);refine G.push (vs:=[.int .i64 ((16*x+i:Nat):Int),.int .i64 (n:Int)]) (λb L=>zI V.1 L) rfl rfl (by simp[dM]) O O λs' v' hl' e' Z=>?_;refine bZ (m:=m2+n) O O (bZ (m:=i+n) O O (bZ (m:=i+n+1) O O ⟨⟨i+n+1,D2++[(16*x+i,n)],m2+n,rfl,O,rfl,O,O,by simp;omega,?_,Ext.fresh V e' λi hi=>hi,?_,?_⟩,O⟩))
      ·simp;have:D2.length<16*k+16:=by omega
       omega
      ·rw[Wna];exact Z
      ·rw[←r,kF,show 16*x+(i+n+1)=16*x+i+n+1 by omega];rfl
     ·rw[zB O]at r;exact bZ (m:=i+1) O O ⟨⟨i+1,D2,m2,rfl,O,rfl,O,O,O,O,V,G,r⟩,O⟩
    refine bZ (m:=i+n) O O (bY.intro (cH (λhc4=>?_) λhc4=>cF rfl (P (.inl O))));refine hbz.vo rfl (vp hTz hxm λc=>bZ (m:=i+n) O O ?_);have hidx:16*x+i+n<st.length:=by omega
    have U:st[16*x+i+n]?=some st[16*x+i+n]:=cL hidx;have W:=hTz.part (s:=⟨some ⟨q,16*x,none⟩,16,c⟩) (n:=16) rfl rfl hxm;refine W.pt (i:=i+n) (x:=st[16*x+i+n]) ?_ ?_
    ·rw[zY,zB O,zn,show 16*x+(i+n)=16*x+i+n by omega];exact U
    have e2:(((st[16*x+i+n]:Nat):Int)==2)=(st[16*x+i+n]==2):=ke _ 2;rw[e2];refine cN (λX=>?_) λX=>?_
    ·have h2:st[16*x+i+n]=2:=by simpa using X
     refine bZ (m:=n+1) O O ⟨⟨rfl,n+1,rfl,O,λj hj=>?_⟩,O⟩;by_cases hjn:j=n
     ·subst hjn;rw[U,h2]
     ·exact M j O
    ·have h2:st[16*x+i+n]≠2:=by simpa using X
     refine P (.inr ?_);rw[U];intro e5;exact h2 (Option.some.inj e5)
  ·rw[Rj O,qn]at r;exact bZ (m:=k+1) O O ⟨⟨k+1,D2,m2,rfl,O,rfl,O,O,V,G,r⟩,O⟩
 ·have:k=(eP st).length:=by omega
  subst this;rw[List.drop_length,List.flatMap_nil]at J;have:gP want m []=[]:=rfl;rw[this,km]at J;rw[J]at Y;exact h1 hw out v ((Ext.trans e E).trans K) (aI.mono Y λb _ L=>by have:=(Ext.trans e E).1;omega)
end Go.Ar
namespace Go.Ar
open Go Go.Vc Go.Proofs
open Go.Bu (Zi QR Zz iX)
variable {σ:Hp}{F H:Rg}{p hs:Nat}{A:AR}{sp:Sp}{Y:Lay}{T:Nat->Hp->Rg->Prop}
theorem Ff {want:Int}:∀(x:Nat) (l:List (Nat×Nat)),(gP want x l).length<=l.length/\∀r∈gP want x l,r∈l
 | _,[]=>⟨zC _,λr h=>h⟩
 | x,r::l=>by
  have ih:=Ff (want:=want) (x+r.2) l;show(if want<=(x:Int)then[]else r::gP want (x+r.2) l).length<=_/\∀q∈(if want<=(x:Int)then[]else r::gP want (x+r.2) l),_
  split
  ·exact⟨vM _,λq h=>by simp at h⟩
  ·refine⟨by simp only[zQ];omega,λq a=>?_⟩;rcases zT.1 a with h|h
   ·subst h;exact lB
   ·exact lz _ (ih.2 q h)
theorem Uk {st:List Nat}{e:Nat}:∀(f x:Nat),(Q5 st e f x).length<=f/\∀r∈Q5 st e f x,r.1+r.2<=e
 | 0,x=>⟨zC _,λr h=>by simp[Q5]at h⟩
 | f+1,x=>by
  have h1:=Uk (st:=st) (e:=e) f (x+1);have a:=Uk (st:=st) (e:=e) f (x+gA st x (e-x)+1);have d:gA st x (e-x)<=e-x:=by
   unfold gA;refine zI (List.takeWhile_sublist _).length_le ?_;rw[zO];omega
  unfold Q5;split
  ·exact⟨vM _,λr h=>by simp at h⟩
  ·split
   ·exact⟨by have:=h1.1;omega,h1.2⟩
   ·refine⟨by simp only[zQ];have:=a.1;omega,λr b=>?_⟩;rcases zT.1 b with h|h
    ·subst h;simp only;omega
    ·exact a.2 r h
theorem Wfp {st:List Nat}(hl:st.length<=1024)(want:Int):(HE st want).length<=2000/\∀r∈HE st want,r.1+r.2<=st.length:=by
 have m:∀x∈eP st,16*x+16<=st.length:=λx a=>by
  rw[UD hl]at a;exact(VZ hl x ((KB _).mem_iff.1 a)).1
 have j:(eP st).length<=64:=by
  rw[UD hl,(KB _).length_eq];refine zI (na _ _) ?_;rw[oW];omega
 have b:∀l:List Nat,(l.flatMap (KU st)).length<=17*l.length:=by
  intro l
  induction l with
  | nil=>simp
  | cons x l ih=>
   rw[mM,zJ,zQ];have:=(Uk (st:=st) (e:=16*x+16) 17 (16*x)).1;have e:KU st x=Q5 st (16*x+16) 17 (16*x):=rfl;rw[e];omega
 have g:=Ff (want:=want) 0 ((eP st).flatMap (KU st));refine⟨?_,λr i=>?_⟩
 ·have:=b (eP st);have:=g.1;unfold HE;omega
 ·have:=g.2 r i;rw[rJ]at this;obtain⟨x,a,d⟩:=this;have p:=(Uk (st:=st) (e:=16*x+16) 17 (16*x)).2 r d;have s:=m x a;omega
def oh (want:Int):Int:=if want<0 then 1 else 0
theorem Wfh (h:W2 σ F H Y A T sp)(want:Int)(h12:(VG (YO A).st).length<=12){R:Int->Int->Hp->Prop}(hR:∀σ' F' H',Fits σ F H F' H'->Ext (gJ F H) σ σ'->W2 σ' F' H' Y (dU A sp want).1 T (dU A sp want).2->R ((kH A want:Nat):Int) (oh want) σ') :
 Xg.c (aW Y.p) want σ R:=by
 refine Xg.o ?_;refine Vd h.a (cF rfl (cH (λJ=>?_) λJ=>aG (h.a.hd.rS rfl (NA h.a rfl λv e hA=>?_))))
 ·have e1:dU A sp want=(A,sp):=by unfold dU;rw[zB J]
  have e2:kH A want=0:=by unfold kH;rw[zB J]
  have e3:oh want=1:=by unfold oh;rw[zB J]
  have:=hR σ F H Fits.refl (Ext.refl _ _) (by rw[e1];exact h);rw[e2,e3]at this;exact this
 have e1:dU A sp want=(HE (YO A).st want).foldl fD (YO A,sp):=by unfold dU;rw[zA J];rfl
 have e2:kH A want=((HE (YO A).st want).map (·.2)).sum:=by unfold kH;rw[zA J];rfl
 have e3:oh want=0:=by unfold oh;rw[zA J]
 rw[e1,e2,e3]at hR;have hW:=h.m8 e hA;have W:(YO A).st.length<=1024:=by have:=hA.lay.st;have:=hA.lay.n2;omega
 obtain⟨_,_,q,hT,_⟩:=hW.a.m4;refine aG (hW.a.hd.rP rfl (MM hT want h12 (λS=>absurd S J) λ_ s v1 C E=>?_));have d:=Wfp W want;generalize HE (YO A).st want=P at *;have hlen:s.len=P.length:=by have:=E.1;rw[A5]at this;omega
 have K:=hW.cut.bK C;refine cF rfl (aG (K.a.hd.rP rfl (aG (K.yV ?_))));refine nw (cs:=[.func (.func 192) #[.pointer (some ⟨Y.tr,0,none⟩)] #[],.func (.func 193) #[.pointer (some ⟨Y.hs,0,none⟩)] #[]]) λv2 hz2 Q hb2=>?_;have ag:=K.bK Q;have esz1:=C.1;have es:∀{a b:Hp},Ext (Cut (Cut H σ) v) a b->Ext (gJ F H) a b:=λe=>e.sub λb d=>.inr d.1.1;have ea:∀{a b:Hp},Ext (Cut (Grow F σ) v) a b->Ext (gJ (Grow F σ) H) a b:=λe=>e.sub λb d=>.inl d.1;have es':∀{a b:Hp},Ext (Cut (Cut H σ) v) a b->Ext (gJ (Grow F σ) H) a b:=λe=>e.sub λb d=>.inr d.1.1;have nF:∀b,v.size<=b->¬Cut (Grow F σ) v b:=λb d hc=>by have:=hc.2;omega
 have nH:∀b,v.size<=b->¬Cut (Cut H σ) v b:=λb d hc=>by have:=hc.2;omega
 have hs2:cP s 2 (rV P) v2 (λb=>v.size<=b):=aH.bK E.fP Q;refine Kh (a:=bN) (bb:=bN) (λ(Z:Int) (t:Int) w=>∃i:Nat,t=(i:Int)/\i<=P.length/\Z=(((P.take i).map (·.2)).sum:Nat)/\((P.take i).map (·.2)).sum<=1024*i/\Ext (gJ (Grow F σ) H) v w/\W2 w (Cut (Grow F σ) v) (Cut (Cut H σ) v) Y ((P.take i).foldl fD (YO A,sp)).1 T ((P.take i).foldl fD (YO A,sp)).2/\cP s 2 (rV P) w (λb=>v.size<=b)/\bW w v1.size [.func (.func 192) #[.pointer (some ⟨Y.tr,0,none⟩)] #[],.func (.func 193) #[.pointer (some ⟨Y.hs,0,none⟩)] #[]]) (λ_ t _=>P.length-t.toNat)
  ⟨0,rfl,O,rfl,by simp,(bO.to C).lX Q,ag,hs2,hb2⟩ ?_
 rintro Z t w ⟨i,rfl,hi,rfl,hsum,ew,M,V,ae⟩;refine cH (λS=>?_) λhge=>?_
 ·have ab:i<P.length:=by omega
  have hx:P[i]?=some P[i]:=cL ab;have X:P.take (i+1)=P.take i++[P[i]]:=by rw[zf,hx];rfl
  have hbr:=d.2 _ (zd ab);generalize P[i]=r at *;refine E2 V hx ?_;refine nw (cs:=[.int .i64 0,.int .i64 0]) λv4 hz4 e4 hb4=>hb4.s1 aA λv5 o5 b5=>b5.s1 aA λv6 o6 b6=>?_;have D:bO w v6:=Ext.fresh (Ext.fresh e4 o5.ext λi hi=>O) o6.ext λi hi=>by omega
  have ad:bW v6 w.size [.int .i64 (r.1:Int),.int .i64 (r.2:Int)]:=b6;have hW6:=M.bK D;have ac:=D.cA ae id;have aa:=aH.bK V D;have U:v.size<=w.size:=ew.1;have G:v.size<=v1.size:=C.1;refine ZP (a:=bN) (λ(t:Int) z=>∃j:Nat,t=(j:Int)/\j<=2/\Ext (gJ (Grow F σ) H) v z/\W2 z (Cut (Grow F σ) v) (Cut (Cut H σ) v) Y (if j=0 then((P.take i).foldl fD (YO A,sp)).1 else(fD ((P.take i).foldl fD (YO A,sp)) r).1) T (if j<=1 then((P.take i).foldl fD (YO A,sp)).2 else(fD ((P.take i).foldl fD (YO A,sp)) r).2)/\cP s 2 (rV P) z (λb=>v.size<=b)/\bW z v1.size [.func (.func 192) #[.pointer (some ⟨Y.tr,0,none⟩)] #[],.func (.func 193) #[.pointer (some ⟨Y.hs,0,none⟩)] #[]]/\bW z w.size [.int .i64 (r.1:Int),.int .i64 (r.2:Int)]) (λt _=>2-t.toNat)
   ⟨0,rfl,O,ew.lX D,hW6,aa,ac,ad⟩ ?_
  rintro t z ⟨j,rfl,hj,ez,u,N,x,L⟩;refine cH (λhlt2=>?_) λhge2=>?_
  ·have hj2:j=0\/j=1:=by omega
   rcases hj2 with rfl|rfl
   ·refine ix O O ?_;refine⟨⟨192,#[.pointer (some ⟨Y.tr,0,none⟩)],#[]⟩,by rw[add_lit,x.cell];rfl,L.rI rfl (L.rI rfl ?_)⟩;refine Gf (all := #[.pointer (some ⟨Y.tr,0,none⟩),.int .i64 (r.1:Int),.int .i64 (r.2:Int)]) (by kernel_rfl) aA ?_;rw[zB rfl,zB O]at u;show W9.c (aW Y.tr) (r.1:Int) (r.2:Int) z _;refine u.a.Rel _ _ λz2 t2 B hA5=>?_;refine bZ (m:=1) O O ⟨⟨1,rfl,O,ez.trans (ea B),?_,aH.bU N B λb _ d=>nF b d,B.cA x (nF _ G),B.cA L (nF _ U)⟩,O⟩;rw[zA O,zB O];exact u.j7 B hA5
   ·refine ix O O ?_;refine⟨⟨193,#[.pointer (some ⟨Y.hs,0,none⟩)],#[]⟩,by rw[add_lit,x.cell];rfl,L.rI rfl (L.rI rfl ?_)⟩;refine Gf (all := #[.pointer (some ⟨Y.hs,0,none⟩),.int .i64 (r.1:Int),.int .i64 (r.2:Int)]) (by kernel_rfl) aA ?_;rw[zA O,zB O]at u;show XK.c (aW Y.hs) (r.1:Int) (r.2:Int) z _;refine RJ u.s u.g u.o2 _ _ λz2 B hS5=>?_;refine bZ (m:=2) O O ⟨⟨2,rfl,O,ez.trans (es' B),?_,aH.bU N B λb _ d=>nH b d,B.cA x (nH _ G),B.cA L (nH _ U)⟩,O⟩;rw[zA O,zA O];exact u.space B hS5
  ·have af:j=2:=by omega
   subst af;rw[zA O,zA O]at u;have y:((P.take (i+1)).map (·.2)).sum=((P.take i).map (·.2)).sum+r.2:=by rw[X];simp
   refine L.rI rfl (bZ (m:=((P.take i).map (·.2)).sum+r.2) O O (bZ (m:=i+1) O O ⟨⟨i+1,rfl,O,by rw[y],by rw[y];omega,ez,?_,N,x⟩,O⟩));rw[X,m6];exact u
 ·have:i=P.length:=by omega
  subst this;rw[zm]at M ⊢;refine hR w (Cut (Grow F σ) v) (Cut (Cut H σ) v) ⟨λb d=>d.1,λb d=>d.1.1⟩ ((e.sub λb d=>.inl d).fE ew λb d=>?_) M;rcases d with(d|d)|d
  ·exact .inl (.inl d)
  ·exact .inr d
  ·exact .inl (.inr d)
theorem LV {s:Sl}{l:List Nat}(h:cP s 1 (eY l) σ F){k q:Nat}(hq:l[k]?=some q){K:Option Addr->Prop}(hK:K (some ⟨q,0,none⟩)):Ix s.a s.len (k:Int) 1 λa=>gT (λm=>bO σ m) .p a K:=by
 have r:=(cS.1 hq).1;obtain⟨b,o,g,d⟩:=h.cell (j:=k) (v:=.pointer (some ⟨q,0,none⟩)) (by simp[eY,hq]);have i:=h.1;simp[eY]at i;rw[g];refine ix O O ⟨_,λm e=>?_,hK⟩;rw[add_lit,show o+(k:Int).toNat*1=o+k by omega,QV e (Q2 d) id];exact d
theorem cX.xY (h:cX σ F Y A T){k q:Nat}(hq:Y.fJ[k]?=some q){K:Option Addr->Prop}(hK:K (some ⟨q,0,none⟩)):Ix Y.dH.a Y.dH.len (k:Int) 1 λa=>gT (λm=>bO σ m) .p a K:=by
 obtain⟨G,d,b⟩:=h.sep.get .dH;exact LV (bR.fP b) hq hK
theorem cX.ya (h:cX σ F Y A T){k q:Nat}(hq:Y.gC[k]?=some q){K:Option Addr->Prop}(hK:K (some ⟨q,0,none⟩)):Ix Y.cM.a Y.cM.len (k:Int) 1 λa=>gT (λm=>bO σ m) .p a K:=by
 obtain⟨G,d,b⟩:=h.sep.get .cM;exact LV (bR.fP b) hq hK
theorem cX.uC (h:cX σ F Y A T){i:Nat}{c:CK}{x:c.T}(hx:(lq Y)[i]?=some (c.v x)){K:c.T->Prop}(hK:K x):gT (λm=>bO σ m) c (Addr.add ⟨Y.p,0,none⟩ i) K:=by
 refine⟨x,λm a=>?_,hK⟩;rw[add_lit,(Ext.cA a h.hd id).cell,zG];exact hx
theorem cX.cE (h:cX σ F Y A (cG A Y)){k q:Nat}{c:bX}{t:fU}(h1:Y.gC[k]?=some q)(h2:A.tb[k]?=some c)(h3:A.cE[k]?=some t):∃G:Rg,(∀b,G b->F b)/\iA σ G q c.batch A.room t:=by
 obtain⟨G,d,a,_⟩:=h.uN h1 h2 h3;exact⟨G,d,a⟩
theorem MI {c:bX}{s:Sl}{tb:List bX}(h:cP s 3 (gp tb) σ F){k ty:Nat}(hc:tb[k]?=some c){K:Addr->Hp->Prop}(hK:∀v,bO σ v->bW v σ.size [.int .i64 (c.size:Int),.int .i64 (c.aF:Int),.int .i64 (c.batch:Int)]->K ⟨σ.size,0,none⟩ v) :
 Ix s.a s.len (k:Int) 3 λa31=>eW .i64 (a31.add 0) σ λt32=>eW .i64 (a31.add 1) σ λt321=>eW .i64 (a31.add 2) σ λt322=>
  Nw (.cells #[.int .i64 0,.int .i64 0,.int .i64 0] ty (0,0)) σ λn14 v2=>dG (n14.add 0) (.int .i64 t32) v2 λv3=>dG (n14.add 1) (.int .i64 t321) v3 λv4=>dG (n14.add 2) (.int .i64 t322) v4 λv5=>K n14 v5:=by
 have g:=HG hc;have E:=(cS.1 hc).1;obtain⟨b,o,j,r⟩:=h.cell g.1;obtain⟨D,o1,e,y⟩:=h.cell g.2.1;obtain⟨p,o2,d,w⟩:=h.cell g.2.2;rw[j]at e d;cases e;cases d;have C:=h.1;rw[KG]at C;rw[j];refine ix O O ?_;rw[add_lit,show o+(k:Int).toNat*3=o+3*k by omega];refine dJ (by simpa using r) (dJ (by rw[qv];exact y) (dJ (by rw[qv];exact w) ?_));refine nw (cs:=[.int .i64 0,.int .i64 0,.int .i64 0]) λv2 u z p=>p.s1 aA λv3 o3 B=>B.s1 aA λv4 o4 x=>x.s1 aA λv5 o5 A=>?_;exact hK v5 (Ext.fresh (Ext.fresh (Ext.fresh z o3.ext λi m=>O) o4.ext λi m=>O) o5.ext λi m=>O) A
def part {α:Type}(f:bX->α->Nat)(tb:List bX)(l:List α)(i:Nat):Nat:=(((tb.zip l).take i).map λx=>f x.1 x.2).sum
theorem HN {α:Type}{f:bX->α->Nat}{tb:List bX}{l:List α}{i:Nat}{c:bX}{x:α}(hc:tb[i]?=some c)(hx:l[i]?=some x):part f tb l (i+1)=part f tb l i+f c x:=by
 unfold part;have:(tb.zip l)[i]?=some (c,x):=by rw[List.getElem?_zip_eq_some];exact⟨hc,hx⟩
 rw[zf,this];simp
theorem Ai {α:Type}{f:bX->α->Nat}{tb:List bX}{l:List α}(h:l.length=tb.length):part f tb l tb.length=((tb.zip l).map λx=>f x.1 x.2).sum:=by
 unfold part;rw[mc (by rw[List.length_zip];omega)]
theorem Ep:∀{l:List (Int×Int)} {n x:Int},(l.map (·.1)).Nodup->(n,x)∈l->(l.map (·.2)).sum=x+((l.filter λy=>!(y.1==n)).map (·.2)).sum
 | [],_,_,_,h=>by simp at h
 | y::l,n,x,hn,h=>by
  simp only[zK,zo]at hn;rcases zT.1 h with h1|h1
  ·subst h1;have:l.filter (λy=>!(y.1==n))=l:=by
    rw[ov];intro z hz;have:z.1≠n:=λe=>hn.1 (zD.2 ⟨z,hz,e⟩);simpa using this
   rw[tx aA,this];simp
  ·have a:y.1≠n:=λe=>hn.1 (zD.2 ⟨_,h1,e.symm⟩);rw[uz (by simpa using a)];simp only[zK,zu];rw[Ep hn.2 h1];omega
theorem Ta (l:List (Nat×Nat)):((iB l).map (·.2)).sum=(((l.map (·.2)).sum:Nat):Int):=by
 induction l with
 | nil=>rfl
 | cons x l ih=>
  have:iB (x::l)=((x.1:Int),(x.2:Int))::iB l:=rfl;rw[this];simp only[zK,zu];rw[ih];omega
theorem NW (h:cX σ F Y A (cG A Y))(hr:Uq A<=1000000){R:Int->Int->Int->Int->Int->Int->Hp->Prop}
 (hR:∀σ',bO σ σ'->Ul A<=40000000000/\p9 A<=40000000000/\UA A<=40000000000/\Up A<=40000000000->R (Ul A:Nat) (p9 A:Nat) (UA A:Nat) (Up A:Nat) (Uq A:Nat) (iX A.n A.S:Nat) σ'):X4.c (aW Y.p) σ R:=by
 refine X4.o ?_;have htl:=h.oY;have ht2:=h.lay.oS;refine Vd h (cF rfl (aG (h.hd.rS rfl ?_)));refine Fm (a:=bN) (bb:=bN) (c:=bN) (d:=bN) (e:=bN) (λ(C room H j t:Int) v=>∃i:Nat,t=(i:Int)/\i<=A.tb.length/\bO σ v/\C=(part (λc (t:fU)=>t.bs.flatten.length*c.size) A.tb A.cE i:Nat)/\room=(part (λc b=>KA b*c.size) A.tb A.cC i:Nat)/\H=(part (λc (b:List cI)=>b.length*c.tail) A.tb A.cC i:Nat)/\j=(part (λc (b:List cI)=>b.length*c.aF) A.tb A.cC i:Nat) ∧
  part (λc (t:fU)=>t.bs.flatten.length*c.size) A.tb A.cE i<=i*1000000000/\part (λc b=>KA b*c.size) A.tb A.cC i<=i*1000000000/\part (λc (b:List cI)=>b.length*c.tail) A.tb A.cC i<=i*1000000000/\part (λc (b:List cI)=>b.length*c.aF) A.tb A.cC i<=i*1000000000) (λ_ _ _ _ t _=>A.tb.length-t.toNat)
  ⟨0,rfl,O,Ext.refl _ _,by simp[part],by simp[part],by simp[part],by simp[part],by simp[part],by simp[part],by simp[part],by simp[part]⟩ ?_
 rintro C room H j t v ⟨i,rfl,hi,e,rfl,rfl,rfl,rfl,b1,b2,b3,b4⟩;have hv:=h.bK e;refine cH (λae=>?_) λhge=>?_
 ·have hi':i<A.tb.length:=by simp only at ae;omega
  obtain⟨c,b,q,t,r,K,E,hq,ht,hrr,ac⟩:=h.at_ hi';obtain⟨G,hG,htab⟩:=hv.sep.get .dF;refine MI htab K λv5 e5 b5=>?_;have h5:=hv.bK e5;refine b5.rI rfl (b5.rI rfl (b5.rI rfl (F6 ac λv6 e6=>?_)));have h6:=h5.bK e6;have b6:=e6.cA b5 id;obtain⟨G1,ps,_,hC⟩:=h6.cC hq K E;refine aG (h6.hd.rS rfl (h6.kq hq (MT hC λs v7 e7 ad=>?_)));have h7:=h6.bK e7;have b7:=e7.cA b6 id;have ab:s.len=b.length:=by have:=ad.1;rw[Ev,za]at this;omega
  refine⟨λm=>bO v7 m,Ext.refl _ _,aG (h7.uC (c:=.s) (x:=Y.cM) rfl (h7.ya hrr ⟨(c.size:Int),λm V=>by rw[add_lit,(Ext.cA V b7 id).cell];rfl,?_⟩))⟩;obtain⟨G2,_,aa⟩:=h7.cE hrr K ht;refine Ι aa λs2 v8 e8 hl8 hrow8=>⟨e8,?_⟩;have h8:=h7.bK e8;have b8:=e8.cA b7 id;have M:=aa.flat;have P:=hC.room;have L:=hC.lA;obtain⟨hz1,D,_,hp1,jZ,_⟩:=ac;have hm1:t.bs.flatten.length*c.size<=1000000000:=zI (kU M D) O;have hm2:KA b*c.size<=1000000000:=zI (kU P D) O;have U:c.tail<=1024:=by unfold bX.tail;omega
  have hm3:b.length*c.tail<=1000000000:=zI (kU L U) O;have hm4:b.length*c.aF<=1000000000:=zI (kU L jZ) O;have s1:=HN (f:=λc (t:fU)=>t.bs.flatten.length*c.size) K ht;have N:=HN (f:=λc b=>KA b*c.size) K E;have s3:=HN (f:=λc (b:List cI)=>b.length*c.tail) K E;have s4:=HN (f:=λc (b:List cI)=>b.length*c.aF) K E;refine bZ (m:=t.bs.flatten.length*c.size) (by rw[hl8];simp) O (bZ (m:=part (λc (t:fU)=>t.bs.flatten.length*c.size) A.tb A.cE (i+1)) (by rw[s1];simp) (by rw[s1];omega) ?_);refine⟨λm=>bO v8 m,Ext.refl _ _,aG (h8.uC (c:=.s) (x:=Y.dH) rfl (h8.xY hq ⟨(c.size:Int),λm V=>by rw[add_lit,(Ext.cA V b8 id).cell];rfl,?_⟩))⟩;obtain⟨G3,ps3,_,hC8⟩:=h8.cC hq K E;refine Nf hC8 λv9 e9=>⟨e9,?_⟩;have b9:=e9.cA b8 id;refine bZ (m:=KA b*c.size) aA O (bZ (m:=part (λc b=>KA b*c.size) A.tb A.cC (i+1)) (by rw[N];simp) (by rw[N];omega) ?_);refine bZ (m:=b.length*c.tail) (by rw[ab];simp) O (bZ (m:=part (λc (b:List cI)=>b.length*c.tail) A.tb A.cC (i+1)) (by rw[s3];simp) (by rw[s3];omega) ?_);refine b9.rI rfl (bZ (m:=b.length*c.aF) (by rw[ab];simp) O (bZ (m:=part (λc (b:List cI)=>b.length*c.aF) A.tb A.cC (i+1)) (by rw[s4];simp) (by rw[s4];omega) ?_));refine bZ (m:=i+1) O O ⟨⟨i+1,rfl,O,((((Ext.trans e e5).trans e6).trans e7).trans e8).trans e9,rfl,rfl,rfl,rfl,by rw[s1];omega,by rw[N];omega,by rw[s3];omega,by rw[s4];omega⟩,O⟩
 ·have:i=A.tb.length:=by simp only at hge;omega
  subst this;obtain⟨_,V,_⟩:=hv.pU;have af:=Ta A.runs;refine aG (hv.hd.rM rfl (uE (c:=bN) (a:=bN) (x0:=(0:Int)) V (λg (z:Int) w=>bO v w/\(g.map (·.1)).Nodup/\(∀y∈g,0<=(y.2:Int))/\0<=z/\z+(g.map (·.2)).sum=((Uq A:Nat):Int)) (λw hz W=>⟨W,V.nodup,λy X=>?_,O,?_⟩) (λz w hI=>?_) ?_))
  ·obtain⟨r,_,rfl⟩:=zD.1 X;show(0:Int)<=(r.2:Int);omega
  ·rw[Int.zero_add];exact af
  ·obtain⟨W,_,_,_,hz⟩:=hI;have hz':z=((Uq A:Nat):Int):=by simpa using hz
   subst hz';have hw:=hv.bK W;obtain⟨sb,ms,hB,_⟩:=hw.free;refine aG (hw.hd.rP rfl (Go.Bu.rX hB ?_));rw[Ai h.lay.cE]at b1 ⊢;rw[Ai h.lay.cC]at b2 b3 b4 ⊢;rw[Ai h.lay.cC,Ai h.lay.cC];have hcM:Ul A<=A.tb.length*1000000000:=b1;have hcR:p9 A<=A.tb.length*1000000000:=b2;have hcT:UA A<=A.tb.length*1000000000:=b3;have hcS:Up A<=A.tb.length*1000000000:=b4;exact hR w (Ext.trans e W) ⟨O,O,O,O⟩
  ·rintro g n (x:Int) (z:Int) w w' J ⟨W,hn,B,hz0,hz⟩ hx ho ae hJ;have hd:=Ep hn hx;have hxp:0<=x:=B _ hx;have Q:0<=((g.filter λy=>!(y.1==n)).map (·.2)).sum:=by
    have:∀l:List (Int×Int),(∀y∈l,0<=y.2)->0<=(l.map (·.2)).sum:=by
     intro l
     induction l with
     | nil=>intro _;simp
     | cons y l ih=>
      intro hl;have:=ih λu hu=>hl u (lz _ hu);have:=hl y lB;simp only[zK,zu];omega
    exact this _ λy X=>B y (zH.1 X).1
   have D:z+x+((g.filter λy=>!(y.1==n)).map (·.2)).sum=((Uq A:Nat):Int):=by
    exact(Int.add_assoc z x _).trans ((congrArg (λ(u:Int)=>z+u) hd.symm).trans hz)
   have Z:(0:Int)<=x:=hxp;have hup:z+x<=((Uq A:Nat):Int):=Int.le_trans (Int.le_add_of_nonneg_right Q) (Int.le_of_eq D);have hlo:(0:Int)<=z+x:=Int.add_nonneg hz0 Z;refine ar ?_ ?_ (hJ (z+x) w' rfl rfl ⟨Ext.fresh W ho.ext λi hi=>O,?_,λy X=>B y (zH.1 X).1,?_,D⟩)
   ·show -9223372036854775808<=(z:Int)+(x:Int);omega
   ·show(z:Int)+(x:Int)<=9223372036854775807;omega
   ·exact List.Nodup.sublist (List.filter_sublist.map _) hn
   ·exact Int.add_nonneg hz0 Z
end Go.Ar