/- Texts joined. -/
import Derived.Test.YtkabjcanamcbeaaGreatDoorP3
set_option linter.unusedVariables false
set_option linter.unusedSimpArgs false
namespace Go.Ar
open Go Go.Vc Go.Proofs
open Go.Bu (Zf)
variable {σ:Hp}{F:Rg}{p q r:Nat}{sp:Sp}{l:List (Int×Sl)}{B:Nat->Nat}
theorem Wh3 (h:SpH3 σ F p sp)(g:Gl σ)(x:Int)(hx:x<=9223372036854775807){R:aN}(hR:∀σ',Ext0 σ σ'->R (accE sp x) σ') :
 X8.c (aW p) x 1 σ R:=by
 refine X8.o ?_;unfold X8.v;have G:=h;obtain⟨q,r,l,B,h⟩:=h;have n2:=h.n2;have d:(x<0\/x%8≠0)->R 7 σ:=λj=>by
  have:=hR σ (Ext.refl _ _);unfold accE at this;rw[zB j]at this;exact this
 refine Hz G (ifF rfl (ifF rfl (JnB.intro (ifD (λA=>ifT rfl (d (.inl A))) λA=>nz aB ?_))));obtain⟨y,rfl⟩:=zk (show 0<=x by omega);refine iff_ (λi=>?_) λi=>?_
 ·refine d (.inr ?_);rw[Q7 O]at i;simpa using i
 have K:y%8=0:=by
  rw[Q7 O]at i;have:((y:Int)%8)=0:=by simpa using i
  omega
 have ok:¬((y:Int)<0\/(y:Int)%8≠0):=by omega
 refine nz aB (arN (m:=y/256) (by rw[YM O];simp) O (nz aB (arN (m:=y/8) (by rw[YM O];simp) O ?_)));refine arN (m:=y/8+1) O O (arN (m:=y/8) O O (nz aB (arN (m:=y/256) (by rw[YM O];simp;omega) O ?_)));have fin:∀(b:Bool) σ',Ext0 σ σ'->(b=true↔sp.st.getD (y/256) 0=0)->If b (R 7 σ') (R 0 σ'):=λb σ' e j=>by
  have:=hR σ' e;unfold accE at this;rw[zA ok]at this;refine iff_ (λh=>?_) λh=>?_
  ·rw[zB (by simpa using j.1 h)]at this;exact this
  ·rw[zA (λE=>by rw[j.2 (by simpa using E)]at h;cases h)]at this;exact this
 obtain⟨c,J,hd⟩:=h.hd;refine Jn.intro ⟨λm=>Blk m p [.slice (some ⟨q,0,none⟩) sp.st.length c,.map (some r),.int .i64 (sp.pk:Int)]/\Gl m,⟨hd,g⟩,?_⟩;refine nilP ⟨⟨some ⟨q,0,none⟩,sp.st.length,c⟩,λm a=>by rw[add_lit,a.1.cell];rfl,?_⟩;refine ifD (λw=>?_) λw=>?_
 ·simp only at w;refine fin _ σ (Ext.refl _ _) ⟨λ_=>?_,λ_=>rfl⟩;rw[zM,zY O];rfl
 simp only at w;refine nilP ⟨⟨some ⟨q,0,none⟩,sp.st.length,c⟩,λm a=>by rw[add_lit,a.1.cell];rfl,?_⟩;refine arN (m:=y/256+1) O O (slc O aC (zD _) ?_);simp only;rw[zA O];refine⟨false,λm a=>a.2.u0,⟨false,λm a=>a.2.u1,?_⟩⟩;have e:(Option.map (λ(u:Addr)=>u.add (y/256*2)) (some (⟨q,0,none⟩:Addr)))=some ⟨q,2*(y/256),none⟩:=by
  simp only[zg,add_lit];congr 2;omega
 rw[e,zGK];have D:=h.part (x:=y/256) (y:=1) (c:=c-y/256) O;refine GI (v:=0) D (by rw[zO,zq];omega) (λz H=>h.le2 z (zCL (zAY H))) O λσ' s=>?_;refine⟨⟨s.blk hd id,g.keep0 s⟩,fin _ σ' s ?_⟩;have C:y/256<sp.st.length:=by omega
 rw[zM,gGe C,zCE C,zCZ,zFS];simp[eq_comm]
theorem SpH2.dirt (h:SpH2 σ F p q r l B sp){k:Nat}(hk:k<sp.st.length)(hn:sp.st[k]?≠some 2){σ':Hp}{b:Nat}{s:Sl}{T:Rg}(e:Ext T σ σ')(hT:∀i,i<σ.size->T i->i=q\/i=r)(hz:σ.size<=b){rest:List Value}
 (hb:Blk σ' q (pgV (sp.st.set k 2)++rest)) (hm:MapL σ' r .i64 .s (mset l (k:Int) s)) (ha:s.a=some ⟨b,0,none⟩) (hl:s.len=32) (hc:s.cap=32) (hw:Blk σ' b (List.replicate 32 (.int .i64 0))) :
 SpH2 σ' (Grow F σ) p q r (mset l (k:Int) s) (λj=>if j=k then b else B j) {sp with st:=sp.st.set k 2}:=by
 have u:∀j:Nat,(sp.st.set k 2)[j]?=some 2↔j=k\/sp.st[j]?=some 2:=λj=>by
  rw[zBH];by_cases hjk:k=j
  ·subst hjk;rw[zB rfl,zB hk];simp
  ·rw[zA hjk];exact⟨λh=>.inr h,λh=>h.resolve_left λe=>hjk e.symm⟩
 obtain⟨c,J,hd⟩:=h.hd;obtain⟨_,z⟩:=h.row;have S:=hd.lt;have V:=z.lt;have U:=h.map.lt;have W:=e.1;have g:=h.fs;have C:∀{j:Nat},sp.st[j]?=some 2->B j<σ.size:=λ{j} d=>by
  obtain⟨t,_,_,_,_,cs,H,_⟩:=h.entry d;exact H.lt
 have keepB:∀{i:Nat} {cs:List Value},Blk σ i cs->i≠q->i≠r->Blk σ' i cs:=λ{i cs} D E y=>e.blk D λN=>by
  rcases hT i D.lt N with h|h
  ·exact E h
  ·exact y h
 refine⟨⟨c,by simpa using J,by simpa using keepB hd g.2.2.2.1 g.2.2.2.2.1⟩,⟨rest,hb⟩,hm,λx=>?_,λj t d=>?_,λj A E y m=>?_,λj d=>?_,⟨.inl g.1,.inl g.2.1,.inl g.2.2.1,g.2.2.2⟩,λw G=>?_,by simpa using h.n1,by simpa using h.n2,Wii h.le2 O,h.pk⟩
 ·rw[Waq];by_cases hx:x=(k:Int)
  ·rw[zB hx];subst hx;simp only[Option.isSome_some,true_iff];exact⟨k,rfl,(u k).2 (.inl rfl)⟩
  ·rw[zA hx,h.keys];constructor
   ·rintro⟨j,rfl,d⟩;exact⟨j,rfl,(u j).2 (.inr d)⟩
   ·rintro⟨j,rfl,d⟩;exact⟨j,rfl,((u j).1 d).resolve_left O⟩
 ·rw[Waq]at d;by_cases hx:(j:Int)=(k:Int)
  ·have:j=k:=by omega
   subst this;rw[zB rfl]at d;cases d;rw[zB rfl];refine⟨ha,hl,O,_,hw,by simp,λi D=>?_⟩;rw[zAU,zB D];simp only;rw[h.zero _ (by rw[show(32*j+i)/32=j by omega];exact hn)]
  ·rw[zA hx]at d;obtain⟨R,M,P,cs,H,Q,L⟩:=h.wd j t d;have K:=h.out j (h.dirty d);rw[zA O];exact⟨R,M,P,cs,keepB H K.2.2.1 K.2.2.2,Q,L⟩
 ·by_cases e1:j=k
  ·by_cases e2:A=k
   ·omega
   ·rw[zB e1,zA e2]at m;have:=C (((u A).1 y).resolve_left e2);omega
  ·rw[zA e1]at m;by_cases e2:A=k
   ·rw[zB e2]at m;have:=C (((u j).1 E).resolve_left e1);omega
   ·rw[zA e2]at m;exact h.inj j A (((u j).1 E).resolve_left e1) (((u A).1 y).resolve_left e2) m
 ·by_cases e1:j=k
  ·rw[zB e1];exact⟨.inr hz,O,O,O⟩
  ·rw[zA e1];have:=h.out j (((u j).1 d).resolve_left e1);exact⟨.inl this.1,this.2⟩
 ·refine h.zero w λy=>G ((u _).2 (.inr y))
theorem SpH2.peak (h:SpH2 σ F p q r l B sp){σ':Hp}{n c:Nat}(hn:n<=1024)(ho:QD σ σ' p)(hc:sp.st.length<=c)(hb:Blk σ' p [.slice (some ⟨q,0,none⟩) sp.st.length c,.map (some r),.int .i64 (n:Int)]):SpH2 σ' F p q r l B {sp with pk:=n}:=by
 have b:=h.fs;obtain⟨rest,a⟩:=h.row;refine⟨⟨c,hc,hb⟩,⟨rest,Ws ho a O⟩,Hh ho h.map O,h.keys,λj t d=>?_,h.inj,h.out,b,h.zero,h.n1,h.n2,h.le2,hn⟩;obtain⟨w,s,g,e,m,u,i⟩:=h.wd j t d;exact⟨w,s,g,e,Ws ho m (h.out j (h.dirty d)).2.1,u,i⟩
theorem SpH2.word (h:SpH2 σ F p q r l B sp){w:Nat}{v:Int}(hk:sp.st[w/32]?=some 2){σ':Hp}{cs:List Value}(h32:32<=cs.length)(ho:QD σ σ' (B (w/32)))(hcs:∀j,j<32->cs[j]?=some (.int .i64 (sp.wd (32*(w/32)+j))))
 (hb:Blk σ' (B (w/32)) (cs.set (w%32) (.int .i64 v))):SpH2 σ' F p q r l B {sp with wd:=λu=>if u=w then v else sp.wd u}:=by
 have y:=h.out _ hk;obtain⟨c,E,hd⟩:=h.hd;obtain⟨rest,a⟩:=h.row;refine⟨⟨c,E,Ws ho hd O⟩,⟨rest,Ws ho a O⟩,Hh ho h.map O,h.keys,λj t A=>?_,h.inj,h.out,h.fs,λu m=>?_,h.n1,h.n2,h.le2,h.pk⟩
 ·obtain⟨z,x,s,b,C,G,D⟩:=h.wd j t A;by_cases hjk:j=w/32
  ·subst hjk;refine⟨z,x,s,_,hb,by simpa using h32,λi d=>?_⟩;rw[zBH];by_cases hiw:w%32=i
   ·rw[zB hiw,zB O];simp only;rw[zB O]
   ·rw[zA hiw];simp only;rw[zA O];exact hcs i d
  ·have g:B j≠B (w/32):=λe=>hjk (h.inj _ _ (h.dirty A) hk e);refine⟨z,x,s,b,Ws ho C g,G,λi d=>?_⟩;rw[D i d];simp only;rw[zA O]
 ·have:u≠w:=λe=>by subst e;exact m hk
  simp only;rw[zA this];exact h.zero u m
theorem Wmk (h:SpH3 σ F p sp)(g:Gc σ){w:Nat}(hw:w/32<sp.st.length)(v:Int){R:aP}(hR:∀σ',Ext F σ σ'->SpH3 σ' (Grow F σ) p (putW sp w v)->R σ') :
 Zj.c (aW p) (w:Int) v σ R:=by
 refine Zj.o ?_;unfold Zj.v;obtain⟨q,r,l,B,h⟩:=h;have Z:=h.n2;have x:sp.st[w/32]?=some sp.st[w/32]:=gGe hw;have tm:((w:Int).tmod 32)=((w%32:Nat):Int):=by rw[Q7 O];simp
 have word:∀(u:Hp) (s':Sp) (l':List (Int×Sl)) (B':Nat->Nat),Ext F σ u->SpH2 u (Grow F σ) p q r l' B' s'->s'.st[w/32]?=some 2->({s' with wd:=λz=>if z=w then v else s'.wd z}:Sp)=putW sp w v →
  NilP (some ⟨p,0,none⟩) λY=>LdM (Y.add 1) u λP=>Lk .i64 .s P ((w/32:Nat):Int) u λC=>Nz 32<|Ix (C.getD ⟨none,0,0⟩).a (C.getD ⟨none,0,0⟩).len ((w:Int).tmod 32) 1 λX=>St1 X (.int .i64 v) u λv1=>R v1:=by
  intro u s' l' B' eu hu A he;refine nilP (hu.rM ⟨l',hu.map,nz aB ?_⟩);obtain⟨s,hs,w1,w2,w3,cs,w4,w5,w6⟩:=hu.entry A;rw[hs,tm];simp only[zBU];rw[w1];refine ix O O ?_;rw[add_lit,show 0+((w%32:Nat):Int).toNat*1=w%32 by omega];refine w4.s0 O λu2 o2 M=>?_;have h2:=hu.word (v:=v) A w5 o2 w6 M;rw[he]at h2;exact hR u2 (eu.newT o2.ext λb d=>by subst d;exact(hu.out _ A).1) ⟨_,_,_,_,h2⟩
 refine nz aB (arN (m:=w/32) (by rw[YM O];simp) O (Jn.intro (nilP (h.rS λcap J=>ix O aC ?_))));rw[add_lit,show 0+((w/32:Nat):Int).toNat*2=2*(w/32) by omega];refine h.rPg x (ldB (n:=true) g.d0 (ldB (n:=true) g.d1 ?_));have e0:(((pgC sp.st[w/32]).1==true)&&(((pgC sp.st[w/32]).2==true)&&true))=(sp.st[w/32]==2):=WiY (h.le2 _ (zc hw)) (y:=2) O;rw[e0];refine iff_ (λhd=>?_) λhd=>?_
 ·have E:sp.st[w/32]≠2:=by simpa using hd
  refine nilP (h.rS λcap J=>ldB (n:=true) g.d0 (ldB (n:=true) g.d1 (ix O aC ?_)));rw[add_lit,show 0+((w/32:Nat):Int).toNat*2=2*(w/32) by omega];obtain⟨rest,D⟩:=h.row;refine D.s1 (by rw[zK,Vn];omega) λu1 o1 b1=>b1.s1 (by rw[zBR,zK,Vn];omega) λu2 o2 M=>?_;rw[zp]at M;have U:Blk u2 q (pgV (sp.st.set (w/32) 2)++rest):=by rw[←Wje hw];exact M
  have V:Ext (· = q) σ u2:=o1.ext.trans o2.ext;obtain⟨c,hc,G⟩:=h.hd;have H:=V.blk G h.fs.2.2.2.1;refine⟨λm=>Blk m p [.slice (some ⟨q,0,none⟩) sp.st.length c,.map (some r),.int .i64 (sp.pk:Int)],H,nilP ⟨some r,λm hm=>by rw[add_lit,hm.cell];rfl,?_⟩⟩;refine mk (n:=32) O O λu3 hz3 L b3=>⟨Ext.blk L H id,?_⟩;have S:Blk u3 u2.size (List.replicate 32 (.int .i64 0)):=b3;have q3:=Ext.blk L U id;have W:=V.mapL h.map (λe=>h.fs.2.2.2.2.2 e.symm);refine⟨r,l,rfl,Ext.mapL L W id,λu4 o4 aa=>?_⟩;have sz2:u2.size=σ.size:=by rw[o2.1,o1.1]
  have hrlt:=h.map.lt;have hplt:=G.lt;have e4:Ext (λb=>b=q\/b=r) σ u4:=((V.sub λb d=>.inl d).trans (Ext0.to L)).trans (o4.ext.sub λb d=>.inr d);have K:=h.dirt hw (by rw[x];simpa using E) (s:=⟨some ⟨u2.size,0,none⟩,32,32⟩) (b:=u2.size) e4 (λi _ N=>N) O (Ws o4 q3 h.fs.2.2.2.2.2) aa rfl rfl rfl (Ws o4 S O);obtain⟨c4,ab,j⟩:=K.hd;refine nilP (j.rI rfl (nilP (j.rM rfl ⟨_,K.map,nilP ?_⟩)));rw[K.len_l];have hcl:(sp.st.set (w/32) 2).count 2<=1024:=zI zEG (by simpa using Z);have hpk:=h.pk;have hv:(if((List.count 2 (sp.st.set (w/32) 2):Nat):Int)>(sp.pk:Int)then((List.count 2 (sp.st.set (w/32) 2):Nat):Int)else(sp.pk:Int))=((max sp.pk ((sp.st.set (w/32) 2).count 2):Nat):Int):=by
   by_cases hgt:((List.count 2 (sp.st.set (w/32) 2):Nat):Int)>(sp.pk:Int)
   ·rw[zB hgt];omega
   ·rw[zA hgt];omega
  simp only;rw[hv];refine j.s1 aA λu5 o5 b5=>?_;have h5:=K.peak O o5 ab b5;have e5:Ext F σ u5:=(e4.sub λb d=>by
   rcases d with rfl|rfl
   ·exact h.fs.2.1
   ·exact h.fs.2.2.1).trans (o5.ext.sub λb d=>by subst d;exact h.fs.1)
  refine word u5 _ _ _ e5 h5 (by simp only;rw[zBH,zB rfl,zB hw]) ?_;unfold putW;rw[zA (by rw[zM,x];exact E)]
 ·have Q:sp.st[w/32]=2:=by simpa using hd
  rw[Q]at x;have ac:SpH2 σ (Grow F σ) p q r l B sp:={h with out:=λk A=>⟨.inl (h.out k A).1,(h.out k A).2⟩,fs:=⟨.inl h.fs.1,.inl h.fs.2.1,.inl h.fs.2.2.1,h.fs.2.2.2⟩};refine word σ sp l B (Ext.refl _ _) ac x ?_;unfold putW;rw[zB (by rw[zM,x];rfl)];have:sp.st.set (w/32) 2=sp.st:=by
   apply zu;intro i;rw[zBH];by_cases N:w/32=i
   ·subst N;rw[zB rfl,zB hw,x]
   ·rw[zA N]
  rw[this]
theorem WjQ (h:SpH3 σ F p sp)(g:Gl σ)(gd:Gc σ)(x:Int)(hx:x<=9223372036854775807)(v:Int){R:aN}(hR:∀σ',Ext F σ σ'->SpH3 σ' (Grow F σ) p (US sp x v)->R (accE sp x) σ') :
 Yz.c (aW p) x v σ R:=by
 refine Yz.o ?_;unfold Yz.v;have j:SpH3 σ (Cut F σ) p sp:=Lcl.cut SpH3.loc h;refine Wh3 h g x hx λC e=>?_;have w:=j.keep0 e;have D:=g.keep0 e;refine iff_ (λr=>?_) λr=>?_
 ·have u:¬accE sp x=0:=by simpa using r
  refine hR C (Ext0.to e) ?_;unfold US;rw[zA u];exact Lcl.mono SpH3.loc w λb _ a=>.inl a.1
 ·have d:accE sp x=0:=by simpa using r
  have i:0<=x/\sp.st.getD (x.toNat/256) 0≠0:=by
   unfold accE at d;by_cases a:x<0\/x%8≠0
   ·rw[zB a]at d;cases d
   ·rw[zA a]at d;by_cases hz:sp.st.getD (x.toNat/256) 0=0
    ·rw[zB hz]at d;cases d
    ·exact⟨O,hz⟩
  obtain⟨y,rfl⟩:=zk i.1;have s:y/8/32<sp.st.length:=by
   rcases zAN (y/256) sp.st.length with h|h
   ·omega
   ·exact absurd (by rw[zM,zY (by simpa using h)];rfl) i.2
  refine nz aB (arN (m:=y/8) (by rw[YM O];simp) O (Wmk w (gd.keep0 e) s v λA z B=>?_));have:=hR A (Ext.cut ((Ext0.to e).trans z)) ?_
  ·rw[d]at this;exact this
  ·unfold US;rw[zB d];exact Lcl.mono SpH3.loc B λb _ a=>by
    rcases a with a|a
    ·exact .inl a.1
    ·exact .inr (zI e.1 a)
def Vp (n:Nat):Sp:=⟨List.replicate n 0,λ_=>0,0⟩
theorem Wm1 {σ:Hp}{F:Rg}{p q r n c:Nat}(h1:1<=n)(h2:n<=1024)(hc:n<=c)(hd:Blk σ p [.slice (some ⟨q,0,none⟩) n c,.map (some r),.int .i64 0])(hq:Blk σ q (pgV (List.replicate n 0)))(hr:MapL σ r .i64 .s [])
 (hF:F p/\F q/\F r) (hne:p≠q/\p≠r/\q≠r):SpH2 σ F p q r [] (λ_=>0) (Vp n):=by
 have b:∀k:Nat,(List.replicate n 0)[k]?≠some 2:=λk a=>by
  rw[zAU]at a;split at a<;>cases a
 refine⟨⟨c,by simpa[Vp]using hc,by simpa[Vp]using hd⟩,⟨[],by simpa[Vp]using hq⟩,hr,λx=>?_,λk s d=>(by cases d),λk g h1=>absurd h1 (b k),λk a=>absurd a (b k),⟨hF.1,hF.2.1,hF.2.2,hne⟩,λw _=>rfl,by simpa[Vp]using h1,by simpa[Vp]using h2,λx e=>?_,by simp[Vp]⟩
 ·constructor
  ·intro h;cases h
  ·rintro⟨k,_,a⟩;exact absurd a (b k)
 ·have:=zGQ e;omega
theorem Wjc {n:Nat}(h1:1<=n)(h2:n<=1024){R:Option Addr->Int->Hp->Prop}(hR:∀σ' p',Ext0 σ σ'->σ.size<=p'->SpH3 σ' (λb=>σ.size<=b) p' (Vp n)->R (some ⟨p',0,none⟩) 0 σ'):Q2.c (n:Int) σ R:=by
 refine Q2.o ?_;unfold Q2.v;refine JnB.intro (ifDF O ?_);rw[zd O];refine ifF rfl (mk O O λe z g j=>WeU λw y d i=>nw (cs:=[.slice (some ⟨σ.size,0,none⟩) n n,.map (some e.size),.int .i64 0]) λr x a u=>?_);have m:=Ext.blk a (Ext.blk d j id) id;have p:=Ext.mapL a (i .i64 .s) id;refine hR r _ (Ext.trans (Ext.trans g d) a) O ⟨σ.size,e.size,[],_,Wm1 h1 h2 (zD _) u ?_ p ⟨O,O,O⟩ O⟩;rw[Wnf];exact m
end Go.Ar
namespace Go.Vc
open Go
def itN (h:Hp)(it r:Nat):Nat:=
 match h[it]?,h[r]? with
 | some (.mapIter _ _ seen _),some (.map es _)=>(es.toList.filter λe=>!seen.contains e.born).length
 | _,_=>0
variable {σ:Hp}{k:IntKind}{c:CK}{l todo:List (Int×c.T)}{cur:Option (Int×c.T)}{r it:Nat}
theorem It.num {h:Hp}(hi:It h it k c (some r) l todo cur):itN h it r=todo.length:=by
 obtain⟨j,g,a,e,b,m,u,s,i,d,p⟩:=hi;unfold itN;rw[e,b];have:=congrArg List.length d;simpa using this
theorem It.keep {h h':Hp}(hi:It h it k c (some r) l todo cur)(h1:h'[it]?=h[it]?)(h2:h'[r]?=h[r]?):It h' it k c (some r) l todo cur:=by
 obtain⟨g,b,a,e,d,rest⟩:=hi;exact⟨g,b,a,h1.trans e,h2.trans d,rest⟩
theorem rng0 {A:aP}{body:Int->c.T->Hp->(Hp->Prop)->Prop}(hm:MapL σ r k c l)(I:List (Int×c.T)->Hp->Prop)
 (h0:∀v,v.size=σ.size+1->Ext0 σ v->I l v)
 (hend:∀v,I [] v->A v)
 (hstep:∀todo n x v v' (J:aP),I todo v->(n,x)∈todo->QD v v' σ.size->σ.size<v.size->(∀w,w[σ.size]?=v'[σ.size]?->w[r]?=v'[r]?->I (todo.filter λy=>!(y.1==n)) w->J w)->body n x v' J) :
 Rng k c (some r) σ λit v3=>W8 [] (λI=>I v3) λJ1 v4=>Nxt k c it v4 (A v4) λ_ _ v5=>Ent k c it v5 λkey1 val1=>body key1 val1 v5 J1:=by
 refine⟨l,hm,λv N M K=>?_⟩;have F:Ext0 σ v:=⟨O,λb m _=>M b m⟩;refine Wn4 (λw=>∃todo a,It w σ.size k c (some r) l todo a/\I todo w/\σ.size<w.size) (λw=>itN w σ.size r) ⟨l,none,K,h0 v N F,O⟩ ?_;rintro w ⟨todo,a,e,z,p⟩;refine⟨rfl,some r,l,todo,a,e,λG=>?_,λn x C D L g=>?_⟩
 ·subst G;exact hend w z
 ·refine⟨rfl,some r,l,_,n,x,g,hstep todo n x w D _ z C L p λu s j i=>?_⟩;have d:=g.keep s j;refine⟨⟨_,_,d,i,?_⟩,?_⟩
  ·obtain⟨P,H,B,E,_⟩:=d;exact(zAQ.1 E).1
  ·rw[d.num,e.num];exact List.length_filter_lt_length_iff_exists.2 ⟨(n,x),C,by simp⟩
theorem rng1 {a:CK}{x0:a.T}{A:a.T->Hp->Prop}{body:Int->c.T->a.T->Hp->(a.T->Hp->Prop)->Prop}(hm:MapL σ r k c l)(I:List (Int×c.T)->a.T->Hp->Prop)
 (h0:∀v,v.size=σ.size+1->Ext0 σ v->I l x0 v)
 (hend:∀z v,I [] z v->A z v)
 (hstep:∀todo n x z v v' (J:a.T->Hp->Prop),I todo z v->(n,x)∈todo->QD v v' σ.size->σ.size<v.size->(∀z' w,w[σ.size]?=v'[σ.size]?->w[r]?=v'[r]?->I (todo.filter λy=>!(y.1==n)) z' w->J z' w)->body n x z v' J) :
 Rng k c (some r) σ λit v3=>W8 [a] (λI=>I x0 v3) λJ1 z v4=>Nxt k c it v4 (A z v4) λ_ _ v5=>Ent k c it v5 λkey1 val1=>body key1 val1 z v5 J1:=by
 refine⟨l,hm,λv Q P M=>?_⟩;have H:Ext0 σ v:=⟨O,λb p _=>P b p⟩;refine ZS (a:=a) (λz w=>∃todo d,It w σ.size k c (some r) l todo d/\I todo z w/\σ.size<w.size) (λ_ w=>itN w σ.size r) ⟨l,none,M,h0 v Q H,O⟩ ?_;rintro z w ⟨todo,d,g,C,s⟩;refine⟨rfl,some r,l,todo,d,g,λK=>?_,λn x E F N i=>?_⟩
 ·subst K;exact hend z w C
 ·refine⟨rfl,some r,l,_,n,x,i,hstep todo n x z w F _ C E N s λz' u B m j=>?_⟩;have e:=i.keep B m;refine⟨⟨_,_,e,j,?_⟩,?_⟩
  ·obtain⟨R,L,D,G,_⟩:=e;exact(zAQ.1 G).1
  ·rw[e.num,g.num];exact List.length_filter_lt_length_iff_exists.2 ⟨(n,x),E,by simp⟩
end Go.Vc
namespace Go.Ar
open Go Go.Vc Go.Proofs
open Go.Bu (Zf)
variable {σ:Hp}{F:Rg}{p q r:Nat}{sp:Sp}{l:List (Int×Sl)}{B:Nat->Nat}
theorem VV {α:Type}{l:List (Int×α)}(hn:(l.map (·.1)).Nodup){n:Int}{x:α}(h:(n,x)∈l):mget l n=some x:=by
 induction l with
 | nil=>simp at h
 | cons y l ih=>
  rw[Kg];simp only[zJ,zo]at hn;rcases zQ.1 h with h1|h1
  ·subst h1;rw[zB rfl]
  ·have:¬y.1=n:=λe=>hn.1 (zC.2 ⟨_,h1,e.symm⟩);rw[zA this];exact ih hn.2 h1
end Go.Ar
namespace Go.Bu
open Go Go.Vc Go.Proofs
variable {σ:Hp}{p n sb:Nat}{S:Nat->Bool}{ms:List Nat}
def mapV (ms:List Nat):List Value:=ms.map λm=>Value.map (some m)
structure Part (B:Nat) (h:Hp) (p n:Nat) (j:Nat) (s:Sl) (ms:List Nat):Prop where
 len:ms.length=j
 sl:s.len=j
 hd:Blk h p [.int .i64 n,.slice s.a s.len s.cap]
 own:Own (λb=>B<=b/\b≠p/\b∉ms) h s 1 (mapV ms)
 new:∀m∈ms,B<=m/\m≠p/\m<h.size
 nd:ms.Nodup
theorem Part.done {B:Nat}{h:Hp}{j:Nat}{s:Sl}(hp:Part B h p n j s ms)(hB:B<=p)(hj:0<j)(n1:1<=n)(n2:n<=1024)(lo:2^j<=2*n)(hi:n<2^j)(bnd:Bounded S n)
 (maps:∀k m,ms[k]?=some m->∃B:List (Int×Bool),MapL h m .i64 .b B/\Keys S k B):∃sb,BH h p n S sb ms/\∀b,fp p sb ms b->B<=b:=by
 rcases hp.own.2 with⟨_,hl,_⟩|⟨sb,cs,⟨hq,hqp,hqm⟩,ha,hb,hle,hcl,ht⟩
 ·have:=hp.sl;omega
 ·refine⟨sb,⟨?_,?_,maps,?_,n1,n2,?_,?_,bnd⟩,?_⟩
  ·refine⟨s.cap,?_⟩;have:=hp.hd;rw[ha,hp.sl,←hp.len]at this;exact this
  ·refine⟨cs.drop (mapV ms).length,?_⟩;have:mapV ms++cs.drop (mapV ms).length=cs:=by
    conv=>lhs;lhs;rw[←ht]
    exact zBE _ _
   show Blk h sb (mapV ms++_);rw[this];exact hb
  ·simp only[zo,zQ,not_or];exact⟨⟨λe=>hqp e.symm,λa=>(hp.new p a).2.1 rfl⟩,hqm,hp.nd⟩
  ·rw[hp.len];exact lo
  ·rw[hp.len];exact hi
  ·intro b hb;simp only[fp,zQ]at hb;rcases hb with rfl|rfl|h
   ·exact hB
   ·exact hq
   ·exact(hp.new b h).1
theorem Part.hdS {B:Nat}{h:Hp}{j:Nat}{s:Sl}(hp:Part B h p n j s ms):cell h ⟨p,1,none⟩=some (.slice s.a s.len s.cap):=by rw[hp.hd.cell];rfl
theorem Part.keep0 {B:Nat}{h h':Hp}{j:Nat}{s:Sl}(hp:Part B h p n j s ms)(e:Ext0 h h'):Part B h' p n j s ms:=
 ⟨hp.len,hp.sl,e.blk hp.hd id,hp.own.keep0 e,λm a=>⟨(hp.new m a).1,(hp.new m a).2.1,zEA (hp.new m a).2.2 e.1⟩,hp.nd⟩
theorem Part.step {B:Nat}{h:Hp}{j m e t bytes:Nat}{s:Sl}{zs:List Value}{K:Sl->Hp->Prop}(hp:Part B h p n j s ms)(hj:j<=1000)(hbt:bytes<=1000)(hz:zs.length=1)(hm:B<=m)(hmp:m≠p)(hml:m<h.size)(hmn:m∉ms)(hms:¬Hg s m)
 (hpB:p<h.size) (hBh:B<=h.size)
 (hgo:∀s' h',Ext (Hg s) h h'->s'.len=j+1->Blk h' p [.int .i64 n,.slice s.a s.len s.cap] →
  (∀h2,QD h' h2 p->Blk h2 p [.int .i64 n,.slice s'.a s'.len s'.cap]->Part B h2 p n (j+1) s' (ms++[m]))->K s' h') :
 App s 1 bytes e zs ⟨some ⟨h.size,0,none⟩,1,1⟩ (h.push (.cells #[.map (some m)] t (0,0))) K:=by
 have J:=hp.sl;have u:Own (λb=>B<=b/\b≠p/\b∉ms++[m]) (h.push (.cells #[.map (some m)] t (0,0))) s 1 (mapV ms):=by
  have g:=hp.own;have h2:Own (λb=>B<=b/\b≠p/\b∉ms++[m]) h s 1 (mapV ms):=by
   refine⟨g.1,g.2.imp id ?_⟩;rintro⟨b,cs,⟨q1,q2,q3⟩,ha,r⟩;refine⟨b,cs,⟨q1,q2,?_⟩,ha,r⟩;simp only[zR,zV,not_or];exact⟨q3,λe=>hms ⟨0,by rw[ha,e]⟩⟩
  exact h2.keep0 (HE _ _)
 have z:(h.push (.cells #[.map (some m)] t (0,0))).size=h.size+1:=by simp
 refine u.app (ys:=[.map (some m)]) ?_ hz rfl Wn5 (by simp[one1]) ?_ ?_ zBG λs' h' D H N E=>?_
 ·intro b i;rw[z]at i;refine⟨O,O,?_⟩;simp only[zR,zV,not_or];exact⟨λy=>by have:=(hp.new b y).2.2;omega,O⟩
 ·simp only;have:(s.len+1)*bytes<=1001*1000:=zAF O hbt;omega
 ·simp only;omega
 ·simp only at D;have d:Ext (Hg s) h h':=(HE h _).to.trans H;have A:¬Hg s p:=λi=>(hp.own.blk_lt i).1.2.1 rfl;refine hgo s' h' d O (d.blk hp.hd A) λh2 w C=>⟨by simp[hp.len],O,C,?_,?_,?_⟩
  ·have:mapV (ms++[m])=mapV ms++[.map (some m)]:=by simp[mapV]
   rw[this];exact N.keep (Ext.of_only (F:=(· = p)) w rfl) (λb L _ G=>L.2.1 G)
  ·intro x hx;have M:h2.size=h'.size:=w.1;have:=d.1;rcases zR.1 hx with g|g
   ·have:=hp.new x g;exact⟨this.1,this.2.1,O⟩
   ·simp at g;subst g;exact⟨hm,hmp,O⟩
  ·rw[zBJ];refine⟨hp.nd,by simp,?_⟩;intro a ha b i;simp at i;subst i;rintro rfl;exact hmn ha
def emptyS:Nat->Bool:=λ_=>false
theorem WgK (k:Nat):Keys emptyS k []:=by
 refine⟨by simp,λq a=>?_⟩;have:=KW a (Ky k q);simp[emptyS]at this
theorem New_ok (pages:Int){R:Option Addr->Int->Hp->Prop}(hbad:¬(1<=pages/\pages<=1024)->R none 1 σ)
 (hR:∀(n:Nat),pages=(n:Int)->1<=n->n<=1024->∀σ' sb ms,Ext0 σ σ'->BH σ' σ.size n emptyS sb ms->(∀b,fp σ.size sb ms b->σ.size<=b)->R (some ⟨σ.size,0,none⟩) 0 σ'):QY.c pages σ R:=by
 refine QY.o ?_;unfold QY.v;refine JnB.intro (ifD (λg=>ifT rfl (hbad O)) λg=>?_);refine ifD (λh2=>hbad O) λh2=>?_;obtain⟨n,rfl⟩:=zk (show 0<=pages by omega);have N:1<=n:=by omega
 have M:n<=1024:=by omega
 unfold Nw;have e0:=HE σ (.cells #[.int .i64 (n:Int),.slice none 0 0] 52 (0,0));refine ZS (a:=bN) (λt h=>∃(j:Nat) (s:Sl) (ms:List Nat),t=((2^j:Nat):Int)/\2^j<=2*n/\Ext0 σ h/\σ.size<h.size/\Part σ.size h σ.size n j s ms/\∀m∈ms,MapL h m .i64 .b []) (λt _=>2*n+1-t.toNat)
  ⟨0,⟨none,0,0⟩,[],rfl,by simp;omega,Ext.push _ _ _,by simp,⟨rfl,rfl,Blk.push _ _ _,Own.nil _ _ _,by simp,by simp⟩,by simp⟩ ?_
 rintro t h ⟨j,s,ms,rfl,A,P,W,d,y⟩;have hj:j<=11:=by
  apply Classical.byContradiction;intro hc;have:2^12<=2^j:=zBP aB O;omega
 have aa:=zAG j;refine ifD (λab=>?_) (λC=>?_)
 ·refine nilP ?_;rw[add_lit,zG];refine ldS d.hdS ?_;have D:=HE h (.map #[] 0);have ac:(h.push (.map #[] 0)).size=h.size+1:=by simp
  have G:=d.keep0 D;refine G.step (m:=h.size) O O rfl O O O (λw=>by have:=(d.new _ w).2.2;omega) (λr=>by have:=(d.own.blk_lt r).2;omega) O O λU h' K hl r u=>?_;refine nilP (r.st1 aA λh2 z J=>?_);have B:=u h2 z J;have L:Ext0 σ h2:=by
   refine Ext.fresh (Ext.fresh (P.trans D) K λi E=>(d.own.blk_lt E).1.1) (Ext.of_only (F:=(· = σ.size)) z rfl) λi E=>?_;rw[E];exact zD _
  refine arN (m:=2^(j+1)) (by rw[zAV];omega) (by rw[zAV];omega) ⟨⟨j+1,U,ms++[h.size],rfl,by rw[zAV];omega,L,?_,B,?_⟩,by rw[zAV];omega⟩
  ·have:=z.1;have:=K.1;omega
  ·intro m w;have Wba:∀{m:Nat},MapL (h.push (.map #[] 0)) m .i64 .b []->¬Hg s m->m≠σ.size->MapL h2 m .i64 .b []:=λV X H=>Hh z (K.mapL V X) H;rcases zR.1 w with g|g
   ·exact Wba (D.mapL (y m g) id) (λr=>(d.own.blk_lt r).1.2.2 g) (d.new m g).2.1
   ·simp at g;subst g;exact Wba (MapL.push _ _ _) (λr=>by have:=(d.own.blk_lt r).2;omega) O
 ·have p:0<j:=by
   rcases zET j with e|e
   ·subst e;simp at C;omega
   ·exact e
  obtain⟨sb,Y,Q⟩:=d.done (S:=emptyS) (zD _) p N M A O (λx Z=>by simp[emptyS]at Z) λk m w=>⟨[],y m (zE w),WgK k⟩;exact hR n rfl N M h sb ms P Y Q
end Go.Bu
namespace Go.Proofs
open Go.Vc
set_option maxRecDepth 100000
def X6.h:Hn:=.q .o6 (.q (.q .o3 (.c (.q .o6 .l) .l)) (.q .o5 (.q (.q .o6 (.k (.loop [(8,.I),(9,.I),(10,.I),(11,.I),(28,.I)] (.q .o1 (.q (.c .l .l) (.q (.k (.q .o6 (.q .o7 (.q .o10 (.q (.reg (.held true [] (.tk [0,1,2,3,4,5,6,7,10,11] (.all [(8,.tk [9,12,13,14] (.done))])))) (.q (.reg (.held true [] (.tk [0,1,2,3,4,5,6,7,9,10] (.all [(8,.tk [11,12,13] (.done))])))) (.q .o6 .o7))))))) .o2)))))) (.q (.q .o5 (.k (.loop [(12,.I)] (.q (.reg (.seq [.it .i64 bN,.op])) (.q (.c .l .l) (.k (.q (.reg (.seq [.it .i64 bN,.op,.op])) .o4))))))) (.q (.o 16) .l)))))
def X6.v (a:R2)(b:Hp)(c:Int->Int->Int->Int->Int->Int->Hp->Prop):Prop:=WD.c a b λd e=>If (!d) (c 0 0 0 0 0 0 e) (bE a 0 e λg=>W8 [bN,bN,bN,bN,bN] (λh=>h 0 0 0 0 0 e) λi (j:Int) (k:Int) (l:Int) (m:Int) (n:Int) o=>If (n<((g.len:Nat):Int)) (Ix g.a g.len n 3 λp=>aQ p 0 o λq=>aQ p 1 o λr=>aQ p 2 o λs=>aV #[.I 0,.I 0,.I 0] 31 o λt u=>aR t 0 (.I q) u λv=>aR t 1 (.I r) v λw=>aR t 2 (.I s) w λx=>aQ t 0 x λy=>aQ t 1 x λz=>aQ t 2 x λaa=>Qo.c y z aa x λab ac ad=>bE a 5 ad λaf=>Ix af.a af.len n 1 λag=>LdP ag ad λah=>Ya.c ah ad λai aj=>Held aj λak=>NilP a λal=>aT ak al 6 λam=>Ix am.a am.len n 1 λan=>LdH ak .p an λ(ao:R2)=>aS ak t 0 λap=>W0.c ao aj λaq ar=>And (ak ar) <| bL (((aq.len:Nat):Int)*ap) λau=>bL (j+au) λav=>Held ar λaw=>NilP a λax=>aT aw ax 5 λay=>Ix ay.a ay.len n 1 λaz=>LdH aw .p az λ(a0:R2)=>aS aw t 0 λa1=>YB.c a0 ar λa2 a3=>And (aw a3) <| bL (a2*a1) λa4=>bL (k+a4) λa5=>bL (((ai.len:Nat):Int)*ab) λa6=>bL (l+a6) λa7=>aQ t 1 a3 λa8=>bL (((ai.len:Nat):Int)*a8) λa9=>bL (m+a9) λba=>bL (n+1) λbb=>i av a5 a7 ba bb a3) (bI a 7 o λbd=>Rng .i64 bN bd o λbe bf=>
 W8 [bN] (λbg=>bg 0 bf) λbh (bi:Int) bj=>Nxt .i64 bN be bj (bF a 2 bj λbl=>Zn.c bl bj λbm bn=>c j k l m bi bm bn) (λbo bp bq=>Ent .i64 bN be bq λbr bs=>bL (bi+bs) λbt=>bh bt bq)))
theorem X6.o {a b c}(d:X6.v a b c):X6.c a b c:=Wa Tryz.func74 (x:=X6.h) (R0 d)
def YZ.h:Hn:=.q .o3 (.q (.q .o3 (.c (.q .o3 .l) .l)) (.q (.q .o2 (.c (.q .o3 .l) .l)) (.q .o8 (.q (.q .o2 (.c (.q .o3 .l) .l)) (.sjn [] (.q .o2 (.c (.q .o5 (.k (.loop [] (.q (.reg (.seq [.it .i64 bN,.op])) (.q (.c .l .l) (.k (.q (.reg (.seq [.it .i64 bN,.op,.op,.op,.op])) (.q .o3 (.q (.reg (.seq [.op,.op,.op,.op,.grd true 5 (RI.ops 5)])) (.c (.q .o5 .l) .l)))))))))) .l)) (.q (.o 15) (.q (.q .o2 (.c (.q .o4 .l) .l)) (.q .o6 .l))))))))
def YZ.v (a:R2)(b:Int)(c:Hp)(d:Int->Int->Int->Hp->Prop):Prop:=WD.c a c λe f=>If (!e) (d 0 0 5 f) (If (b<0) (d 0 0 8 f) (bF a 4 f λh=>Nz 256<|bL (b.tdiv 256) λi=>Zm.c h i f λj k=>If (j==0) (d 0 0 8 k) (Jn [] (λl=>bE a 5 l λn=>bL (j-1) λo=>Ix n.a n.len o 1 λp=>LdP p l λq=>YC.c q b l λr s t=>If (s != 0) (d 0 0 s t) (bL (j-1) λu=>d u r 0 t)) λv=>If (j==41) (bI a 7 k λx=>Rng .i64 bN x k λy z=>W8 [] (λaa=>aa z) λab ac=>Nxt .i64 bN y ac (v ac) (λad ae af=>Ent .i64 bN y af λag ah=>Nz 256<|bL (b.tdiv 256) λai=>JnB (λaj ak=>If aj (bL (ag*256) λal=>d (-1) al 0 ak) (ab ak)) λam=>If (ag<=ai) (bL (ag+ah) λan=>am (decide (ai<an)) af) (am false af))) (v k))))
theorem YZ.o {a b c d}(e:YZ.v a b c d):YZ.c a b c d:=Wa Tryz.func76 (x:=YZ.h) (R0 e)
def WD.h:Hn:=.q .o1 (.q (.reg (.seq [.op,.op,.op,.grd true 5 (RI.ops 5),.op])) .l)
def WD.v (a:R2)(b:Hp)(c:aO):Prop:=JnB (λd e=>c d e) λf=>If (!a.isNone) (bF a 1 b λh=>f (!h.isNone) b) (f false b)
theorem WD.o {a b c}(d:WD.v a b c):WD.c a b c:=Wa Tryz.func106 (x:=WD.h) (R0 d)
def Y1.h:Hn:=.q .o1 (.q (.reg (.seq [.op,.op,.op,.grd true 7 (RI.ops 7),.op])) .l)
def Y1.v (a:R2)(b:Int)(c:Hp)(d:aO):Prop:=WD.c a c λe f=>JnB (λg h=>d g h) λi=>If e (bF a 3 f λk=>X9.c k b f λl m=>i (decide (l>0)) m) (i false f)
theorem Y1.o {a b c d}(e:Y1.v a b c d):Y1.c a b c d:=Wa Tryz.func113 (x:=Y1.h) (R0 e)
def Q0.h:Hn:=.q .o2 (.q (.q .o3 .aJ) (.q .o3 (.q (.q (.reg (.seq [.op,.op,.op,.grd false 3 (RI.ops 3),.op,.grd false 2 [.op,.op],.op,.grd false 2 [.op,.op]])) .aJ) (.q .o8 (.q .o9 (.q .o9 (.q (.q .o3 (.k (.loop [(61,.I)] (.q .o1 (.q (.c .l .l) (.q (.k (.q .o4 (.q .o7 (.q .o9 (.reg (.heldJ true [18,21] [] (.tk [0,1,2,3,4,5,6,9,10,11,12,13] (.all [(7,.all [(8,.all [(14,.all [(15,.take 16 (.take 17 (.all [(18,.take 19 (.take 20 (.all [(21,.done)])))])))])]),(14,.all [(8,.all [(15,.take 16 (.take 17 (.all [(18,.take 19 (.take 20 (.all [(21,.done)])))])))])])]),(14,.all [(7,.all [(8,.all [(15,.take 16 (.take 17 (.all [(18,.take 19 (.take 20 (.all [(21,.done)])))])))])])])])))))))) .o2)))))) (.q .o3 .l))))))))
def Q0.v (a:Sl)(b:R2)(c:Int)(d:Hp)(e:Option Addr->Int->Hp->Prop):Prop:=ZG.c a d λf g=>If (!f) (e none 2 g) (Xw.c b g λh i=>JnB (λj k=>JnB (λl m=>JnB (λn o=>If n (e none 1 o) (Wc.c a o λp q=>Qd.c q λr s=>Nw (.map #[] 0) s λt u=>aV #[.slice p.a p.len p.cap,.pointer b,.pointer none,.pointer none,.pointer r,.slice none 0 0,.slice none 0 0,.map (some t.block)] 177 u λv w=>QY.c h w λx y z=>NilP (some v) λaa=>aR aa 2 (.pointer x) z λab=>Kw.c h ab λac ad ae=>NilP (some v) λaf=>aR af 3 (.pointer ac) ae λag=>W8 [bN] (λah=>ah 0 ag) λai (aj:Int) ak=>If (aj<((a.len:Nat):Int)) (Ix a.a a.len aj 3 λal=>aQ al 0 ak λam=>aQ al 1 ak λan=>aQ al 2 ak λao=>aV #[.I 0,.I 0,.I 0] 31 ak λap aq=>aR ap 0 (.I am) aq λar=>aR ap 1 (.I an) ar λau=>aR ap 2 (.I ao) au λav=>aQ ap 0 av λaw=>aQ ap 1 av λax=>aQ ap 2 av λay=>Qf.c aw ax ay av λaz a0 a1=>aQ ap 2 a1 λa2=>ZY.c a2 c a1 λa3 a4 a5=>Jn [] (λa6=>bL (aj+1) λa7=>ai a7 a6) λa8=>Held a5 λa9=>NilP (some v) λba=>aT a9 ba 5 λbb=>NilP (some v) λbc=>aT a9 bc 6 λbd=>(aV #[.pointer az] 178 a5 λbe bf=>And (a9 bf) <| (App bb 1 8 178 [.pointer none] ⟨some be,1,1⟩ bf λbg bh=>And (a9 bh) <| aV #[.pointer a3] 180 bh λbi bj=>And (a9 bj) <| App bd 1 8 180 [.pointer none] ⟨some bi,1,1⟩ bj λbk bl=>And (a9 bl) <|
 NilP (some v) λbm=>aR bm 5 (.slice bg.a bg.len bg.cap) bl λbn=>NilP (some v) λbo=>aR bo 6 (.slice bk.a bk.len bk.cap) bn λbp=>a8 bp) ∧ (aV #[.pointer a3] 180 bf λbq br=>And (a9 br) <| App bb 1 8 178 [.pointer none] ⟨some be,1,1⟩ br λbs bt=>And (a9 bt) <| App bd 1 8 180 [.pointer none] ⟨some bq,1,1⟩ bt λbu bv=>And (a9 bv) <| NilP (some v) λbw=>aR bw 5 (.slice bs.a bs.len bs.cap) bv λbx=>NilP (some v) λbz=>aR bz 6 (.slice bu.a bu.len bu.cap) bx λb0=>a8 b0)) ∧ (aV #[.pointer a3] 180 a5 λb1 b2=>And (a9 b2) <| aV #[.pointer az] 178 b2 λb3 b4=>And (a9 b4) <| App bb 1 8 178 [.pointer none] ⟨some b3,1,1⟩ b4 λb5 b6=>And (a9 b6) <| App bd 1 8 180 [.pointer none] ⟨some b1,1,1⟩ b6 λb7 b8=>And (a9 b8) <| NilP (some v) λb9=>aR b9 5 (.slice b5.a b5.len b5.cap) b8 λca=>NilP (some v) λcb=>aR cb 6 (.slice b7.a b7.len b7.cap) ca λcc=>a8 cc)) (e (some v) 0 ak))) λcd=>If l (cd true m) (cd (decide (c>8)) m)) λce=>If j (ce true k) (ce (decide (c<0)) k)) λcf=>If (h<32) (cf true i) (Nz 16 <| cf ((h.tmod 16) != 0) i))
theorem Q0.o {a b c d e}(f:Q0.v a b c d e):Q0.c a b c d e:=Wa Tryz.func125 (x:=Q0.h) (R0 f)
def Xj.h:Hn:=.q .o2 (.q (.k (.q .o4 (.c .aL (.q .o3 .aJ)))) (.q (.q .o6 (.k (.loop [(28,.I)] (.q .o1 (.q (.c .l .l) (.q (.k (.q .o3 .o4)) .o2)))))) (.q (.o 11) (.q (.q .o2 (.c (.q .o3 .l) .l)) (.q .o1 (.q (.reg (.tail 10 (RI.ops 10) [.op,.op])) (.q (.q .o3 (.k (.loop [(10,.I),(62,.I)] (.q .o1 (.q (.c .l .l) (.q (.k (.q .o4 (.q (.q .o3 (.k (.loop [(68,.I)] (.q .o1 (.q (.c .l .l) (.q (.k (.q .o3 .o6)) .o2)))))) .o5))) .o2)))))) (.q .o3 .l))))))))
def Xj.v (a:R2)(b:Int)(c:Hp)(d:Int->Int->Hp->Prop):Prop:=WD.c a c λe f=>If (!e) (d 0 5 f) (If (b<0) (d 0 1 f) (bE a 5 f λh=>W8 [bN] (λi=>i 0 f) λj (k:Int) l=>If (k<((h.len:Nat):Int)) (Ix h.a h.len k 1 λm=>LdP m l λn=>WY.c n l λo p=>Xi.c a o p λq=>bL (k+1) λr=>j r q) (bF a 3 l λt=>Yw.c t b l λu v w=>If (v != 0) (d 0 v w) (bF a 3 w λy=>bF a 1 w λaa=>Nw (.cells #[.func (.func 192) #[.pointer y] #[],.func (.func 193) #[.pointer aa] #[]] 54 (0,0)) w λab ac=>W8 [bN,bN] (λad=>ad 0 0 ac) λae (af:Int) (ag:Int) ah=>If (ag<((u.len:Nat):Int)) (Ix u.a u.len ag 2 λai=>aQ ai 0 ah λaj=>aQ ai 1 ah λak=>aV #[.I 0,.I 0] 92 ah λal am=>aR al 0 (.I aj) am λan=>aR al 1 (.I ak) an λao=>W8 [bN] (λap=>ap 0 ao) λaq (ar:Int) au=>If (ar<((2:Nat):Int)) (Ix (some ab) 2 ar 1 λav=>LdF av au λaw=>aQ al 0 au λax=>aQ al 1 au λay=>VK Tryz.prog aw [.I ax,.I ay] [.I] au λaz a0=>bL (ar+1) λa1=>aq a1 a0) (aQ al 1 au λa2=>bL (af+a2) λa3=>bL (ag+1) λa4=>ae a3 a4 au)) (d af 0 ah)))))
theorem Xj.o {a b c d}(e:Xj.v a b c d):Xj.c a b c d:=Wa Tryz.func134 (x:=Xj.h) (R0 e)
def Yc.h:Hn:=.q .o1 (.q (.q .o3 .aK) (.q .o6 (.q (.q .o3 (.k (.loop [(16,.I)] (.q .o1 (.q (.c .l .l) (.q (.k (.q .o3 (.q .o6 (.q .o7 .o7)))) .o2)))))) (.q .o3 .l))))
def Yc.v (a:R2)(b:Hp)(c:aN):Prop:=WD.c a b λd e=>If (!d) (c 0 e) (bF a 3 e λg=>YD.c g e λh i=>W8 [bN] (λj=>j 0 i) λk (l:Int) m=>If (l<((h.len:Nat):Int)) (Ix h.a h.len l 1 λn=>bM n m λo=>bF a 3 m λq=>Xo.c q o m λr s=>bF a 2 s λu=>bL (o*16) λv=>XA.c u v 16 s λw x=>bF a 1 x λz=>bL (o*16) λaa=>Yy.c z aa 16 x λab ac=>bL (l+1) λad=>k ad ac) (c ((h.len:Nat):Int) m))
theorem Yc.o {a b c}(d:Yc.v a b c):Yc.c a b c:=Wa Tryz.func135 (x:=Yc.h) (R0 d)
def Zb.h:Hn:=.q (.q .o3 (.c .l .l)) (.q .o6 (.k (.loop [(14,.I)] (.q .o1 (.q (.c .l .l) (.q (.k (.q .o5 (.q .o4 (.k (.loop [(22,.I)] (.q .o1 (.q (.c .l .l) (.q (.k (.q .o3 .o4)) .o2)))))))) .o2))))))
def Zb.v (a:R2)(b:Hp)(c:aP):Prop:=WD.c a b λd e=>If (!d) (c e) (bE a 6 e λg=>W8 [bN] (λh=>h 0 e) λi (j:Int) k=>If (j<((g.len:Nat):Int)) (Ix g.a g.len j 1 λl=>LdP l k λm=>Xp.c m k λn o=>W8 [bN] (λp=>p 0 o) λq (r:Int) s=>If (r<((n.len:Nat):Int)) (Ix n.a n.len r 1 λt=>LdS t s λu=>WA.c a j u s λv w=>bL (r+1) λx=>q x w) (bL (j+1) λy=>i y s)) (c k))
theorem Zb.o {a b c}(d:Zb.v a b c):Zb.c a b c:=Wa Tryz.func136 (x:=Zb.h) (R0 d)
def Wz.h:Hn:=.q .o2 (.q (.q .o4 (.q .o2 (.c (.q .o3 .l) .l))) (.q (.o 12) .l))
def Wz.v (a:R2)(b:Int)(c:Hp)(d:Sl->Int->Hp->Prop):Prop:=WZ.c a b c λe f=>If (e != 0) (d ⟨none,0,0⟩ e f) (bE a 6 f λh=>Ix h.a h.len b 1 λi=>LdP i f λj=>WC.c j f λk l m=>d k l m)
theorem Wz.o {a b c d}(e:Wz.v a b c d):Wz.c a b c d:=Wa Tryz.func174 (x:=Wz.h) (R0 e)
def WE.h:Hn:=.q .o2 (.q (.q .o4 (.q .o2 (.c (.q .o3 .l) .l))) (.q (.o 13) .l))
def WE.v (a:R2)(b c:Int)(d:Hp)(e:Sl->Int->Hp->Prop):Prop:=WZ.c a b d λf g=>If (f != 0) (e ⟨none,0,0⟩ f g) (bE a 5 g λi=>Ix i.a i.len b 1 λj=>LdP j g λk=>Xf.c k c g λl m n=>e l m n)
theorem WE.o {a b c d e}(f:WE.v a b c d e):WE.c a b c d e:=Wa Tryz.func176 (x:=WE.h) (R0 f)
def Yp.h:Hn:=.q .o1 (.q (.q .o4 (.q .o2 .aJ)) (.q (.o 17) (.q (.q .o2 .aJ) (.q .o10 .l))))
def Yp.v (a:R2)(b:Int)(c:Hp)(d:aN):Prop:=WZ.c a b c λe f=>If (e != 0) (d e f) (bE a 0 f λh=>Ix h.a h.len b 3 λi=>aQ i 1 f λj=>bL (b+1) λk=>YU.c a j 1 k f λl m n=>If (m != 0) (d m n) (bE a 5 n λp=>Ix p.a p.len b 1 λq=>LdP q n λr=>Za.c r l n λs t=>d s t))
theorem Yp.o {a b c d}(e:Yp.v a b c d):Yp.c a b c d:=Wa Tryz.func177 (x:=Yp.h) (R0 e)
def WS.h:Hn:=.q .o2 (.q (.k (.q .o4 (.c .aL (.q (.reg (.seq [.op,.op,.op,.grd false 2 [.op,.op],.op,.grd false 2 [.op,.op],.op,.grd false 2 [.op,.op],.op,.grd false 5 (RI.ops 5),.op])) .aJ)))) (.q .o9 (.q (.q .o2 (.c (.q .o3 .l) .l)) (.q .o7 (.q .o3 .l)))))
def WS.v (a:R2)(b c:Int)(d:Hp)(e:Int->Int->Hp->Prop):Prop:=WD.c a d λf g=>If (!f) (e 0 5 g) (JnB (λh i=>JnB (λj k=>JnB (λl m=>JnB (λn o=>If n (e 0 1 o) (YU.c a b c 41 o λp q r=>If (q != 0) (e 0 q r) (bI a 7 r λt=>MSet .i64 bN t p b r λu=>e p 0 u))) λv=>If l (v true m) (bL (c-1) λw=>v ((bits .and .i64 c w) != 0) m)) λx=>If j (x true k) (x (decide (c>16)) k)) λy=>If h (y true i) (y (decide (c<1)) i)) λz=>If (b<1) (z true g) (z (decide (b>64)) g))
theorem WS.o {a b c d e}(f:WS.v a b c d e):WS.c a b c d e:=Wa Tryz.func179 (x:=WS.h) (R0 f)
def WR.h:Hn:=.q .o1 (.q (.q .o3 .aK) (.q (.o 11) (.q (.q .o2 .aK) (.q .o6 (.q .o6 .aM)))))
def WR.v (a:R2)(b:Int)(c:Hp)(d:aN):Prop:=WD.c a c λe f=>If (!e) (d 5 f) (bI a 7 f λh=>Lk .i64 bN h b f λi=>If (!i.isSome) (d 8 f) (bI a 7 f λk=>MDel .i64 bN k b f λl=>aV #[.I b,.I (i.getD 0)] 92 l λm n=>Xi.c a ⟨some m,1,1⟩ n λo=>d 0 o))
theorem WR.o {a b c d}(e:WR.v a b c d):WR.c a b c d:=Wa Tryz.func187 (x:=WR.h) (R0 e)
def Xi.h:Hn:=.q .o3 (.k (.loop [(8,.I)] (.q .o1 (.q (.c .l .l) (.q (.k (.q .o4 (.q (.reg (.tail 8 (RI.ops 8) [.op])) (.q (.reg (.tail 8 (RI.ops 8) [.op])) (.reg (.tail 8 (RI.ops 8) [.op])))))) .o2)))))
def Xi.v (a:R2)(b:Sl)(c:Hp)(d:aP):Prop:=W8 [bN] (λe=>e 0 c) λf (g:Int) h=>If (g<((b.len:Nat):Int)) (Ix b.a b.len g 2 λi=>aQ i 0 h λj=>aQ i 1 h λk=>aV #[.I 0,.I 0] 92 h λl m=>aR l 0 (.I j) m λn=>aR l 1 (.I k) n λo=>bF a 4 o λq=>aQ l 0 o λr=>aQ l 1 o λs=>XT.c q r s o λt u=>bF a 3 u λw=>aQ l 0 u λx=>aQ l 1 u λy=>XF.c w x y u λz aa=>bF a 2 aa λac=>aQ l 0 aa λad=>aQ l 1 aa λae=>Yg.c ac ad ae aa λaf ag=>bL (g+1) λah=>f ah ag) (d h)
theorem Xi.o {a b c d}(e:Xi.v a b c d):Xi.c a b c d:=Wa Tryz.func189 (x:=Xi.h) (R0 e)
def WA.h:Hn:=.q .o1 (.q (.q .o4 (.q .o2 .aJ)) (.q (.o 14) (.q (.q .o2 .aJ) (.q .o3 .aM))))
def WA.v (a:R2)(b:Int)(c:Sl)(d:Hp)(e:aN):Prop:=WZ.c a b d λf g=>If (f != 0) (e f g) (bE a 5 g λi=>Ix i.a i.len b 1 λj=>LdP j g λk=>Y4.c k c g λl m n=>If (m != 0) (e m n) (Xi.c a l n λo=>e 0 o))
theorem WA.o {a b c d e}(f:WA.v a b c d e):WA.c a b c d e:=Wa Tryz.func199 (x:=WA.h) (R0 f)
def WZ.h:Hn:=.q .o1 (.q (.k (.q .o4 (.c .aM (.q (.reg (.seq [.op,.op,.op,.grd false 7 (RI.ops 7),.op])) .aK)))) .aM)
def WZ.v (a:R2)(b:Int)(c:Hp)(d:aN):Prop:=WD.c a c λe f=>If (!e) (d 5 f) (JnB (λg h=>If g (d 1 h) (d 0 h)) λi=>If (b<0) (i true f) (bE a 0 f λk=>i (decide (b≥((k.len:Nat):Int))) f))
theorem WZ.o {a b c d}(e:WZ.v a b c d):WZ.c a b c d:=Wa Tryz.func212 (x:=WZ.h) (R0 e)
def YU.h:Hn:=.q .o2 (.q (.o 12) (.sjn [(10,.I),(11,.I)] (.q .o2 (.c (.q .o1 (.q (.k (.loop [(12,.I)] (.q (.q .o5 (.c .l .l)) (.k .o3)))) (.q (.q .o4 .aJ) (.o 12)))) .l)) (.q (.q .o2 (.c (.q .o3 .l) .l)) (.q .o7 (.q .o8 (.q .o3 .l))))))
def YU.v (a:R2)(b c d:Int)(e:Hp)(f:Int->Int->Hp->Prop):Prop:=bF a 2 e λh=>XS.c h b c e λi j k=>Jn [bN,bN] (λ(l:Int) (m:Int) n=>If (m != 0) (f 0 m n) (bF a 3 n λp=>XO.c p l b n λq r=>bF a 4 r λt=>Ys.c t l b d r λu v=>f l 0 v)) λw=>If (j==6) (W8 [bN] (λx=>x 16 k) λy (z:Int) aa=>If (z<(if c>b then c else b)) (bL (z*2) λab=>y ab aa) (Y8.c a z aa λac ad=>If (!ac) (f 0 6 ad) (bF a 2 ad λaf=>XS.c af b c ad λag ah ai=>w ag ah ai))) (w i j k)
theorem YU.o {a b c d e f}(g:YU.v a b c d e f):YU.c a b c d e f:=Wa Tryz.func215 (x:=YU.h) (R0 g)
def WJ.h:Hn:=.q .o2 (.q (.q .o4 (.q .o2 (.c (.q .o3 .l) .l))) (.q (.q (.o 11) .aJ) (.q (.q .o3 (.k (.loop [(32,.I)] (.q .o1 (.q (.c .l .l) (.q (.k (.q .o3 (.q (.o 14) (.q (.reg (.seq [.op,.op,.op,.grd false 2 [.op,.op]])) .aJ)))) .o2)))))) (.q (.o 13) .l))))
def WJ.v (a:R2)(b:Int)(c:Sl)(d:Hp)(e:Bool->Int->Hp->Prop):Prop:=WZ.c a b d λf g=>If (f != 0) (e false f g) (bE a 0 g λi=>Ix i.a i.len b 3 λj=>aQ j 2 g λk=>If (((c.len:Nat):Int) != k) (e false 1 g) (W8 [bN] (λl=>l 0 g) λm (n:Int) o=>If (n<((c.len:Nat):Int)) (Ix c.a c.len n 1 λp=>bM p o λq=>bE a 5 o λs=>Ix s.a s.len b 1 λt=>LdP t o λu=>W9.c u q o λv w x=>JnB (λy z=>If y (e false 8 z) (bL (n+1) λaa=>m aa z)) λab=>If (w != 0) (ab true x) (ab (!v) x)) (bE a 6 o λad=>Ix ad.a ad.len b 1 λae=>LdP ae o λaf=>Xe.c af c o λag ah ai=>e ag ah ai)))
theorem WJ.o {a b c d e}(f:WJ.v a b c d e):WJ.c a b c d e:=Wa Tryz.func222 (x:=WJ.h) (R0 f)
def Y8.h:Hn:=.q .o1 (.q (.q .o2 (.k (.loop [(5,.I)] (.q (.q .o9 (.c .l .l)) (.q (.k (.q (.q .o8 (.c .l .l)) (.q (.q .o3 (.k (.loop [(6,.I)] (.q (.q .o6 (.c .l .l)) (.q (.k .o6) .o3))))) (.q .o7 .aM)))) .o4))))) .aM)
def Y8.v (a:R2)(b:Int)(c:Hp)(d:aO):Prop:=W8 [bN] (λe=>e b c) λf (g:Int) h=>bL (g+b) λi=>bF a 1 h λk=>Xw.c k h λl m=>If (i<=l) (bF a 1 m λo=>Zt.c o g b m λp q=>If (p != 0) (bL (g+b) λr=>f r q) (Nz 16<|bL (g.tdiv 16) λs=>W8 [bN] (λt=>t s q) λu (v:Int) w=>bL (g+b) λx=>Nz 16<|bL (x.tdiv 16) λy=>If (v<y) (bF a 3 w λaa=>Yn.c aa v w λab ac=>bL (v+1) λad=>u ad ac) (bF a 2 w λaf=>Yg.c af g b w λag ah=>d true ah))) (d false m)
theorem Y8.o {a b c d}(e:Y8.v a b c d):Y8.c a b c d:=Wa Tryz.func253 (x:=Y8.h) (R0 e)
end Go.Proofs
namespace Go.Ar
open Go Go.Vc Go.Proofs
open Go.Bu (Zf QL Zu cnt)
inductive Lb where
 | hd|tab|free|trk|own|crow|trow|runs
 | cen (k:Nat)
 | tra (k:Nat)
 deriving DecidableEq
structure Lay where
 p:Nat
 hs:Nat
 fr:Nat
 tr:Nat
 op:Nat
 rn:Nat
 tab:Sl
 crow:Sl
 trow:Sl
 cps:List Nat
 tps:List Nat
def hdV (Y:Lay):List Value:=[.slice Y.tab.a Y.tab.len Y.tab.cap,.pointer (some ⟨Y.hs,0,none⟩),.pointer (some ⟨Y.fr,0,none⟩),.pointer (some ⟨Y.tr,0,none⟩),.pointer (some ⟨Y.op,0,none⟩),.slice Y.crow.a Y.crow.len Y.crow.cap,.slice Y.trow.a Y.trow.len Y.trow.cap,.map (some Y.rn)]
def tabV (tb:List Cls):List Value:=tb.flatMap λc=>[.int .i64 (c.size:Int),.int .i64 (c.pages:Int),.int .i64 (c.batch:Int)]
def ptrV (l:List Nat):List Value:=l.map λb=>.pointer (some ⟨b,0,none⟩)
def runI (l:List (Nat×Nat)):List (Int×Int):=l.map λr=>((r.1:Int),(r.2:Int))
def WeG (p n:Nat)(S:Nat->Bool):Hp->Rg->Prop:=λσ F=>∃sb ms,Go.Bu.BH σ p n S sb ms/\∀b,Go.Bu.fp p sb ms b->F b
def TrkR (p:Nat)(st:List Nat):Hp->Rg->Prop:=λσ F=>∃q,TrH σ p q st/\F p/\F q
def CenR (p:Option Nat)(c:Option Cls)(ss:Option (List SpA)):Hp->Rg->Prop:=λσ F=>match p,c,ss with
 | some p,some c,some ss=>∃ps,CeH σ F p c ps ss
 | _,_,_=>True
def TraR (p:Option Nat)(c:Option Cls)(room:Nat)(t:Option TrA):Hp->Rg->Prop:=λσ F=>match p,c,t with
 | some p,some c,some t=>TfH σ F p c.batch room t
 | _,_,_=>True
def AC (A:AR)(Y:Lay)(T:Nat->Hp->Rg->Prop):Lb->Hp->Rg->Prop
 | .hd=>BlkR Y.p (hdV Y)
 | .tab=>SlR Y.tab 3 (tabV A.tb)
 | .free=>WeG Y.fr A.n A.S
 | .trk=>TrkR Y.tr A.st
 | .own=>λσ F=>PmH σ F Y.op A.ow
 | .crow=>RowR Y.crow 1 (ptrV Y.cps)
 | .trow=>RowR Y.trow 1 (ptrV Y.tps)
 | .runs=>MapR Y.rn .i64 bN (runI A.runs)
 | .cen k=>CenR Y.cps[k]? A.tb[k]? A.cen[k]?
 | .tra k=>T k
def traT (A:AR)(Y:Lay)(k:Nat):Hp->Rg->Prop:=TraR Y.tps[k]? A.tb[k]? A.room A.tra[k]?
theorem WeG.loc (p n:Nat)(S:Nat->Bool):Lcl (WeG p n S):=by
 rintro σ σ' F G ⟨d,g,h,r⟩ y s;have j:∀b,Go.Bu.fp p d g b->b<σ.size:=λb a=>by
  unfold Go.Bu.fp at a;rcases zQ.1 a with h1|h1
  ·obtain⟨c,i⟩:=h.hd;rw[h1];exact i.lt
  rcases zQ.1 h1 with h2|h2
  ·obtain⟨c,i⟩:=h.row;rw[h2];exact i.lt
  ·obtain⟨k,u⟩:=zN h2;obtain⟨B,w,_⟩:=h.maps k b u;exact w.lt
 have e:Ext (λb=>¬Go.Bu.fp p d g b) σ σ':=⟨y,λb a m=>(s b a (r b (Classical.not_not.1 m))).2⟩;exact⟨d,g,h.keep e λb a x=>x a,λb a=>(s b (j b a) (r b a)).1⟩
theorem TrkR.loc (p:Nat)(st:List Nat):Lcl (TrkR p st):=by
 rintro σ σ' F G ⟨q,h,i,j⟩ s a;have e:Ext (λb=>b≠p/\b≠q) σ σ':=⟨s,λb m r=>by
  by_cases h1:b=p
  ·subst h1;exact(a b m i).2
  ·have d:b=q:=Classical.byContradiction λd=>r ⟨h1,d⟩;subst d;exact(a b m j).2⟩
 exact⟨q,h.keep e (λg=>g.1 rfl) (λg=>g.2 rfl),(a p h.lt.1 i).1,(a q h.lt.2 j).1⟩
theorem CenR.loc (p:Option Nat)(c:Option Cls)(ss:Option (List SpA)):Lcl (CenR p c ss):=by
 rintro σ e F G h b d;unfold CenR at *;split
 ·simp only at h;obtain⟨a,h⟩:=h;exact⟨a,CeH.loc _ _ _ _ h b d⟩
 ·trivial
theorem TraR.loc (p:Option Nat)(c:Option Cls)(room:Nat)(t:Option TrA):Lcl (TraR p c room t):=by
 rintro σ d F G h b a;unfold TraR at *;split
 ·exact TfH.loc _ _ _ _ h b a
 ·trivial
theorem AC.loc {A:AR}{Y:Lay}{T:Nat->Hp->Rg->Prop}(hT:∀k,Lcl (T k)):∀i,Lcl (AC A Y T i)
 | .hd=>BlkR.loc _ _
 | .tab=>SlR.loc _ _ _
 | .free=>WeG.loc _ _ _
 | .trk=>TrkR.loc _ _
 | .own=>PmH.loc
 | .crow=>RowR.loc _ _ _
 | .trow=>RowR.loc _ _ _
 | .runs=>MapR.loc _ _ _ _
 | .cen k=>CenR.loc _ _ _
 | .tra k=>hT k
theorem traT.loc {A:AR}{Y:Lay}(k:Nat):Lcl (traT A Y k):=TraR.loc _ _ _ _
structure LayOk (A:AR) (Y:Lay):Prop where
 c:Y.cps.length=A.tb.length
 t:Y.tps.length=A.tb.length
 cen:A.cen.length=A.tb.length
 tra:A.tra.length=A.tb.length
 tb1:1<=A.tb.length
 tb2:A.tb.length<=40
 n1:32<=A.n
 n2:A.n<=1024
 n3:A.n%16=0
 st:A.st.length=A.n
 room:A.room<=8
 ok:∀c∈A.tb,c.ok
structure AHY (σ:Hp) (F:Rg) (Y:Lay) (A:AR) (T:Nat->Hp->Rg->Prop):Prop where
 lay:LayOk A Y
 tl:∀k,Lcl (T k)
 sep:Sep (AC A Y T) σ F
def AH (σ:Hp)(F:Rg)(p hs:Nat)(A:AR):Prop:=∃Y:Lay,Y.p=p/\Y.hs=hs/\AHY σ F Y A (traT A Y)
variable {σ:Hp}{F:Rg}{p hs:Nat}{A:AR}{Y:Lay}{T:Nat->Hp->Rg->Prop}
theorem AHY.loc:Lcl λσ F=>AHY σ F Y A T:=λσ d F G h b a=>⟨h.lay,h.tl,Sep.loc (AC.loc h.tl) _ _ _ _ h.sep b a⟩
theorem AH.loc:Lcl λσ F=>AH σ F p hs A:=λσ e F G ⟨Y,b,a,h⟩ d hs=>⟨Y,b,a,AHY.loc _ _ _ _ h d hs⟩
theorem AHY.keep0 {σ':Hp}(h:AHY σ F Y A T)(e:Ext0 σ σ'):AHY σ' F Y A T:=Lcl.keep0 AHY.loc h e
theorem AHY.hd (h:AHY σ F Y A T):Blk σ Y.p (hdV Y):=by
 obtain⟨G,d,b,a⟩:=h.sep.get .hd;exact a
theorem KA (tb:List Cls):(tabV tb).length=tb.length*3:=by
 induction tb with
 | nil=>rfl
 | cons x l ih=>simp only[tabV,zBB,zK,zP,zAO]at *;omega
theorem HG {tb:List Cls}{i:Nat}{c:Cls}(h:tb[i]?=some c):(tabV tb)[3*i]?=some (.int .i64 (c.size:Int))/\(tabV tb)[3*i+1]?=some (.int .i64 (c.pages:Int))/\(tabV tb)[3*i+2]?=some (.int .i64 (c.batch:Int)):=by
 induction tb generalizing i with
 | nil=>simp at h
 | cons x l ih=>
  have e:tabV (x::l)=[.int .i64 (x.size:Int),.int .i64 (x.pages:Int),.int .i64 (x.batch:Int)]++tabV l:=by simp[tabV]
  rw[e];cases i with
  | zero=>simp at h;subst h;simp
  | succ i=>
   have:=ih (i:=i) (by simpa using h);rw[show 3*(i+1)=3*i+3 by omega];simpa using this
theorem AHY.tabL (h:AHY σ F Y A T):Y.tab.len=A.tb.length:=by
 obtain⟨G,b,a⟩:=h.sep.get .tab;have:=a.1;rw[KA]at this;omega
theorem WaK {s:Sl}{tb:List Cls}(h:SlR s 3 (tabV tb) σ F){k d:Nat}{c:Cls}(hc:tb[k]?=some c)(hd:d<3){K:Int->Prop}(hK:K (if d=0 then c.size else if d=1 then c.pages else c.batch:Nat)) :
 Ix s.a s.len (k:Int) 3 λa=>LdI .i64 (a.add d) σ K:=by
 have g:=HG hc;have j:(tabV tb)[3*k+d]?=some (.int .i64 ((if d=0 then c.size else if d=1 then c.pages else c.batch:Nat):Int)):=by
  match d,hd with
  | 0,_=>exact g.1
  | 1,_=>exact g.2.1
  | 2,_=>exact g.2.2
 have p:=(gSi.1 hc).1;obtain⟨b,o,i,e⟩:=h.cell j;have m:=h.1;rw[KA]at m;rw[i];refine ix O O ?_;rw[add_lit,add_lit];refine ldI ?_ hK;rw[show o+(k:Int).toNat*3+d=o+(3*k+d) by omega];exact e
theorem AHY.tabR (h:AHY σ F Y A T){k d:Nat}{c:Cls}(hc:A.tb[k]?=some c)(hd:d<3){K:Int->Prop}(hK:K (if d=0 then c.size else if d=1 then c.pages else c.batch:Nat)) :
 Ix Y.tab.a Y.tab.len (k:Int) 3 λa=>LdI .i64 (a.add d) σ K:=by
 obtain⟨G,e,b⟩:=h.sep.get .tab;exact WaK b hc hd hK
theorem Wjp {s:Sl}{l:List Nat}(h:SlR s 1 (ptrV l) σ F){k q:Nat}(hq:l[k]?=some q){K:Option Addr->Prop}(hK:K (some ⟨q,0,none⟩)):Ix s.a s.len (k:Int) 1 λa=>LdP a σ K:=by
 have i:=(gSi.1 hq).1;obtain⟨b,o,g,d⟩:=h.cell (j:=k) (v:=.pointer (some ⟨q,0,none⟩)) (by simp[ptrV,hq]);have e:=h.1;simp[ptrV]at e;rw[g];refine ix O O ?_;rw[add_lit];exact ldP (by rw[show o+(k:Int).toNat*1=o+k by omega];exact d) hK
theorem AHY.crowL (h:AHY σ F Y A T):Y.crow.len=A.tb.length:=by
 obtain⟨G,b,a⟩:=h.sep.get .crow;have:=a.1;have:=h.lay.c;simp[ptrV]at *;omega
theorem AHY.trowL (h:AHY σ F Y A T):Y.trow.len=A.tb.length:=by
 obtain⟨G,b,a⟩:=h.sep.get .trow;have:=a.1;have:=h.lay.t;simp[ptrV]at *;omega
theorem AHY.crowR (h:AHY σ F Y A T){k q:Nat}(hq:Y.cps[k]?=some q){K:Option Addr->Prop}(hK:K (some ⟨q,0,none⟩)):Ix Y.crow.a Y.crow.len (k:Int) 1 λa=>LdP a σ K:=by
 obtain⟨G,d,b⟩:=h.sep.get .crow;exact Wjp (RowR.slR b) hq hK
theorem AHY.trowR (h:AHY σ F Y A T){k q:Nat}(hq:Y.tps[k]?=some q){K:Option Addr->Prop}(hK:K (some ⟨q,0,none⟩)):Ix Y.trow.a Y.trow.len (k:Int) 1 λa=>LdP a σ K:=by
 obtain⟨G,d,b⟩:=h.sep.get .trow;exact Wjp (RowR.slR b) hq hK
theorem AHY.at_ (h:AHY σ F Y A T){k:Nat}(hk:k<A.tb.length):∃c ss q t r,A.tb[k]?=some c/\A.cen[k]?=some ss/\Y.cps[k]?=some q/\A.tra[k]?=some t/\Y.tps[k]?=some r/\c.ok:=by
 have a:=h.lay.c;have d:=h.lay.t;have b:=h.lay.cen;have e:=h.lay.tra;exact⟨A.tb[k],A.cen[k],Y.cps[k],A.tra[k],Y.tps[k],by simp,by simp,by simp,by simp,by simp,h.lay.ok _ (zc hk)⟩
theorem Woq {k q:Nat}{c:Cls}{ss:List SpA}{G:Rg}(h1:Y.cps[k]?=some q)(h2:A.tb[k]?=some c)(h3:A.cen[k]?=some ss)(h:AC A Y T (.cen k) σ G):∃ps,CeH σ G q c ps ss:=by
 simp only[AC]at h;rw[h1,h2,h3]at h;exact h
theorem AHY.cen (h:AHY σ F Y A T){k q:Nat}{c:Cls}{ss:List SpA}(h1:Y.cps[k]?=some q)(h2:A.tb[k]?=some c)(h3:A.cen[k]?=some ss):∃G ps,(∀b,G b->F b)/\CeH σ G q c ps ss:=by
 obtain⟨G,a,e⟩:=h.sep.get (.cen k);obtain⟨ps,d⟩:=Woq h1 h2 h3 e;exact⟨G,ps,a,d⟩
theorem KT (h:AHY σ F Y A T){R:aO}(hR:R true σ):WD.c (aW Y.p) σ R:=by
 refine WD.o ?_;unfold WD.v;exact JnB.intro (ifT rfl (nilP (h.hd.rP rfl hR)))
theorem Ul (h:AHY σ F Y A T)(k:Int){R:aN}(h1:A.ck k=false->R 1 σ)(h0:∀x:Nat,k=x->x<A.tb.length->R 0 σ):WZ.c (aW Y.p) k σ R:=by
 refine WZ.o ?_;unfold WZ.v;have g:=h.tabL;have a:¬(0<=k/\k<A.tb.length)->R 1 σ:=λe=>h1 (by unfold AR.ck;rw[←zED];exact zd e);refine KT h (ifF rfl (JnB.intro (ifD (λd=>ifT rfl (a O)) λd=>nilP (h.hd.rS rfl (ifD (λb=>?_) λb=>?_)))))
 ·simp only at b;exact a O
 ·simp only at b;exact h0 k.toNat O O
theorem WmO (h:AHY σ F Y A T)(x:Int){R:aO}(hR:R (UN A x) σ):Y1.c (aW Y.p) x σ R:=by
 refine Y1.o ?_;unfold Y1.v;obtain⟨G,b,q,a,_⟩:=h.sep.get .trk;refine KT h (JnB.intro (ifT rfl (nilP (h.hd.rP rfl (Whf a x ?_)))));have:decide (stI A.st x>0)=UN A x:=by
  unfold stI UN;by_cases hx:0<=x
  ·by_cases hl:x<A.st.length
   ·rw[zB ⟨hx,hl⟩,zW hx,zEI,decide_eq_decide];omega
   ·rw[zA O,zW hx,zEI,zM,zY O];rfl
  ·rw[zA O,zd hx];rfl
 rw[this];exact hR
structure RunsOk (A:AR):Prop where
 dis:∀r∈A.runs,∀s∈A.runs,∀x,r.1<=x->x<r.1+r.2->s.1<=x->x<s.1+s.2->r=s
 big:∀x,x<1024->A.ow x=41->(Wdk A x).isSome=true
 cls:∀x,x<1024->A.ow x≠0->A.ow x≠41->A.ow x<=A.tb.length
 fit:∀r∈A.runs,r.1+r.2<=1024
theorem WcK (h:RunsOk A){x:Nat}{r:Nat×Nat}(hr:r∈A.runs)(h1:r.1<=x)(h2:x<r.1+r.2):Wdk A x=some r:=by
 cases hf:Wdk A x with
 | none=>
  unfold Wdk at hf;rw[zBM]at hf;have:=hf r hr;simp[h1,h2]at this
 | some s=>
  unfold Wdk at hf;have b:=zDF hf;have a:=zDE hf;simp at a;rw[h.dis r hr s b x h1 h2 a.1 a.2]
theorem WmX (h:AHY σ F Y A T)(hr:RunsOk A)(x:Int)(hx:I63 x){R:Int->Int->Int->Hp->Prop}(h1:∀σ' k a,Ext0 σ σ'->UY A x=some (k,a)->R k (a:Int) 0 σ')(h0:∀σ',Ext0 σ σ'->UY A x=none->R 0 0 8 σ') :
 YZ.c (aW Y.p) x σ R:=by
 refine YZ.o ?_;unfold YZ.v;refine KT h (ifF rfl (ifD (λS=>h0 σ (Ext.refl _ _) (by unfold UY;rw[zB S])) λS=>nilP (h.hd.rP rfl (nz aB ?_))));obtain⟨y,rfl⟩:=zk (show 0<=x by omega);have hy:y<=9223372036854775807:=by unfold I63 at hx;omega
 have Q:((y:Int).tdiv 256)=((y/256:Nat):Int):=by rw[YM O];simp
 refine ar (by rw[Q];omega) (by rw[Q];omega) ?_;rw[Q];obtain⟨G,hG,hP⟩:=h.sep.get .own;refine Wob hP _ ?_;have eo:owI A.ow ((y/256:Nat):Int)=if y/256<1024 then A.ow (y/256)else 0:=by
  unfold owI;by_cases hl:y/256<1024
  ·rw[zB O,zB hl];rfl
  ·rw[zA O,zA hl]
 have g:UY A (y:Int)=(let no:=if y/256<1024 then A.ow (y/256)else 0
  if no=0 then none else if no=41 then(Wdk A (y/256)).map λr=>(-1,r.1*256)else
  match A.tb[no-1]?,A.cen[no-1]? with
  | some c,some ss=>(Wb8 c ss (y:Int)).map λa=>(((no-1:Nat):Int),a)
  | _,_=>none):=by
  unfold UY;rw[zA S];rfl
 rw[eo];generalize hno:(if y/256<1024 then A.ow (y/256)else 0)=no at *
 simp only at g;rw[Wg3];refine iff_ (λe0=>h0 σ (Ext.refl _ _) (by rw[g,zB (by simpa using e0)])) λe0=>?_;have C:no≠0:=by simpa using e0
 rw[zA C]at g;have E:y/256<1024:=by
  rcases zAN (y/256) 1024 with h|h
  ·exact h
  ·rw[zA O]at hno;exact absurd hno.symm C
 rw[zB E]at hno;refine Jn.intro ?_;have Z:(((no:Nat):Int)==41)=(no==41):=beqN no 41;rw[Z];refine iff_ (λU=>?_) λU=>?_
 ·have w:no=41:=by simpa using U
  subst w;rw[zB rfl]at g;obtain⟨r,H⟩:=zCB.1 (hr.big _ E hno);have j:=zDF H;have D:=zDE H;simp at D;obtain⟨G,hG,M⟩:=h.sep.get .runs;refine nilP (h.hd.rM rfl ?_);refine rng0 M.2 (λd v=>Ext0 σ v/\(∀z∈d,z∈runI A.runs)/\((r.1:Int),(r.2:Int))∈d) (λv hz e=>⟨e,λz hz=>hz,zC.2 ⟨r,j,rfl⟩⟩) (λv hv=>absurd hv.2.2 aA) ?_;rintro d n z v v' J ⟨e,b,B⟩ hm ho hlt2 hJ;have X:Ext0 σ v':=Ext.fresh e ho.ext λi hi=>by omega
  obtain⟨s,P,hse⟩:=zC.1 (b _ hm);cases hse;have hfit:=hr.fit s P;refine nz aB (ar O O ?_);refine JnB.intro (ifD (λc3=>ar O O (ifD (λc4=>?_) λc4=>?_)) λc3=>ifF rfl ?_)
  ·have V:=WcK hr P (x:=y/256) O O;refine ar O O ?_;have:=h1 v' (-1) (s.1*256) X (by rw[g,V];rfl);simpa using this
  ·refine hJ v' rfl rfl ⟨X,λu hu=>b u (zH.1 hu).1,zH.2 ⟨B,?_⟩⟩;have:¬(r.1:Int)=(s.1:Int):=λe=>by
    have:=WcK hr j D.1 D.2;have e1:r.1=s.1:=by omega
    by_cases h2:r.2=0
    ·omega
    by_cases h3:s.2=0
    ·have:=M.2.nodup;have N:=VV this (zC.2 ⟨r,j,rfl⟩);have K:=VV this (zC.2 ⟨s,P,rfl⟩);rw[e1,K]at N;have:s.2=r.2:=by
      have:(s.2:Int)=(r.2:Int):=Option.some.inj N;omega
     omega
    ·have:=hr.dis r j s P r.1 O O O O;subst this;omega
   simpa using this
  ·refine hJ v' rfl rfl ⟨X,λu hu=>b u (zH.1 hu).1,zH.2 ⟨B,?_⟩⟩;have:¬(r.1:Int)=(s.1:Int):=λe=>by omega
   simpa using this
 ·have w:no≠41:=by simpa using U
  rw[zA w]at g;have hcl:=hr.cls _ E (by rw[hno];exact C) (by rw[hno];exact w);rw[hno]at hcl;obtain⟨c,ss,q,t,r,hc,L,hq,_,_,hok⟩:=h.at_ (k:=no-1) O;obtain⟨G,ps,hG,hC⟩:=h.cen hq hc L;rw[hc,L]at g;simp only at g;refine nilP (h.hd.rS rfl (arN (m:=no-1) O (by have:=h.lay.tb2;omega) (h.crowR hq (Wlq hC _ hx (λa W=>?_) λW=>?_))))
  ·refine ifF rfl (arN (m:=no-1) O (by have:=h.lay.tb2;omega) (h1 σ _ a (Ext.refl _ _) ?_));rw[g,W];rfl
  ·refine ifT rfl (h0 σ (Ext.refl _ _) ?_);rw[g,W];rfl
end Go.Ar
namespace Go.Ar
open Go Go.Vc Go.Proofs
open Go.Bu (Zf QL Zu cnt)
open Classical in
theorem _root_.Go.Vc.Sep.stepD {L:Type}{C:L->Hp->Rg->Prop}{σ:Hp}{F:Rg}(hC:∀i,Lcl (C i))(h:Sep C σ F)(i:L):∃G:Rg,(∀b,G b->F b)/\C i σ G/\(∀j,j≠i->∃H:Rg,(∀b,H b->F b)/\(∀b,H b->¬G b)/\C j σ H)/\∀(σ':Hp) (C':L->Hp->Rg->Prop) (G':Rg),
 (∀j,j≠i->C' j=C j)->Ext G σ σ'->(∀b,G' b->G b\/σ.size<=b)->C' i σ' G'->Lcl (C' i)->Sep C' σ' λb=>F b/\b<σ.size/\¬G b\/G' b:=by
 obtain⟨ρ,h⟩:=h;refine⟨_,λb a=>a.1,h i,λj s=>⟨_,λb a=>a.1,λb m u=>s (m.2.symm.trans u.2),h j⟩,λσ' C' G' s e w y x=>⟨λb=>if G' b then i else ρ b,λj=>?_⟩⟩
 by_cases hji:j=i
 ·subst hji;exact x.mono y λb _ a=>⟨.inr a,zB a⟩
 ·rw[s j hji];refine hC j _ _ _ _ (h j) e.1 λb a p=>?_;have d:¬(F b/\ρ b=i):=λr=>hji (p.2.symm.trans r.2);have g:¬G' b:=λr=>by
   rcases w b r with m|m
   ·exact d m
   ·omega
  exact⟨⟨.inl ⟨p.1,a,d⟩,(zA g).trans p.2⟩,e.2 b a d⟩
variable {σ:Hp}{F:Rg}{p hs:Nat}{A:AR}{Y:Lay}{T:Nat->Hp->Rg->Prop}
theorem AHY.step (h:AHY σ F Y A T)(i:Lb):∃G:Rg,(∀b,G b->F b)/\AC A Y T i σ G/\(∀j,j≠i->∃H:Rg,(∀b,H b->F b)/\(∀b,H b->¬G b)/\AC A Y T j σ H)/\∀(σ':Hp) (A':AR) (Y':Lay) (T':Nat->Hp->Rg->Prop) (G' H:Rg),
 LayOk A' Y'->(∀k,Lcl (T' k))->(∀j,j≠i->AC A' Y' T' j=AC A Y T j)->Ext G σ σ'->(∀b,G' b->G b\/σ.size<=b)->AC A' Y' T' i σ' G'->(∀b,(F b/\b<σ.size/\¬G b\/G' b)->H b)->AHY σ' H Y' A' T':=by
 obtain⟨G,m,s,hd,a⟩:=h.sep.stepD (AC.loc h.tl) i;refine⟨G,m,s,hd,λσ' A' Y' T' G' H r g x e p d w=>⟨r,g,?_⟩⟩;exact(Sep.loc (AC.loc g)).mono (a σ' _ G' x e p d (AC.loc g i)) λb _ u=>w b u
theorem U7 {σ:Hp}{F G G':Rg}(hG:∀b,G b->F b)(hg:∀b,G' b->G b\/σ.size<=b):∀b,(F b/\b<σ.size/\¬G b\/G' b)->Grow F σ b:=λb a=>by
 rcases a with a|a
 ·exact .inl a.1
 ·exact(hg b a).imp (hG b) id
theorem WcC {σ:Hp}{F G G':Rg}(hG:∀b,G b->F b)(hg:∀b,G' b->G b):∀b,(F b/\b<σ.size/\¬G b\/G' b)->F b:=λb a=>by
 rcases a with a|a
 ·exact a.1
 ·exact hG b (hg b a)
theorem WhC {σ:Hp}{F G:Rg}(hG:∀b,G b->F b):∀b,(F b/\b<σ.size/\¬G b\/Cut G σ b)->Cut F σ b:=λb a=>by
 rcases a with a|a
 ·exact⟨a.1,a.2.1⟩
 ·exact⟨hG b a.1,a.2⟩
theorem Woz {ow:Nat->Nat}:∀j,j≠Lb.own->AC {A with ow:=ow} Y T j=AC A Y T j:=by
 intro j hj;cases j<;>first|rfl|exact absurd rfl hj
theorem Wo6 {st:List Nat}:∀j,j≠Lb.trk->AC {A with st:=st} Y T j=AC A Y T j:=by
 intro j hj;cases j<;>first|rfl|exact absurd rfl hj
theorem AC_S {S:Nat->Bool}:∀j,j≠Lb.free->AC {A with S:=S} Y T j=AC A Y T j:=by
 intro j hj;cases j<;>first|rfl|exact absurd rfl hj
theorem Wnc {rs:List (Nat×Nat)}:∀j,j≠Lb.runs->AC {A with runs:=rs} Y T j=AC A Y T j:=by
 intro j hj;cases j<;>first|rfl|exact absurd rfl hj
theorem WoQ {k:Nat}{ss:List SpA}:∀j,j≠Lb.cen k->AC {A with cen:=A.cen.set k ss} Y T j=AC A Y T j:=by
 intro j hj;cases j<;>first|rfl|skip
 rename_i k';have a:k≠k':=λe=>hj (by rw[e]);simp only[AC];rw[zi a]
theorem LayOk.ow {ow:Nat->Nat}(h:LayOk A Y):LayOk {A with ow:=ow} Y:=⟨h.c,h.t,h.cen,h.tra,h.tb1,h.tb2,h.n1,h.n2,h.n3,h.st,h.room,h.ok⟩
theorem LayOk.setS {S:Nat->Bool}(h:LayOk A Y):LayOk {A with S:=S} Y:=⟨h.c,h.t,h.cen,h.tra,h.tb1,h.tb2,h.n1,h.n2,h.n3,h.st,h.room,h.ok⟩
theorem LayOk.setRuns {rs:List (Nat×Nat)}(h:LayOk A Y):LayOk {A with runs:=rs} Y:=⟨h.c,h.t,h.cen,h.tra,h.tb1,h.tb2,h.n1,h.n2,h.n3,h.st,h.room,h.ok⟩
theorem LayOk.setSt {st:List Nat}(h:LayOk A Y)(hl:st.length=A.st.length):LayOk {A with st:=st} Y:=⟨h.c,h.t,h.cen,h.tra,h.tb1,h.tb2,h.n1,h.n2,h.n3,hl.trans h.st,h.room,h.ok⟩
theorem LayOk.setCen {k:Nat}{ss:List SpA}(h:LayOk A Y):LayOk {A with cen:=A.cen.set k ss} Y:=⟨h.c,h.t,by simpa using h.cen,h.tra,h.tb1,h.tb2,h.n1,h.n2,h.n3,h.st,h.room,h.ok⟩
theorem WaT (st:List Nat)(a m:Int)(v:Nat)(fr:List Nat):(VO st a m v fr).length=st.length:=by
 unfold VO;split<;>simp[Ql]
theorem Wlr (st:List Nat)(k:Int):(addT st k).length=st.length:=by
 unfold addT;split<;>simp[Ql]
theorem WkA (st:List Nat)(k:Int):(remT st k).length=st.length:=by
 unfold remT;split<;>simp[Ql]
theorem AHY.Clear (h:AHY σ F Y A T)(a m:Nat)(ha:a<=1000000){R:aN}(hR:∀σ' t,Ext F σ σ'->AHY σ' (Grow F σ) Y {A with ow:=setO A.ow a m 0} T->R t σ'):XT.c (aW Y.op) a m σ R:=by
 obtain⟨G,i,j,_,d⟩:=h.step .own;refine Wia j a m ha λσ' e p=>hR σ' _ (e.sub i) ?_;exact d σ' _ _ T (Grow G σ) _ h.lay.ow h.tl Woz e (λb g=>g) p (U7 i λb g=>g)
theorem AHY.Set (h:AHY σ F Y A T)(a m:Nat)(ha:a<=1000000){no:Nat}(h1:1<=no)(h2:no<=1000){R:aN}(hR:∀σ' t,Ext F σ σ'->AHY σ' (Grow F σ) Y {A with ow:=setO A.ow a m no} T->R t σ'):Ys.c (aW Y.op) a m no σ R:=by
 obtain⟨G,i,j,_,d⟩:=h.step .own;refine Wmt j a m ha h1 h2 λσ' e p=>hR σ' _ (e.sub i) ?_;exact d σ' _ _ T (Grow G σ) _ h.lay.ow h.tl Woz e (λb g=>g) p (U7 i λb g=>g)
theorem AHY.trk (h:AHY σ F Y A T):∃G:Rg,(∀b,G b->F b)/\∃q,TrH σ Y.tr q A.st/\F q/\∀(σ':Hp) (st:List Nat),st.length=A.st.length->Ext (· = q) σ σ'->TrH σ' Y.tr q st->Ext F σ σ'/\AHY σ' F Y {A with st:=st} T:=by
 obtain⟨G,g,⟨q,r,p,i⟩,_,d⟩:=h.step .trk;refine⟨G,g,q,r,g _ i,λσ' st m e j=>⟨e.sub λb a=>by subst a;exact g _ i,?_⟩⟩;exact d σ' _ _ T G _ (h.lay.setSt m) h.tl Wo6 (e.sub λb a=>by subst a;exact i) (λb a=>.inl a) ⟨q,j,p,i⟩ (WcC g λb a=>a)
theorem AHY.Unuse (h:AHY σ F Y A T)(a m:Int){R:aN}(hR:∀σ' t,Ext F σ σ'->AHY σ' F Y {A with st:=VO A.st a m 2 [1]} T->R t σ'):XF.c (aW Y.tr) a m σ R:=by
 obtain⟨G,i,q,g,_,b⟩:=h.trk;refine WlG g a m λσ' e d=>?_;have:=b σ' _ (WaT _ _ _ _ _) e d;exact hR σ' _ this.1 this.2
theorem AHY.Use (h:AHY σ F Y A T)(a m:Int){R:aN}(hR:∀σ' t,Ext F σ σ'->AHY σ' F Y {A with st:=VO A.st a m 1 [2,3]} T->R t σ'):XO.c (aW Y.tr) a m σ R:=by
 obtain⟨G,i,q,g,_,b⟩:=h.trk;refine WnX g a m λσ' e d=>?_;have:=b σ' _ (WaT _ _ _ _ _) e d;exact hR σ' _ this.1 this.2
theorem AHY.Rel (h:AHY σ F Y A T)(a m:Int){R:aN}(hR:∀σ' t,Ext F σ σ'->AHY σ' F Y {A with st:=VO A.st a m 3 [2]} T->R t σ'):Xb.c (aW Y.tr) a m σ R:=by
 obtain⟨G,i,q,g,_,b⟩:=h.trk;refine WeY g a m λσ' e d=>?_;have:=b σ' _ (WaT _ _ _ _ _) e d;exact hR σ' _ this.1 this.2
theorem AHY.AddH (h:AHY σ F Y A T)(k:Int){R:aN}(hR:∀σ' t,Ext F σ σ'->AHY σ' F Y {A with st:=addT A.st k} T->R t σ'):Yn.c (aW Y.tr) k σ R:=by
 obtain⟨G,g,q,d,_,a⟩:=h.trk;refine WnL d k λσ' e b=>?_;have:=a σ' _ (Wlr _ _) e b;exact hR σ' _ this.1 this.2
theorem AHY.RemH (h:AHY σ F Y A T)(k:Int){R:aN}(hR:∀σ' t,Ext F σ σ'->AHY σ' F Y {A with st:=remT A.st k} T->R t σ'):Xo.c (aW Y.tr) k σ R:=by
 obtain⟨G,g,q,d,_,a⟩:=h.trk;refine Wgk d k λσ' e b=>?_;have:=a σ' _ (WkA _ _) e b;exact hR σ' _ this.1 this.2
theorem AHY.free (h:AHY σ F Y A T):∃sb ms,Go.Bu.BH σ Y.fr A.n A.S sb ms/\∀(σ':Hp) (S:Nat->Bool),Ext (· ∈ ms) σ σ'->Go.Bu.BH σ' Y.fr A.n S sb ms->Ext F σ σ'/\AHY σ' F Y {A with S:=S} T:=by
 obtain⟨G,g,⟨sb,ms,p,i⟩,_,d⟩:=h.step .free;have j:∀b,b∈ms->G b:=λb a=>i b (by unfold Go.Bu.fp;simp[a]);refine⟨sb,ms,p,λσ' S e m=>⟨e.sub λb a=>g b (j b a),?_⟩⟩;exact d σ' _ _ T G _ h.lay.setS h.tl AC_S (e.sub j) (λb a=>.inl a) ⟨sb,ms,m,i⟩ (WcC g λb a=>a)
theorem AHY.Give (h:AHY σ F Y A T)(a m:Int){R:aN}(hR:∀σ' t,Ext F σ σ'->AHY σ' F Y {A with S:=QL A.n A.S a m} T->R t σ'):Yg.c (aW Y.fr) a m σ R:=by
 obtain⟨i,j,d,b⟩:=h.free;refine Go.Bu.Give_ok d a m λσ' e g=>?_;have:=b σ' _ e g;exact hR σ' _ this.1 this.2
theorem AHY.TakeRun (h:AHY σ F Y A T)(a m:Int){R:aN}(hR:∀σ' t,Ext F σ σ'->AHY σ' F Y {A with S:=Go.Bu.runS A.n A.S a m} T->R t σ'):XA.c (aW Y.fr) a m σ R:=by
 obtain⟨i,j,d,b⟩:=h.free;refine Go.Bu.TakeRun_ok d a m λσ' e g=>?_;have:=b σ' _ e g;exact hR σ' _ this.1 this.2
theorem AHY.TakeB (h:AHY σ F Y A T)(a m:Int){R:Int->Int->Hp->Prop}(hR:∀σ',Ext F σ σ'->AHY σ' F Y {A with S:=Go.Bu.takeS A.n A.S a m} T->R ((Go.Bu.takeV A.n A.S a m:Nat):Int) (Go.Bu.takeE A.n A.S a m) σ'):XS.c (aW Y.fr) a m σ R:=by
 obtain⟨i,j,d,b⟩:=h.free;refine Go.Bu.Take_ok d a m λσ' e g=>?_;have:=b σ' _ e g;exact hR σ' this.1 this.2
def rV (rs:List (Nat×Nat)):List Value:=rs.flatMap λr=>[.int .i64 (r.1:Int),.int .i64 (r.2:Int)]
theorem WfA (rs:List (Nat×Nat)):(rV rs).length=rs.length*2:=by
 induction rs with
 | nil=>rfl
 | cons x l ih=>simp only[rV,zBB,zK,zP,zAO]at *;omega
theorem WoR {l:List (Nat×Nat)}{i:Nat}{r:Nat×Nat}(h:l[i]?=some r):(rV l)[2*i]?=some (.int .i64 (r.1:Int))/\(rV l)[2*i+1]?=some (.int .i64 (r.2:Int)):=by
 induction l generalizing i with
 | nil=>simp at h
 | cons x l ih=>
  have e:rV (x::l)=[.int .i64 (x.1:Int),.int .i64 (x.2:Int)]++rV l:=by simp[rV]
  rw[e];cases i with
  | zero=>simp at h;subst h;simp
  | succ i=>
   have:=ih (i:=i) (by simpa using h);rw[show 2*(i+1)=2*i+2 by omega];simpa using this
theorem Wji (c:Cls)(l:List Nat):runV c l=rV (l.map λs=>(s,c.pages)):=by
 simp[runV,rV,List.flatMap_map]
theorem WoV {s:Sl}{rs:List (Nat×Nat)}(h:SlR s 2 (rV rs) σ F){i:Nat}{r:Nat×Nat}(hr:rs[i]?=some r){K:Int->Int->Prop}(hK:K (r.1:Int) (r.2:Int)) :
 Ix s.a s.len (i:Int) 2 λa=>LdI .i64 (a.add 0) σ λu=>LdI .i64 (a.add 1) σ λw=>K u w:=by
 have j:=WoR hr;have x:=(gSi.1 hr).1;obtain⟨b,o,g,m⟩:=h.cell j.1;obtain⟨y,o1,d,e⟩:=h.cell j.2;rw[g]at d;cases d;have p:=h.1;rw[WfA]at p;rw[g];refine ix O O ?_;rw[add_lit];refine ldI ?_ (ldI ?_ hK)<;>rw[add_lit]
 ·rw[show o+(i:Int).toNat*2+0=o+2*i by omega];exact m
 ·rw[show o+(i:Int).toNat*2+1=o+(2*i+1) by omega];exact e
theorem AHY.mono {G:Rg}(h:AHY σ F Y A T)(hs:∀b,b<σ.size->F b->G b):AHY σ G Y A T:=Lcl.mono AHY.loc h hs
theorem AHY.cut (h:AHY σ F Y A T):AHY σ (Cut F σ) Y A T:=Lcl.cut AHY.loc h
theorem Wgy (A:AR)(rs:List (Nat×Nat))(r:Nat×Nat):VP A (rs++[r])=V2 (VP A rs) r:=by simp[VP]
theorem We0 (h:AHY σ F Y A T){sl:Sl}{rs:List (Nat×Nat)}{X:Rg}(hs:SlR sl 2 (rV rs) σ X)(hX:∀b,b<σ.size->X b->¬F b)(hl:rs.length<=1000000)(hb:∀r∈rs,r.1<=1000000){R:aP}
 (hR:∀σ',Ext F σ σ'->AHY σ' (Grow F σ) Y (VP A rs) T->R σ'):Xi.c (aW Y.p) sl σ R:=by
 refine Xi.o ?_;unfold Xi.v;have Q:sl.len=rs.length:=by have:=hs.1;rw[WfA]at this;omega
 have B:SlR sl 2 (rV rs) σ (Cut X σ):=aH.cut hs;refine ZS (a:=bN) (λ(t:Int) v=>∃i:Nat,t=(i:Int)/\i<=rs.length/\Ext F σ v/\AHY v (Grow F σ) Y (VP A (rs.take i)) T) (λt _=>rs.length-t.toNat) ⟨0,rfl,O,Ext.refl _ _,by simpa[VP]using h.mono λb _ hb=>.inl hb⟩ ?_;rintro t v ⟨i,rfl,U,e,L⟩;refine ifD (λhlt=>?_) λhge=>?_
 ·have j:i<rs.length:=by omega
  have y:rs[i]?=some rs[i]:=gGe j;have M:=hb _ (zc j);have J:=aH.keep B e λb D y w=>hX b D y.1 w;refine WoV J y ?_;have E:rs.take (i+1)=rs.take i++[rs[i]]:=by rw[zh,y];rfl
  generalize rs[i]=r at *;refine nw (cs:=[.int .i64 0,.int .i64 0]) λv4 hz4 e4 z=>z.s1 aA λv5 o5 b5=>b5.s1 aA λv6 o6 S=>?_;have u:Ext0 v v6:=Ext.fresh (Ext.fresh e4 o5.ext λi U=>O) o6.ext λi U=>by omega
  have x:=L.cut.keep0 u;have P:¬Cut (Grow F σ) v v.size:=λw=>by have:=w.2;omega
  have g:Blk v6 v.size [.int .i64 (r.1:Int),.int .i64 (r.2:Int)]:=S;have z6:v.size<v6.size:=S.lt;refine nilP (x.hd.rP rfl (g.rI rfl (g.rI rfl (x.Clear r.1 r.2 M λv7 t7 Z C=>?_))));have H:=Z.blk g P;have d:=C.mono (G:=λb=>Cut (Grow F σ) v b\/v.size<b) λb _ hb=>by
   rcases hb with hb|hb
   ·exact .inl hb
   ·exact .inr O
  have N:¬(Cut (Grow F σ) v v.size\/v.size<v.size):=λw=>by
   rcases w with h|h
   ·exact P h
   ·omega
  refine nilP (d.hd.rP rfl (H.rI rfl (H.rI rfl (d.Unuse _ _ λv8 t8 V s=>?_))));have W:=V.blk H N;refine nilP (s.hd.rP rfl (W.rI rfl (W.rI rfl (s.Give _ _ λv9 t9 e9 K=>?_))));have sub:∀b,(Cut (Grow F σ) v b\/v.size<b)->Grow F σ b:=λb hb=>by
   rcases hb with hb|hb
   ·exact hb.1
   ·exact .inr (by have:=e.1;omega)
  have ee:Ext F σ v9:=((((e.trans (Ext0.to u)).growT (Z.sub λb hb=>hb.1))).growT (V.sub sub)).growT (e9.sub sub);refine arN (m:=i+1) O O ⟨⟨i+1,rfl,O,ee,?_⟩,O⟩;rw[E,Wgy];exact K.mono λb _ hb=>sub b hb
 ·have:i=rs.length:=by omega
  subst this;rw[zl]at L;exact hR v e L
end Go.Ar
namespace Go.Proofs
open Go.Vc
set_option maxRecDepth 100000
def Xv.h:Hn:=.q .o1 (.q (.q .o3 .aK) (.q .o1 (.q (.q .o5 (.k (.loop [(3,.I)] (.q (.reg (.seq [.it .i64 .p,.op])) (.q (.c .l .l) (.k (.q (.reg (.seq [.it .i64 .p,.op,.op,.op,.op])) (.oq 17)))))))) .aL)))
def Xv.v (a:R2)(b:Hp)(c:aN):Prop:=Xh.c a b λd e=>If (!d) (c 0 e) (bI a 2 e λg=>Rng .i64 .p g e λh i=>W8 [bN] (λj=>j 0 i) λk (l:Int) m=>Nxt .i64 .p h m (c l m) (λn o p=>Ent .i64 .p h p λq r=>bE a 0 p λt=>Ix t.a t.len q 3 λu=>aQ u 0 p λv=>bE r 0 p λx=>bL (v*((x.len:Nat):Int)) λy=>bL (l+y) λz=>k z p))
theorem Xv.o {a b c}(d:Xv.v a b c):Xv.c a b c:=Wa Tryz.func73 (x:=Xv.h) (R0 d)
def Xh.h:Hn:=.q .o1 (.q (.reg (.seq [.op,.op,.op,.grd true 5 (RI.ops 5),.op])) .l)
def Xh.v (a:R2)(b:Hp)(c:aO):Prop:=JnB (λd e=>c d e) λf=>If (!a.isNone) (bI a 2 b λh=>f (!h.isNone) b) (f false b)
theorem Xh.o {a b c}(d:Xh.v a b c):Xh.c a b c:=Wa Tryz.func105 (x:=Xh.h) (R0 d)
def Q1.h:Hn:=.q .o2 (.q (.k (.q .o4 (.c .aL (.q (.reg (.seq [.op,.op,.op,.grd false 2 [.op,.op],.op])) .aJ)))) (.q .o8 .l))
def Q1.v (a:Sl)(b:Int)(c:Hp)(d:Option Addr->Int->Hp->Prop):Prop:=ZG.c a c λe f=>If (!e) (d none 2 f) (JnB (λg h=>If g (d none 1 h) (Wc.c a h λi j=>Nw (.map #[] 0) j λk l=>aV #[.slice i.a i.len i.cap,.I b,.map (some k.block)] 167 l λm n=>d (some m) 0 n)) λo=>If (b<0) (o true f) (o (decide (b>65536)) f))
theorem Q1.o {a b c d}(e:Q1.v a b c d):Q1.c a b c d:=Wa Tryz.func126 (x:=Q1.h) (R0 e)
def Yh.h:Hn:=.q .o2 (.q .o8 (.q (.q .o2 (.c (.q .o3 .l) .l)) (.q (.q .o6 (.c (.q (.q .o9 (.q .o6 (.c .o8 (.o 11)))) .aL) .l)) (.q .o7 (.q .o8 (.q .o10 (.q .o10 (.q .o3 .l))))))))
def Yh.v (a:R2)(b:Int)(c:Hp)(d:Int->Int->Hp->Prop):Prop:=Xs.c a b c λe f g=>If (f != 0) (d 0 f g) (bE e 0 g λi=>If (((i.len:Nat):Int)==0) (bE a 0 g λk=>Ix k.a k.len b 3 λl=>aQ l 2 g λm=>bD e 1 g λo=>If (o<m) (bD e 1 g λq=>bL (q+1) λr=>NilP e λs=>aR s 1 (.I r) g λt=>d 0 4 t) (bD e 1 g λv=>bL (v+m) λw=>NilP e λx=>aR x 1 (.I (if 128<w then 128 else w)) g λy=>d 0 4 y)) (bE e 0 g λaa=>bL (((aa.len:Nat):Int)-1) λab=>bE e 0 g λad=>Ix ad.a ad.len ab 1 λae=>bM ae g λaf=>bE e 0 g λah=>SlcL ah 1 0 ab (ah.cap:Nat) λai=>NilP e λaj=>aR aj 0 (.slice ai.a ai.len ai.cap) g λak=>bD e 2 ak λam=>NilP e λan=>aR an 2 (.I (if ab<am then ab else am)) ak λao=>d af 0 ao))
theorem Yh.o {a b c d}(e:Yh.v a b c d):Yh.c a b c d:=Wa Tryz.func171 (x:=Yh.h) (R0 e)
def Ye.h:Hn:=.q .o2 (.q .o8 (.q (.q .o2 (.c (.q .o3 .l) .l)) (.q (.oq 15) .l)))
def Ye.v (a:R2)(b:Int)(c:Hp)(d:Int->Int->Hp->Prop):Prop:=Xs.c a b c λe f g=>If (f != 0) (d 0 f g) (bD e 1 g λi=>bE a 0 g λk=>Ix k.a k.len b 3 λl=>aQ l 2 g λm=>d (if m<i then m else i) 0 g)
theorem Ye.o {a b c d}(e:Ye.v a b c d):Ye.c a b c d:=Wa Tryz.func173 (x:=Ye.h) (R0 e)
def Yo.h:Hn:=.q .o1 (.q .o8 (.q (.q .o2 .aJ) (.q .o3 (.q .o2 (.q .o4 .l)))))
def Yo.v (a:R2)(b:Int)(c:Sl)(d:Hp)(e:aN):Prop:=Xs.c a b d λf g h=>If (g != 0) (e g h) (WF.c c h λi j=>W3.c i j λk=>W1.c f i k λl m=>e l m)
theorem Yo.o {a b c d e}(f:Yo.v a b c d e):Yo.c a b c d e:=Wa Tryz.func178 (x:=Yo.h) (R0 f)
def YR.h:Hn:=.q .o2 (.q .o8 (.q (.q .o2 (.c (.q .o3 .l) .l)) (.q (.q .o5 (.q .o2 (.c (.q .o3 .l) .l))) (.q (.q (.oq 10) .aJ) (.q .o9 (.sjn [] (.q .o6 (.c .o8 .l)) (.q (.o 11) .l)))))))
def YR.v (a:R2)(b c:Int)(d:Hp)(e:Sl->Int->Hp->Prop):Prop:=Xs.c a b d λf g h=>If (g != 0) (e ⟨none,0,0⟩ g h) (aV #[.I c] 3 h λi j=>W1.c f ⟨some i,1,1⟩ j λk l=>If (k != 0) (e ⟨none,0,0⟩ k l) (bE f 0 l λn=>bD f 1 l λp=>If (((n.len:Nat):Int)<=p) (e ⟨none,0,0⟩ 0 l) (bE a 0 l λr=>Ix r.a r.len b 3 λs=>aQ s 2 l λt=>Jn [] (λu=>bE f 0 u λw=>Xg.c f (if((w.len:Nat):Int)<t then((w.len:Nat):Int)else t) u λx y=>e x 0 y) λz=>bD f 1 l λab=>If (ab<t) (bD f 1 l λad=>bL (ad+1) λae=>NilP f λaf=>aR af 1 (.I ae) l λag=>z ag) (z l))))
theorem YR.o {a b c d e}(f:YR.v a b c d e):YR.c a b c d e:=Wa Tryz.func181 (x:=YR.h) (R0 f)
def Ym.h:Hn:=.q .o1 (.q (.reg (.heldJ false [] [(2,.one .b)] (.take 0 (.all [(1,.take 2 (.split 5 (.tk [3,5,6,7] (.all [(4,.all [(8,.tk [9,10,11] (.done))]),(8,.all [(4,.tk [9,10,11] (.done))])])) (.tk [3,4,5,6,7,8,9,10,11] (.done))))])))) .l)
def Ym.v (a:R2)(b:Hp)(c:aO):Prop:=Jn [.b] (λ(d:Bool) e=>c d e) λf=>Xh.c a b λg h=>If g (NilP a λi=>(Xv.c a h λj k=>aQ i 1 k λl=>f (decide (j>l)) k) ∧ (aQ i 1 h λm=>Xv.c a h λn o=>f (decide (n>m)) o)) (f false h)
theorem Ym.o {a b c}(d:Ym.v a b c):Ym.c a b c:=Wa Tryz.func182 (x:=Ym.h) (R0 d)
def Xc.h:Hn:=.q .o1 (.q .o3 .l)
def Xc.v (a:R2)(b:Hp)(c:Sl->Hp->Prop):Prop:=Xn.c a ⟨221,#[],#[]⟩ b λd e=>c d e
theorem Xc.o {a b c}(d:Xc.v a b c):Xc.c a b c:=Wa Tryz.func183 (x:=Xc.h) (R0 d)
def XR.h:Hn:=.q .o1 (.q .o3 .l)
def XR.v (a:R2)(b:Hp)(c:Sl->Hp->Prop):Prop:=Xn.c a ⟨223,#[],#[]⟩ b λd e=>c d e
theorem XR.o {a b c}(d:XR.v a b c):XR.c a b c:=Wa Tryz.func188 (x:=XR.h) (R0 d)
def Xs.h:Hn:=.q .o2 (.q (.q .o3 .aJ) (.q .o4 (.q (.q .o2 .aJ) (.q .o3 .l))))
def Xs.v (a:R2)(b:Int)(c:Hp)(d:Option Addr->Int->Hp->Prop):Prop:=Xh.c a c λe f=>If (!e) (d none 5 f) (ZC.c a b f λg h=>If g.isNone (d none 1 h) (d g 0 h))
theorem Xs.o {a b c d}(e:Xs.v a b c d):Xs.c a b c d:=Wa Tryz.func211 (x:=Xs.h) (R0 e)
def W1.h:Hn:=.q .o1 (.q (.q .o9 .aK) (.q (.o 11) .aM))
def W1.v (a:R2)(b:Sl)(c:Hp)(d:aN):Prop:=bE a 0 c λf=>bL (((f.len:Nat):Int)+((b.len:Nat):Int)) λg=>If (g>256) (d 6 c) (bE a 0 c λi=>Xk.c i c λj k=>App j 1 8 3 [.I 0] b k λl m=>NilP a λn=>aR n 0 (.slice l.a l.len l.cap) m λo=>d 0 o)
theorem W1.o {a b c d}(e:W1.v a b c d):W1.c a b c d:=Wa Tryz.func218 (x:=W1.h) (R0 e)
def Xg.h:Hn:=.q .o1 (.q .o8 (.q (.o 11) (.q (.reg (.tail 13 (RI.ops 13) [.op])) .aL)))
def Xg.v (a:R2)(b:Int)(c:Hp)(d:Sl->Hp->Prop):Prop:=bE a 0 c λf=>SlcL f 1 0 b (f.cap:Nat) λg=>WF.c g c λh i=>bE a 0 i λk=>SlcL k 1 b (k.len:Nat) (k.cap:Nat) λl=>WF.c l i λm n=>NilP a λo=>aR o 0 (.slice m.a m.len m.cap) n λp=>bD a 2 p λr=>bE a 0 p λt=>NilP a λu=>aR u 2 (.I (if((t.len:Nat):Int)<r then((t.len:Nat):Int)else r)) p λv=>d h v
theorem Xg.o {a b c d}(e:Xg.v a b c d):Xg.c a b c d:=Wa Tryz.func219 (x:=Xg.h) (R0 e)
def Xn.h:Hn:=.q .o1 (.q (.q .o3 .aK) (.q .o1 (.q (.q .o5 (.k (.loop [(5,.one .s)] (.q (.reg (.seq [.it .i64 .p,.op])) (.q (.c .l .l) (.k (.q (.reg (.seq [.it .i64 .p,.op,.op,.op,.op])) (.q (.o 12) (.q .o3 (.c .o7 .l)))))))))) (.q .o2 .aL))))
def Xn.v (a:R2)(b:Fv)(c:Hp)(d:Sl->Hp->Prop):Prop:=Xh.c a c λe f=>If (!e) (d ⟨none,0,0⟩ f) (bI a 2 f λh=>Rng .i64 .p h f λi j=>W8 [.s] (λk=>k ⟨none,0,0⟩ j) λl (m:Sl) n=>Nxt .i64 .p i n (Z0.c m ⟨262,#[],#[]⟩ n λo=>d m o) (λp q r=>Ent .i64 .p i r λs t=>bE a 0 r λv=>Ix v.a v.len s 3 λw=>aQ w 2 r λx=>VK Tryz.prog b [.pointer t,.I x] [.one .s] r λy z=>If (((y.len:Nat):Int)>0) (aV #[.I s,.slice y.a y.len y.cap] 130 z λaa ab=>App m 2 32 130 [.I 0,.slice none 0 0] ⟨some aa,1,1⟩ ab λac ad=>l ac ad) (l m z)))
theorem Xn.o {a b c d}(e:Xn.v a b c d):Xn.c a b c d:=Wa Tryz.func220 (x:=Xn.h) (R0 e)
def XG.h:Hn:=.q .o1 (.q .o9 (.sjn [] (.q .o6 (.c (.o 12) .l)) (.q .o9 .aL)))
def XG.v (a:R2)(b:Int)(c:Hp)(d:Sl->Hp->Prop):Prop:=bD a 2 c λf=>bL (f+1) λg=>Nz 2<|bL (g.tdiv 2) λh=>Xg.c a h c λi j=>Jn [] (λk=>bE a 0 k λm=>NilP a λn=>aR n 2 (.I ((m.len:Nat):Int)) k λo=>d i o) λp=>bD a 1 j λr=>If (r>b) (bD a 1 j λt=>bL (t-b) λu=>NilP a λv=>aR v 1 (.I (if b>u then b else u)) j λw=>p w) (p j)
theorem XG.o {a b c d}(e:XG.v a b c d):XG.c a b c d:=Wa Tryz.func221 (x:=XG.h) (R0 e)
def YH.h:Hn:=.q .o1 (.q .o8 .l)
def YH.v (a:R2)(b:Int)(c:Hp)(d:Sl->Hp->Prop):Prop:=bE a 0 c λf=>Xg.c a ((f.len:Nat):Int) c λg h=>d g h
theorem YH.o {a b c d}(e:YH.v a b c d):YH.c a b c d:=Wa Tryz.func223 (x:=YH.h) (R0 e)
def ZC.h:Hn:=.q .o1 (.q (.q (.reg (.seq [.op,.op,.op,.op,.grd false 2 [.op,.op],.op,.grd false 7 (RI.ops 7)])) .aK) (.sjn [] (.q .o7 (.c .o8 .l)) (.q .o7 .l)))
def ZC.v (a:R2)(b:Int)(c:Hp)(d:Option Addr->Hp->Prop):Prop:=Xh.c a c λe f=>JnB (λg h=>JnB (λi j=>If i (d none j) (Jn [] (λk=>bI a 2 k λm=>Lk .i64 .p m b k λn=>d (n.getD none) k) λo=>NilP a λp=>bB p 2 j λq=>Lk .i64 .p q b j λr=>If ((r.getD none).isNone) (bI a 2 j λt=>aV #[.slice none 0 0,.I 1,.I 0] 170 j λu v=>MSet .i64 .p t b (some u) v λw=>o w) (o j))) λx=>If g (x true h) (bE a 0 h λz=>x (decide (b≥((z.len:Nat):Int))) h)) λaa=>If (!e) (aa true f) (aa (decide (b<0)) f)
theorem ZC.o {a b c d}(e:ZC.v a b c d):ZC.c a b c d:=Wa Tryz.func250 (x:=ZC.h) (R0 e)
end Go.Proofs
namespace Go.Ar
open Go Go.Vc Go.Proofs
theorem SlR.sub {σ:Hp}{F:Rg}{s:Sl}{sz:Nat}{xs:List Value}(h:SlR s sz xs σ F){lo hi mx:Nat}(h1:lo<=hi)(h2:hi<=s.len)(h3:hi<=mx) :
 SlR ⟨if mx=lo then s.a else s.a.map (·.add (lo*sz)),hi-lo,mx-lo⟩ sz ((xs.drop (lo*sz)).take ((hi-lo)*sz)) σ F:=by
 have i:=h.1;have g:hi*sz<=s.len*sz:=zAJ _ h2;have e:(hi-lo)*sz=hi*sz-lo*sz:=Nat.sub_mul _ _ _;have m:lo*sz<=hi*sz:=zAJ _ h1;refine⟨by rw[zO,zq];simp only;omega,?_⟩;by_cases hm:mx=lo
 ·left;have:hi-lo=0:=by omega
  rw[this,zDX,zFS]
 ·rcases h.2 with h0|⟨b,o,cs,hb,ha,hq,hc⟩
  ·left;subst h0;simp
  ·refine .inr ⟨b,o+lo*sz,cs,hb,?_,hq,λj d=>?_⟩
   ·simp only[zA hm,ha,zg,add_lit]
   ·rw[zO,zq]at d;rw[zCF,hc _ O,zX,zn,zB O]
inductive LbC where
 | hd|tab|mp
 | li (k:Nat)
 deriving DecidableEq
structure LayC where
 p:Nat
 m:Nat
 tab:Sl
 ps:List (Nat×Nat)
def lkp (ps:List (Nat×Nat))(k:Nat):Option Nat:=(ps.find? λx=>x.1==k).map (·.2)
def ptI (ps:List (Nat×Nat)):List (Int×Option Addr):=ps.map λx=>((x.1:Int),some ⟨x.2,0,none⟩)
def liV (s:Sl)(l:Li):List Value:=[.slice s.a s.len s.cap,.int .i64 (l.lim:Int),.int .i64 (l.low:Int)]
def LiR (b:Nat)(l:Li):Hp->Rg->Prop:=λσ F=>F b/\LiOk l/\∃s:Sl,Blk σ b (liV s l)/\SlR s 1 (Wv l.os) σ (λq=>F q/\q≠b)/\s.len<=s.cap
def LiK (b:Option Nat)(l:Option Li):Hp->Rg->Prop:=λσ F=>match b,l with
 | some b,some l=>LiR b l σ F
 | none,some l=>l=liN
 | _,none=>True
def hdC (Y:LayC)(bud:Nat):List Value:=[.slice Y.tab.a Y.tab.len Y.tab.cap,.int .i64 (bud:Int),.map (some Y.m)]
def CC (tb:List Cls)(bud:Nat)(ls:List Li)(Y:LayC):LbC->Hp->Rg->Prop
 | .hd=>BlkR Y.p (hdC Y bud)
 | .tab=>SlR Y.tab 3 (tabV tb)
 | .mp=>MapR Y.m .i64 .p (ptI Y.ps)
 | .li k=>LiK (lkp Y.ps k) ls[k]?
theorem LiR.loc (b:Nat)(l:Li):Lcl (LiR b l):=by
 rintro σ y F G ⟨p,m,s,j,x,u⟩ w a;have g:=a b j.lt p;obtain⟨e,r⟩:=j;exact⟨g.1,m,s,⟨e,g.2.trans r⟩,SlR.loc _ _ _ _ _ _ _ x w λq i d=>⟨⟨(a q i d.1).1,d.2⟩,(a q i d.1).2⟩,u⟩
theorem LiK.loc (b:Option Nat)(l:Option Li):Lcl (LiK b l):=by
 intro σ σ' F G h hz hs;unfold LiK at *;split at h
 ·exact LiR.loc _ _ _ _ _ _ h hz hs
 ·exact h
 ·trivial
theorem CC.loc {tb:List Cls}{bud:Nat}{ls:List Li}{Y:LayC}:∀i,Lcl (CC tb bud ls Y i)
 | .hd=>BlkR.loc _ _
 | .tab=>SlR.loc _ _ _
 | .mp=>MapR.loc _ _ _ _
 | .li k=>LiK.loc _ _
structure CaY (σ:Hp) (F:Rg) (Y:LayC) (tb:List Cls) (bud:Nat) (ls:List Li):Prop where
 tb1:tb.length<=40
 ok:∀c∈tb,c.ok
 len:ls.length=tb.length
 keys:∀x∈Y.ps,x.1<tb.length
 sep:Sep (CC tb bud ls Y) σ F
variable {σ:Hp}{F G:Rg}{Y:LayC}{tb:List Cls}{bud:Nat}{ls:List Li}{b k:Nat}{l:Li}
theorem CaY.loc:Lcl λσ F=>CaY σ F Y tb bud ls:=λσ d F G h b a=>⟨h.tb1,h.ok,h.len,h.keys,Sep.loc CC.loc _ _ _ _ h.sep b a⟩
theorem CaY.keep0 {σ':Hp}(h:CaY σ F Y tb bud ls)(e:Ext0 σ σ'):CaY σ' F Y tb bud ls:=Lcl.keep0 CaY.loc h e
theorem CaY.hd (h:CaY σ F Y tb bud ls):Blk σ Y.p (hdC Y bud):=by
 obtain⟨G,b,a⟩:=h.sep.get .hd;exact a.2
theorem CaY.tabS (h:CaY σ F Y tb bud ls):SlR Y.tab 3 (tabV tb) σ F:=by
 obtain⟨G,d,a⟩:=h.sep.get .tab;exact aH.mono a λb _ a=>d b a
theorem CaY.tabL (h:CaY σ F Y tb bud ls):Y.tab.len=tb.length:=by
 have:=h.tabS.1;rw[KA]at this;omega
theorem CaY.map (h:CaY σ F Y tb bud ls):MapL σ Y.m .i64 .p (ptI Y.ps):=by
 obtain⟨G,b,a⟩:=h.sep.get .mp;exact a.2
theorem WeX (ps:List (Nat×Nat))(k:Nat):mget (α:=Option Addr) (ptI ps) (k:Int)=(lkp ps k).map λb=>some ⟨b,0,none⟩:=by
 induction ps with
 | nil=>rfl
 | cons x l ih=>
  simp only[mget,ptI,lkp,zJ,zDR]at *;have e:(((x.1:Nat):Int)==(k:Int))=(x.1==k):=beqN _ _;rw[e];cases x.1==k
  ·exact ih
  ·rfl
theorem Wfa {ps:List (Nat×Nat)}(h:lkp ps k=none):∀x∈ps,x.1≠k:=by
 unfold lkp at h;simp only[zCO,zBM,zZ]at h;exact h
theorem WmZ {ps:List (Nat×Nat)}(h:lkp ps k=none)(b:Nat):mset (α:=Option Addr) (ptI ps) (k:Int) (some ⟨b,0,none⟩)=ptI (ps++[(k,b)]):=by
 unfold mset;rw[zA]
 ·simp[ptI]
 ·simp only[ptI,List.any_map,zw,Function.comp,zZ,not_exists,not_and];intro x hx e;exact Wfa h x hx O
theorem UC {ps:List (Nat×Nat)}(h:lkp ps k=none)(b j:Nat):lkp (ps++[(k,b)]) j=if j=k then some b else lkp ps j:=by
 have a:=Wfa h;unfold lkp at *;rw[List.find?_append];by_cases hj:j=k
 ·subst hj;have:ps.find? (λx=>x.1==j)=none:=by simpa using h
  rw[this];simp
 ·rw[zA hj];cases hf:ps.find? (λx=>x.1==j)with
  | none=>
   have:(k==j)=false:=by simpa using λe=>hj e.symm
   simp[this]
  | some x=>simp
theorem WlP {ps:List (Nat×Nat)}(hn:((ptI ps).map (·.1)).Nodup)(h:(k,b)∈ps):lkp ps k=some b:=by
 induction ps with
 | nil=>simp at h
 | cons x l ih=>
  simp only[ptI,zJ,zo]at hn;unfold lkp;rw[zDR];rcases zQ.1 h with rfl|h
  ·simp
  ·have:(x.1==k)=false:=by
    have:x.1≠k:=λe=>hn.1 (zC.2 ⟨(((k:Nat):Int),some ⟨b,0,none⟩),zC.2 ⟨(k,b),h,rfl⟩,by rw[e]⟩);simpa using this
   rw[this];exact ih hn.2 h
theorem HD (h:CaY σ F Y tb bud ls){R:aO}(hR:R true σ):Xh.c (aW Y.p) σ R:=by
 refine Xh.o ?_;unfold Xh.v;exact JnB.intro (ifT rfl (nilP (h.hd.rM rfl hR)))
theorem CaY.liS (h:CaY σ F Y tb bud ls)(hb:lkp Y.ps k=some b)(hl:ls[k]?=some l):∃G:Rg,(∀q,G q->F q)/\LiR b l σ G/\¬G Y.m ∧
 ∀(σ':Hp) (l':Li) (G':Rg),Ext G σ σ'->(∀q,G' q->Grow G σ q)->LiR b l' σ' G'->Ext F σ σ'/\CaY σ' (λq=>F q/\q<σ.size/\¬G q\/G' q) Y tb bud (ls.set k l'):=by
 have p:=(gSi.1 hl).1;obtain⟨G,s,g,d,a⟩:=h.sep.stepD CC.loc (.li k);have g:LiR b l σ G:=by
  simp only[CC,LiK,hb,hl]at g;exact g
 have i:¬G Y.m:=by
  obtain⟨H,_,hd,r⟩:=d .mp (by intro e;cases e);exact hd _ r.1
 refine⟨G,s,g,i,λσ' l' G' e u w=>⟨e.sub s,h.tb1,h.ok,by rw[zBR];exact h.len,h.keys,?_⟩⟩;refine a σ' (CC tb bud (ls.set k l') Y) G' (λj x=>?_) e u ?_ (CC.loc _)
 ·cases j<;>try rfl
  rename_i m;have i:m≠k:=λe=>x (by rw[e]);simp only[CC,zi (Ne.symm i)]
 ·simp only[CC,LiK,hb,zL p];exact w
theorem CaY.mono (h:CaY σ F Y tb bud ls)(hs:∀q,q<σ.size->F q->G q):CaY σ G Y tb bud ls:=Lcl.mono CaY.loc h hs
theorem CaY.cut (h:CaY σ F Y tb bud ls):CaY σ (Cut F σ) Y tb bud ls:=Lcl.cut CaY.loc h
theorem CaY.upd {v:Hp}(h:CaY v (Grow F σ) Y tb bud ls)(e0:Ext F σ v)(hb:lkp Y.ps k=some b)(hl:ls[k]?=some l):∃G:Rg,LiR b l v G ∧
 ∀(σ':Hp) (l':Li) (G':Rg),Ext G v σ'->(∀q,G' q->Grow G v q)->LiR b l' σ' G'->Ext F σ σ'/\CaY σ' (Grow F σ) Y tb bud (ls.set k l'):=by
 obtain⟨G,j,p,_,d⟩:=h.liS hb hl;refine⟨G,p,λσ' l' G' e i g=>?_⟩;obtain⟨m,r⟩:=d σ' l' G' e i g;refine⟨e0.growT m,r.mono λq _ a=>?_⟩;have:=e0.1;rcases a with a|a
 ·exact a.1
 ·rcases i q a with h2|h2
  ·exact j q h2
  ·exact .inr O
theorem Wot (h:CaY σ F Y tb bud ls)(hk:k<tb.length){R:Option Addr->Hp->Prop}(hR:∀σ' Y' b,Ext F σ σ'->Y'.p=Y.p->lkp Y'.ps k=some b->CaY σ' (Grow F σ) Y' tb bud ls->R (some ⟨b,0,none⟩) σ') :
 ZC.c (aW Y.p) (k:Int) σ R:=by
 refine ZC.o ?_;unfold ZC.v;have J:k<ls.length:=by rw[h.len];exact hk
 have A:ls[k]?=some ls[k]:=gGe J;generalize ls[k]=l at A;have Q:=h.tabL;refine HD h (JnB.intro (ifF rfl ?_));refine JnB.intro (ifDF O (nilP (h.hd.rS rfl ?_)));refine ifDF aC ?_;refine Jn.intro (nilP (h.hd.rM rfl ⟨_,h.map,?_⟩));rw[WeX];cases hf:lkp Y.ps k with
 | some b=>
  refine ifF rfl (nilP (h.hd.rM rfl ⟨_,h.map,?_⟩));rw[WeX,hf];exact hR σ Y b (Ext.refl _ _) rfl hf (h.mono λq _ a=>.inl a)
 | none=>
  refine ifT rfl (nilP (h.hd.rM rfl (nw (cs:=[.slice none 0 0,.int .i64 1,.int .i64 0]) λv U e z=>?_)));obtain⟨G,H,u,S,hd,g,w,s⟩:=h.cut.sep.step2 CC.loc .mp (.li k) (by intro e;cases e);have K:∀q,G q->F q:=λq a=>(u q a).1;have g:MapR Y.m .i64 .p (ptI Y.ps) σ G:=g;have w:l=liN:=by
   simp only[CC,LiK,hf,A]at w;exact w
  have M:=g.2.lt;have B:MapL v Y.m .i64 .p (ptI Y.ps):=e.mapL g.2 id;refine⟨Y.m,_,rfl,B,λv2 E r=>?_⟩;rw[WmZ hf]at r;have N:Ext F σ v2:=(Ext0.to e).only E (.inl (K _ g.1));have y:Ext (λq=>G q\/H q) σ v2:=(Ext0.to e).only E (.inl (.inl g.1));have C:Blk v2 σ.size [.slice none 0 0,.int .i64 1,.int .i64 0]:=Ws E z O;have d:CaY v2 (Grow F σ) {Y with ps:=Y.ps++[(k,σ.size)]} tb bud ls:=by
   refine⟨h.tb1,h.ok,h.len,λx i=>?_,?_⟩
   ·rcases zR.1 i with i|i
    ·exact h.keys x i
    ·simp only[zV]at i;subst i;exact hk
   refine(Sep.loc CC.loc).mono (s v2 (CC tb bud ls {Y with ps:=Y.ps++[(k,σ.size)]}) G (· = σ.size) (λj D L=>?_) y (λq a=>.inl (.inl a)) (λq a=>.inr O) (λq D L=>?_) ⟨g.1,r⟩ ?_ CC.loc) λq _ a=>?_
   ·cases j<;>first|rfl|exact absurd rfl D|skip
    rename_i m;have P:m≠k:=λe=>L (by rw[e]);simp only[CC,UC hf,zA P]
   ·have:=(u q D).2;omega
   ·simp only[CC,UC hf,zS,A,w,LiK];exact⟨rfl,LiOk.nil,⟨none,0,0⟩,C,SlR.nil _ _ _ _,zD _⟩
   ·rcases a with a|a|a
    ·exact .inl a.1.1
    ·exact .inl (K q a)
    ·exact .inr O
  refine nilP (d.hd.rM rfl ⟨_,d.map,?_⟩);rw[WeX,UC hf,zB rfl];exact hR v2 {Y with ps:=Y.ps++[(k,σ.size)]} σ.size N rfl (by show lkp (Y.ps++[(k,σ.size)]) k=_;rw[UC hf,zB rfl]) d
theorem Wac (h:CaY σ F Y tb bud ls)(hk:k<tb.length){R:Option Addr->Int->Hp->Prop}(hR:∀σ' Y' b,Ext F σ σ'->Y'.p=Y.p->lkp Y'.ps k=some b->CaY σ' (Grow F σ) Y' tb bud ls->R (some ⟨b,0,none⟩) 0 σ') :
 Xs.c (aW Y.p) (k:Int) σ R:=by
 refine Xs.o ?_;unfold Xs.v;exact HD h (ifF rfl (Wot h hk λσ' Y' b e d g a=>ifF rfl (hR σ' Y' b e d g a)))
theorem RowR.capO {s:Sl}{sz:Nat}{xs:List Value}(h:RowR s sz xs σ F):s.len<=s.cap:=by
 rcases h.2 with⟨q1,q2⟩|⟨_,_,_,_,_,q,_⟩
 ·omega
 ·exact q
theorem Ge (h:LiR b l σ G){m:Nat}(hm:m<=l.os.length){R:Sl->Hp->Prop}
 (hR:∀s z σ',Ext (· = b) σ σ'->σ.size<=z->RowR s 1 (Wv (l.os.take m)) σ' (λq=>σ.size<=q/\q<z)->LiR b (oldL m l).2 σ' (λq=>q=b\/z<=q)->R s σ') :
 Xg.c (aW b) (m:Int) σ R:=by
 refine Xg.o ?_;unfold Xg.v;obtain⟨Y,e,s,H,K,Z⟩:=h;have X:s.len=l.os.length:=by have:=K.1;simp[Wv]at this;omega
 have E:=e.many;have M:=e.low;have w:=SlR.sub K (lo:=0) (hi:=m) (mx:=s.cap) O O O;have S:((Wv l.os).drop (0*1)).take ((m-0)*1)=Wv (l.os.take m):=by simp[Wv]
 rw[S]at w;refine nilP (H.rS rfl (slc (lo:=0) O aC aC (Hq w K0 aC λs1 L P y B=>?_)));have j:=y.blk H id;have C:=aH.keep0 K y;have u:=SlR.sub C (lo:=m) (hi:=s.len) (mx:=s.cap) O O O;have N:((Wv l.os).drop (m*1)).take ((s.len-m)*1)=Wv (l.os.drop m):=by
  rw[zAZ (by simp[Wv];omega)];simp[Wv]
 rw[N]at u;refine nilP (j.rS rfl (slc aC aC aC (Hq u K0 aC λx W F J i=>?_)));have D:=J.blk j id;refine nilP (D.s1 (by simp[liV]) λv3 o3 d=>nilP (d.rI rfl (nilP (d.rS rfl (nilP (d.s1 (by simp[liV]) λv4 o4 g=>?_))))));have a:Ext (· = b) W v4:=o3.ext.trans o4.ext;have Q:=H.lt;have A:=y.1;have p:x.len=l.os.length-m:=by rw[F];simp only;omega
 refine hR s1 L.size v4 ((Ext0.to (y.trans J)).trans a) A ?_ ⟨.inl rfl,Wb4 e,x,?_,?_,RowR.capO i⟩
 ·refine aI.keep (aI.keep0 (aI.mono B (G:=λq=>σ.size<=q/\q<L.size) λq r U=>⟨U,r⟩) J) a λq _ r V=>by omega
 ·have:(if((x.len:Nat):Int)<(l.low:Int)then((x.len:Nat):Int)else(l.low:Int))=((min l.low (l.os.length-m):Nat):Int):=by rw[p];split<;>omega
  rw[this]at g;exact g
 ·refine aH.mono (aH.keep i.slR a λq _ r V=>O) λq _ r=>⟨.inr r,O⟩
theorem WnK (h:LiR b l σ G){sl:Sl}{xs:List Int}{X:Rg}(hs:SlR sl 1 (Wv xs) σ X)(hx:xs≠[])(hfit:l.os.length+xs.length<=256){R:aN}
 (hR:∀σ',Ext (· = b) σ σ'->LiR b (addL xs l) σ' (λq=>q=b\/σ.size<=q)->R 0 σ'):W1.c (aW b) sl σ R:=by
 refine W1.o ?_;unfold W1.v;obtain⟨H,u,s,g,d,J⟩:=h;have C:s.len=l.os.length:=by have:=d.1;simp[Wv]at this;omega
 have D:sl.len=xs.length:=by have:=hs.1;simp[Wv]at this;omega
 have x:=zCG.2 hx;have z:addL xs l = {l with os:=l.os++xs}:=by unfold addL;rw[zA O]
 refine nilP (g.rS rfl (arN (m:=l.os.length+xs.length) aC O (ifDF O (nilP (g.rS rfl ?_)))));refine Xk.o ?_;unfold Xk.v;refine slc (lo:=0) aC aC aC ?_;have A:=g.lt;refine⟨Wv l.os,Wv xs,by simp[Wv];omega,by simp[Wv];omega,?_,hs.rd,K0,?_,by simp only;omega,λp=>by simp only at p;omega,λy c w=>?_⟩
 ·by_cases h0:s.len=0
  ·have:l.os=[]:=zFT.1 O;rw[this];simp only[h0,zS];cases s.a<;>simp[Rd,Wv]
  ·simp only[zA h0,zDX];have:=d.rd;cases ha:s.a with
   | none=>rw[ha]at this;simpa[Rd]using this
   | some a=>rw[ha]at this;simpa[Rd,Addr.add_zero']using this
 ·simp only;have:(s.len-0+sl.len)*8<=256*8:=zAF O O;omega
 ·refine nw λv K e i=>nilP ((e.blk g id).s1 (by simp[liV]) λB o2 r=>?_);have E:l.os.length+xs.length<=c:=by simp only at w;omega
  refine hR B ((Ext0.to e).trans o2.ext) ?_;rw[z];have:=Wb9 (xs:=xs) u;rw[z]at this;refine⟨.inl rfl,this,⟨some ⟨σ.size,0,none⟩,s.len-0+sl.len,c⟩,r,⟨by simp[Wv];omega,.inr ⟨σ.size,0,_,⟨.inr (zD _),O⟩,rfl,(Ws o2 i O).q,λj F=>?_⟩⟩,by simp only;omega⟩;simp only[Wv,za,zK]at F;rw[zG,zz,←zz,ze (by simp[Wv];omega)];simp[Wv]
theorem WkI (h:LiR b l σ G){sl:Sl}{xs:List Int}{X:Rg}(hs:SlR sl 1 (Wv xs) σ X)(hfit:¬l.os.length+xs.length<=256)(hxs:xs.length<=1000000){R:aN}
 (hR:R 6 σ):W1.c (aW b) sl σ R:=by
 refine W1.o ?_;unfold W1.v;obtain⟨j,a,s,g,d,p⟩:=h;have i:s.len=l.os.length:=by have:=d.1;simp[Wv]at this;omega
 have e:sl.len=xs.length:=by have:=hs.1;simp[Wv]at this;omega
 have:=a.many;exact nilP (g.rS rfl (arN (m:=l.os.length+xs.length) aC O (ifDT O hR)))
end Go.Ar
namespace Go.Ar
open Go Go.Vc Go.Proofs
variable {σ:Hp}{F G:Rg}{Y:LayC}{tb:List Cls}{bud:Nat}{ls:List Li}{b k:Nat}{l:Li}{c:Cls}
theorem CaY.cls (h:CaY σ F Y tb bud ls)(hc:tb[k]?=some c):c.ok/\k<tb.length:=⟨h.ok c (zE hc),(gSi.1 hc).1⟩
theorem LiR.st {v:Hp}(h:LiR b l σ G){s:Sl}{l':Li}(ho:Ext (· = b) σ v)(hb:Blk v b (liV s l'))(hs:SlR s 1 (Wv l'.os) σ (λq=>G q/\q≠b))(hc:s.len<=s.cap)(ok:LiOk l'):LiR b l' v G:=
 ⟨h.1,ok,s,hb,aH.keep hs ho λq _ d a=>d.2 a,hc⟩
theorem Take_ok (h:CaY σ F Y tb bud ls)(hc:tb[k]?=some c)(hl:ls[k]?=some l){R:Int->Int->Hp->Prop}
 (hR:∀σ' Y',Ext F σ σ'->Y'.p=Y.p->CaY σ' (Grow F σ) Y' tb bud (ls.set k (Ka c l).2)->R ((Ka c l).1.getD 0) (if(Ka c l).1.isSome then 0 else 4) σ'):Yh.c (aW Y.p) (k:Int) σ R:=by
 obtain⟨w,hk⟩:=h.cls hc;refine Yh.o ?_;unfold Yh.v;refine Wac h hk λv Y' b e hp hb V=>ifF rfl ?_;obtain⟨G,hL,N⟩:=V.upd e hb hl;have y:=hL;obtain⟨Z,i,s,g,K,r⟩:=hL;have H:=V.hd;rw[hp]at H;have U:s.len=l.os.length:=by have:=K.1;simp[Wv]at this;omega
 have o1:=i.low;have o2:=i.many;have o3:=i.lim;have o4:=i.lim1;have a:=WfF w i;have fin:∀v' G',Ext G v v'->(∀q,G' q->Grow G v q)->LiR b (Ka c l).2 v' G'->R ((Ka c l).1.getD 0) (if(Ka c l).1.isSome then 0 else 4) v':=λv' G' Q hg X=>by
  obtain⟨A,h2⟩:=N v' _ G' Q hg X;exact hR v' Y' A hp h2
 unfold Cls.ok at w;have z:∀{v':Hp},Ext (· = b) v v'->Ext G v v':=λQ=>Q.sub λq C=>by rw[C];exact Z
 refine nilP (g.rS rfl ?_);by_cases h0:l.os=[]
 ·have P:(Ka c l).1=none:=by unfold Ka;rw[h0];rfl
  have A:(Ka c l).2=if l.lim<c.batch then{l with lim:=l.lim+1}else{l with lim:=min (l.lim+c.batch) 128}:=by unfold Ka;rw[h0];rfl
  rw[P,A]at fin;rw[A]at a;refine ifT (by simp[U,h0]) (nilP (H.rS rfl (WaK V.tabS hc (d:=2) O ?_)));simp only[zA (show ¬(2=0) by omega),zA (show ¬(2=1) by omega)];refine nilP (g.rI rfl (ifD (λc1=>?_) λc1=>?_))
  ·have B:l.lim<c.batch:=by omega
   rw[zB B]at fin a;refine nilP (g.rI rfl (arN (m:=l.lim+1) O O (nilP (g.s1 (by simp[liV]) λv' J j=>?_))));exact fin v' G (z J.ext) (λq C=>.inl C) (y.st J.ext j K r a)
  ·have B:¬l.lim<c.batch:=by omega
   rw[zA B]at fin a;refine nilP (g.rI rfl (arN (m:=l.lim+c.batch) O O (nilP (g.s1 (by simp[liV]) λv' J j=>?_))));refine fin v' G (z J.ext) (λq C=>.inl C) (y.st J.ext ?_ K r a);have:(if(128:Int)<((l.lim+c.batch:Nat):Int)then(128:Int)else((l.lim+c.batch:Nat):Int))=((min (l.lim+c.batch) 128:Nat):Int):=by split<;>omega
   rw[this]at j;exact j
 ·have aa:=zCG.2 h0;obtain⟨x,hx⟩:∃x,l.os[l.os.length-1]?=some x:=⟨_,gGe O⟩;have D:l.os.getLast?=some x:=by rw[List.getLast?_eq_getElem?];exact hx
  have P:(Ka c l).1=some x:=by unfold Ka;rw[D]
  have A:(Ka c l).2 = {l with os:=l.os.dropLast,low:=min l.low (l.os.length-1)}:=by unfold Ka;rw[D]
  rw[P,A]at fin;rw[A]at a;refine ifF (by simp only[zBC];omega) ?_;refine nilP (g.rS rfl (arN (m:=l.os.length-1) aC O (nilP (g.rS rfl (K.ixI hx (nilP (g.rS rfl ?_)))))));have u:=SlR.sub K (lo:=0) (hi:=l.os.length-1) (mx:=s.cap) O O O;have ed:((Wv l.os).drop (0*1)).take ((l.os.length-1-0)*1)=Wv l.os.dropLast:=by simp[Wv,zFQ]
  rw[ed]at u;refine slc (lo:=0) O aC aC (nilP (g.s1 (by simp[liV]) λv1 S L=>nilP (L.rI rfl (nilP (L.s1 (by simp[liV]) λv2 W E=>?_)))));have M:=S.ext.trans W.ext;refine fin v2 G (z M) (λq C=>.inl C) (y.st M ?_ u aC a);have:(if((l.os.length-1:Nat):Int)<(l.low:Int)then((l.os.length-1:Nat):Int)else(l.low:Int))=((min l.low (l.os.length-1):Nat):Int):=by split<;>omega
  rw[this]at E;exact E
theorem WmA (h:CaY σ F Y tb bud ls)(hc:tb[k]?=some c)(hl:ls[k]?=some l){R:Int->Int->Hp->Prop}
 (hR:∀σ' Y',Ext F σ σ'->Y'.p=Y.p->CaY σ' (Grow F σ) Y' tb bud ls->R ((Wav c l:Nat):Int) 0 σ'):Ye.c (aW Y.p) (k:Int) σ R:=by
 obtain⟨u,y⟩:=h.cls hc;refine Ye.o ?_;unfold Ye.v;refine Wac h y λv Y' b e j A g=>ifF rfl ?_;obtain⟨G,x,m⟩:=g.upd e A hl;obtain⟨z,w,s,i,B,r⟩:=x;have a:=g.hd;rw[j]at a;refine nilP (i.rI rfl (nilP (a.rS rfl (WaK g.tabS hc (d:=2) O ?_))));simp only[zA (show ¬(2=0) by omega),zA (show ¬(2=1) by omega)];have:(if(c.batch:Int)<(l.lim:Int)then(c.batch:Int)else(l.lim:Int))=((Wav c l:Nat):Int):=by unfold Wav;split<;>omega
 rw[this];exact hR v Y' e j g
theorem WnE (l:List Int)(i:Nat)(h:i<l.length):l.reverse[i]?=l[l.length-1-i]? := by
 rw[List.getElem?_reverse h]
theorem Wge {s:Sl}{xs:List Int}(h:RowR s 1 (Wv xs) σ F)(hlen:xs.length<=1000000){R:aP}(hR:∀σ',Ext F σ σ'->RowR s 1 (Wv xs.reverse) σ' F->R σ'):W3.c s σ R:=by
 refine W3.o ?_;unfold W3.v;have P:s.len=xs.length:=by have:=h.1;simp[Wv]at this;omega
 let mid (i:Nat):List Int:=(List.range xs.length).map λj=>if j<i\/xs.length-i<=j then xs.getD (xs.length-1-j) 0 else xs.getD j 0
 have mlen:∀i,(mid i).length=xs.length:=λi=>by simp[mid]
 have mget:∀i j,j<xs.length->(mid i)[j]?=some (if j<i\/xs.length-i<=j then xs.getD (xs.length-1-j) 0 else xs.getD j 0):=λi j g=>by simp[mid,g]
 have N:mid 0=xs:=by
  apply zu;intro j;by_cases g:j<xs.length
  ·rw[mget 0 j g,zA O];simp[zM,gGe g]
  ·rw[zY (by rw[mlen];omega),zY O]
 have y:∀i,xs.length<=2*i+1->i<=xs.length->mid i=xs.reverse:=by
  intro i K H;apply zu;intro j;by_cases g:j<xs.length
  ·rw[mget i j g,WnE xs j g,zM,zM,gGe (show xs.length-1-j<xs.length by omega),gGe g];split
   ·rfl
   ·have:xs.length-1-j=j:=by omega
    simp only[this];rfl
  ·rw[zY (by rw[mlen];omega),zY aE]
 have step:∀i,2*i+1<xs.length->((mid i).set i (xs.getD (xs.length-1-i) 0)).set (xs.length-1-i) (xs.getD i 0)=mid (i+1):=by
  intro i hi;apply zu;intro j;by_cases g:j<xs.length
  ·rw[mget (i+1) j g,zBH,zBH];simp only[zBR,mlen];by_cases B:xs.length-1-i=j
   ·subst B;rw[zB rfl,zB O,zB O]
    congr 2;omega
   ·rw[zA B];by_cases A:i=j
    ·subst A;rw[zB rfl,zB O,zB O]
    ·rw[zA A,mget i j g];by_cases e3:j<i\/xs.length-i<=j
     ·rw[zB e3,zB O]
     ·rw[zA e3,zA O]
  ·rw[zY (by simp[mlen];omega),zY (by rw[mlen];omega)]
 refine arW ?_;rw[UG O O];refine Ko (a:=bN) (bb:=bN) (λ(i j:Int) v=>∃n:Nat,i=(n:Int)/\j=(xs.length:Int)-1-n/\n<=xs.length/\Ext F σ v/\RowR s 1 (Wv (mid n)) v F) (λi _ _=>xs.length-i.toNat) ⟨0,rfl,O,O,Ext.refl _ _,by rw[N];exact h⟩ ?_;rintro i j v ⟨n,rfl,rfl,W,ev,z⟩;refine ifD (λS=>?_) λU=>?_
 ·have r:2*n+1<xs.length:=by omega
  have G:(xs.length:Int)-1-n=((xs.length-1-n:Nat):Int):=by omega
  rw[G];have E:=mget n (xs.length-1-n) O;have D:=mget n n O;rw[zA O]at E D;rw[zM]at E D;obtain⟨b,p⟩:∃b,s.a=some ⟨b,0,none⟩:=by
   rcases z.2 with⟨q1,q2⟩|⟨b,cs,_,C,_⟩
   ·omega
   ·exact⟨b,C⟩
  have e:∀u,RowR s 1 (Wv (mid n)) u F->∀(j:Nat) (x:Int),(mid n)[j]?=some x->cell u (Addr.add ⟨b,0,none⟩ ((j:Int).toNat*1))=some (.int .i64 x):=λu w j x Q=>by
   obtain⟨L,o,C,M⟩:=w.slR.cell (j:=j) (v:=.int .i64 x) (by simp[Wv,Q]);rw[p]at C;cases C;rw[add_lit,show 0+(j:Int).toNat*1=0+j by omega];exact M
  rw[p];refine⟨λu=>RowR s 1 (Wv (mid n)) u F,z,?_⟩;refine ix O O ⟨_,λu w=>e u w _ _ E,?_⟩;refine ix O O ⟨_,λu w=>e u w _ _ D,?_⟩;refine ix O O ?_;refine z.st (j:=n) (by simp[Wv,mlen];omega) (λL d=>by rw[p]at d;cases d;rw[add_lit];simp) λV B K=>?_;refine ix O O ?_;refine K.st (j:=xs.length-1-n) (by simp[Wv,mlen];omega) (λL d=>by rw[p]at d;cases d;rw[add_lit];simp) λX A H=>?_;refine arN (m:=n+1) O O (arN (m:=xs.length-1-n-1) O O ⟨⟨n+1,rfl,O,O,(ev.trans B).trans A,?_⟩,O⟩);rw[←step n r,zM,zM];have J:∀(l:List Int) (i:Nat) (x:Int),Wv (l.set i x)=(Wv l).set i (.int .i64 x):=λl i x=>by simp[Wv,zDJ]
  rw[J,J];exact H
 ·rw[y n O O]at z;exact hR v ev z
theorem Wkq (h:LiR b l σ G){sl:Sl}(hz:sl.len=0){R:aN}(hR:∀σ',Ext (· = b) σ σ'->LiR b l σ' G->R 0 σ'):W1.c (aW b) sl σ R:=by
 refine W1.o ?_;unfold W1.v;have B:=h;obtain⟨D,g,s,z,i,E⟩:=h;have x:s.len=l.os.length:=by have:=i.1;simp[Wv]at this;omega
 have u:=g.many;refine nilP (z.rS rfl (arN (m:=l.os.length) aC O (ifDF O (nilP (z.rS rfl ?_)))));refine Xk.o ?_;unfold Xk.v;refine slc (lo:=0) aC aC aC ?_;have d:=SlR.sub i (lo:=0) (hi:=s.len) (mx:=s.len) O O O;have C:((Wv l.os).drop (0*1)).take ((s.len-0)*1)=Wv l.os:=by rw[x,zAZ (by simp[Wv])];simp
 rw[C]at d;have key:∀(e:Sl),SlR e 1 (Wv l.os) σ (λq=>G q/\q≠b)->e.len<=e.cap->NilP (some ⟨b,0,none⟩) λw=>St1 (w.add 0) (.slice e.a e.len e.cap) σ λv2=>R 0 v2:=λe p y=>by
  refine nilP (z.s1 (by simp[liV]) λv2 o2 r=>hR v2 o2.ext ?_);exact B.st (l':=l) (s:=e) o2.ext r p y g
 refine⟨Wv l.os,[],by simp[Wv];omega,by simp[hz],d.rd,by cases sl.a<;>simp[Rd],by simp,?_,by simp only;omega,λA=>?_,λj=>absurd (by simp only[hz];omega) j⟩
 ·simp only[hz];have:(s.len-0+0)*8<=256*8:=zAF O O;omega
 ·simp only[hz,zp];cases ha:(if s.len=0 then s.a else s.a.map (·.add (0*1)))
  ·rw[ha]at d;exact key ⟨none,s.len-0,s.len-0⟩ d (zD _)
  ·rw[ha]at d;exact key ⟨some _,s.len-0,s.len-0⟩ d (zD _)
theorem WfU (h:LiR b l σ G){sl:Sl}{xs:List Int}{X:Rg}(hs:SlR sl 1 (Wv xs) σ X)(hfit:l.os.length+xs.length<=256){R:aN}
 (hR:∀σ',Ext (· = b) σ σ'->LiR b (addL xs l) σ' (Grow G σ)->R 0 σ'):W1.c (aW b) sl σ R:=by
 by_cases hx:xs=[]
 ·subst hx;have g:addL [] l=l:=by unfold addL;rw[zA (by simp only[zAO]at hfit ⊢;omega)];simp
  refine Wkq h (by have:=hs.1;simp[Wv]at this;omega) λσ' e d=>hR σ' e ?_;rw[g];exact(LiR.loc _ _).mono d λq _ a=>.inl a
 ·exact WnK h hs hx hfit λσ' e d=>hR σ' e ((LiR.loc _ _).mono d λq _ a=>a.imp (λe=>by rw[e];exact h.1) id)
theorem WmP (h:CaY σ F Y tb bud ls)(hc:tb[k]?=some c)(hl:ls[k]?=some l){sl:Sl}{xs:List Int}{X:Rg}(hs:SlR sl 1 (Wv xs) σ X)(hX:∀q,X q->¬F q)(hfit:l.os.length+xs.length<=256){R:aN}
 (hR:∀σ' Y',Ext F σ σ'->Y'.p=Y.p->CaY σ' (Grow F σ) Y' tb bud (ls.set k (addL xs.reverse l))->R 0 σ'):Yo.c (aW Y.p) (k:Int) sl σ R:=by
 obtain⟨u,z⟩:=h.cls hc;have D:sl.len=xs.length:=by have:=hs.1;simp[Wv]at this;omega
 refine Yo.o ?_;unfold Yo.v;refine Wac h z λv Y' b e y J H=>ifF rfl ?_;have r:=aH.keep hs e λq _ a=>hX q a;refine Hq r K0 O λs1 K x E j=>?_;refine Wge j O λv2 w i=>?_;have g:Ext0 v v2:=Ext.fresh E w λq a=>a;obtain⟨G,s,d⟩:=(H.keep0 g).upd (e.trans (Ext0.to g)) J hl;refine WfU s i.slR aE λv3 A m=>?_;obtain⟨C,B⟩:=d v3 _ _ (A.sub λq a=>a▸s.1) (λq a=>a) m;exact hR v3 Y' C y B
theorem Qj {α:Type}{ls:List α}{k:Nat}{l:α}(h:ls[k]?=some l):ls.set k l=ls:=by
 apply zu;intro j;by_cases hj:j=k
 ·subst hj;rw[zL (gSi.1 h).1,h]
 ·rw[zi (Ne.symm hj)]
theorem Wos (h:CaY σ F Y tb bud ls)(hc:tb[k]?=some c)(hl:ls[k]?=some l)(x:Int){R:Sl->Int->Hp->Prop}
 (hR:∀σ' Y' s e (Q:Rg),Ext F σ σ'->Y'.p=Y.p->(l.os.length+1<=256->e=0)->(∀q,Q q->σ.size<=q)->RowR s 1 (Wv (putL c x l).1) σ' Q->CaY σ' (λq=>Grow F σ q/\¬Q q) Y' tb bud (ls.set k (putL c x l).2)->R s e σ'):YR.c (aW Y.p) (k:Int) x σ R:=by
 obtain⟨Z,hk⟩:=h.cls hc;refine YR.o ?_;unfold YR.v;refine Wac h hk λv Y' b e hp hb h'=>ifF rfl ?_;have hσv:=e.1;obtain⟨G,hG,hL,_,U⟩:=h'.liS hb hl;have hblt:b<v.size:=by obtain⟨_,_,s,hbk,_⟩:=hL;exact hbk.lt
 have u:=hL.1;have S:=hL.2.1;have hmany:=S.many;have r:∀(σ':Hp) (l':Li) (G':Rg),Ext G v σ'->(∀q,G' q->Grow G v q)->LiR b l' σ' G'->Ext F σ σ'/\CaY σ' (λq=>Grow F σ q/\q<v.size/\¬G q\/G' q) Y' tb bud (ls.set k l'):=λσ' l' G' e' hg hL'=>by
  obtain⟨H,h1⟩:=U σ' l' G' e' hg hL';exact⟨e.growT H,h1⟩
 have hin:∀{G':Rg} {q:Nat},(∀q,G' q->Grow G v q)->(Grow F σ q/\q<v.size/\¬G q\/G' q)->Grow F σ q:=λhg a=>by
  rcases a with a|a
  ·exact a.1
  ·rcases hg _ a with E|E
   ·exact hG _ E
   ·exact .inr O
 refine nw (cs:=[.int .i64 x]) λv1 hz1 H hb1=>?_;have W:=(LiR.loc _ _).keep0 hL H;have M:SlR ⟨some ⟨v.size,0,none⟩,1,1⟩ 1 (Wv [x]) v1 (· = v.size):=hb1.slR (o:=0) rfl (by simp[Wv]) (λj hj=>by
  simp only[Wv,zJ,zCC,zP,zAO]at hj ⊢;rw[zG])
 by_cases hfit:l.os.length+1<=256
 ·refine WfU W M (by simpa using hfit) λv2 e2 B=>ifF rfl ?_;have D:Ext G v v2:=(Ext0.to H).trans (e2.sub λq a=>a▸u);have P:∀q,Grow G v1 q->Grow G v q:=λq a=>a.imp id λV=>by omega
  obtain⟨eF2,E⟩:=r v2 _ _ D P B;have i:(addL [x] l).os=l.os++[x]/\(addL [x] l).lim=l.lim/\(addL [x] l).low=l.low:=by unfold addL;rw[zA (by simp only[zP,zAO];omega)];exact⟨rfl,rfl,rfl⟩
  have y:=B;obtain⟨_,ok2,s2,g,aa,A⟩:=B;have hs2l:s2.len=l.os.length+1:=by have:=aa.1;simp[Wv,i.1]at this;omega
  refine nilP (g.rS rfl (nilP (g.rI rfl ?_)));rw[i.2.1];refine ifD (λc1=>?_) λc1=>?_
  ·have C:l.os.length+1<=l.lim:=by simp only at c1;omega
   have w:putL c x l=([],addL [x] l):=by unfold putL;rw[zA O,zB C]
   refine hR v2 Y' _ 0 (λ_=>False) eF2 hp (λ_=>rfl) (λq a=>a.elim) (by rw[w];exact RowR.nil _ _ _ _) ?_;rw[w];exact E.mono λq _ a=>⟨hin P a,id⟩
  ·have C:¬l.os.length+1<=l.lim:=by simp only at c1;omega
   have w:putL c x l=oldL (min c.batch (l.os.length+1)) (upL c (addL [x] l)):=by unfold putL;rw[zA O,zA C]
   have L:=E.hd;rw[hp]at L;refine nilP (L.rS rfl (WaK E.tabS hc (d:=2) O ?_));simp only[zA (show ¬(2=0) by omega),zA (show ¬(2=1) by omega)];refine Jn.intro ?_;have rest:∀v3,Ext (· = b) v2 v3->LiR b (upL c (addL [x] l)) v3 (Grow G v1)->NilP (some ⟨b,0,none⟩) λa62=>LdS (a62.add 0) v3 λX=>Xg.c (aW b) (if((X.len:Nat):Int)<(c.batch:Int)then((X.len:Nat):Int)else(c.batch:Int)) v3 λt67 v4=>R t67 0 v4:=by
    intro v3 e3 hL3;have ab:=hL3;obtain⟨_,ok3,s3,N,hs3,hcap3⟩:=hL3;have K:(upL c (addL [x] l)).os=l.os++[x]:=by unfold upL;split<;>exact i.1
    have J:s3.len=l.os.length+1:=by have:=hs3.1;simp[Wv,K]at this;omega
    refine nilP (N.rS rfl ?_);have em:(if((s3.len:Nat):Int)<(c.batch:Int)then((s3.len:Nat):Int)else(c.batch:Int))=((min c.batch (l.os.length+1):Nat):Int):=by rw[J];split<;>omega
    rw[em];refine Ge ab (by rw[K];simp;omega) λs z v4 e4 hz hr hL4=>?_;have e24:Ext (· = b) v2 v4:=e3.trans e4;have e04:Ext G v v4:=D.trans (e24.sub λq a=>a▸u);have hs23:=e3.1;have hs02:=D.1;obtain⟨eF4,h4⟩:=r v4 _ (λq=>q=b\/z<=q) e04 (λq a=>a.imp (λ(V:q=b)=>by rw[V];exact u) λ(V:z<=q)=>O) hL4;refine hR v4 Y' s 0 (λq=>v3.size<=q/\q<z) eF4 hp (λ_=>rfl) (λq a=>O) (by rw[w];exact hr) ?_;rw[w];refine h4.mono λq _ a=>⟨?_,λhQ=>?_⟩
    ·rcases a with a|a|a
     ·exact a.1
     ·subst a;exact hG _ u
     ·exact .inr O
    ·rcases a with a|a|a<;>omega
   refine nilP (g.rI rfl ?_);rw[i.2.1];refine ifD (λc2=>?_) λc2=>?_
   ·have c2':l.lim<c.batch:=by omega
    have eu:upL c (addL [x] l) = {addL [x] l with lim:=l.lim+1}:=by unfold upL;rw[i.2.1,zB c2']
    have ac:=WlU Z ok2;refine nilP (g.rI rfl ?_);rw[i.2.1];have hl128:=S.lim;refine arN (m:=l.lim+1) O O (nilP (g.s1 (by simp[liV]) λv3 o3 hb3=>rest v3 o3.ext ?_));rw[eu]at ac ⊢;exact y.st o3.ext hb3 aa A ac
   ·have eu:upL c (addL [x] l)=addL [x] l:=by unfold upL;rw[i.2.1,zA O]
    exact rest v2 (Ext.refl _ _) (by rw[eu];exact y)
 ·refine WkI W M (by simpa using hfit) aA (ifT rfl ?_);have w:putL c x l=([],l):=by unfold putL;rw[zB O]
  refine hR v1 Y' _ 6 (λ_=>False) (e.trans (Ext0.to H)) hp (λV=>absurd V hfit) (λq a=>a.elim) (by rw[w];exact RowR.nil _ _ _ _) ?_;rw[w,Qj hl];exact(h'.keep0 H).mono λq _ a=>⟨a,id⟩
end Go.Ar
namespace Go.Ar
open Go Go.Vc Go.Proofs
open Go.Bu (Zf QL Zu cnt)
variable {σ:Hp}{F:Rg}{p hs:Nat}{A:AR}{Y:Lay}{T:Nat->Hp->Rg->Prop}
theorem AHY.cenS (h:AHY σ F Y A T){k q:Nat}{c:Cls}{ss:List SpA}(h1:Y.cps[k]?=some q)(h2:A.tb[k]?=some c)(h3:A.cen[k]?=some ss) :
 ∃G:Rg,(∀b,G b->F b)/\(∃ps,CeH σ G q c ps ss)/\(∀j,∃H:Rg,(∀b,H b->F b)/\(∀b,H b->¬G b)/\T j σ H)/\∀(σ':Hp) (ss':List SpA) (ps':List (Nat×Nat)) (G' H:Rg),
  Ext G σ σ'->(∀b,G' b->G b\/σ.size<=b)->CeH σ' G' q c ps' ss'->(∀b,(F b/\b<σ.size/\¬G b\/G' b)->H b)->AHY σ' H Y {A with cen:=A.cen.set k ss'} T:=by
 obtain⟨G,d,g,hd,a⟩:=h.step (.cen k);have p:k<A.cen.length:=(gSi.1 h3).1;refine⟨G,d,Woq h1 h2 h3 g,λj=>hd (.tra j) (by intro e;cases e),λσ' ss' ps' G' H e i r m=>?_⟩;refine a σ' _ _ T G' H h.lay.setCen h.tl WoQ e i ?_ m;simp only[AC];rw[h1,h2,zL p];exact⟨ps',r⟩
theorem Wbq (h:AHY σ F Y A T)(k m:Int){R:Sl->Int->Hp->Prop}(hR:∀s σ',Ext F σ σ'->RowR s 1 (ints (Yt A k m)) σ' (λb=>σ.size<=b)->AHY σ' (Cut F σ) Y (YQ A k m) T->R s (QI A k m) σ') :
 WE.c (aW Y.p) k m σ R:=by
 refine WE.o ?_;unfold WE.v;refine Ul h k (λw=>?_) λx K z=>?_
 ·have a:QI A k m=1:=by unfold QI;rw[w];rfl
  have d:YQ A k m=A:=by unfold YQ;rw[a];rfl
  have u:Yt A k m=[]:=by unfold Yt;rw[a];rfl
  have:=hR ⟨none,0,0⟩ σ (Ext.refl _ _) (by rw[u];exact RowR.nil _ _ _ _) (by rw[d];exact h.cut);rw[a]at this;exact ifT rfl this
 ·subst K;have w:A.ck (x:Int)=true:=by unfold AR.ck;simp;omega
  obtain⟨c,ss,q,t,r,D,j,C,_,_,J⟩:=h.at_ z;obtain⟨G,B,⟨M,E⟩,_,g⟩:=h.cenS C D j;refine ifF rfl (nilP (h.hd.rS rfl (h.crowR C ?_)));by_cases hm:m<0
  ·have a:QI A x m=1:=by unfold QI;rw[w,zB rfl,zB hm]
   have d:YQ A x m=A:=by unfold YQ;rw[a];rfl
   have u:Yt A x m=[]:=by unfold Yt;rw[a];rfl
   have:=hR ⟨none,0,0⟩ σ (Ext.refl _ _) (by rw[u];exact RowR.nil _ _ _ _) (by rw[d];exact h.cut);rw[a]at this;exact Whu E m hm this
  ·have a:QI A x m=0:=by unfold QI;rw[w,zB rfl,zA hm]
   have H:Vs A x m=Q6 c m.toNat ss:=by unfold Vs;simp only[iTn];rw[D,j]
   have d:YQ A x m = {A with cen:=A.cen.set x (Q6 c m.toNat ss).2}:=by unfold YQ;rw[a,zB rfl,H];rfl
   have u:Yt A x m=(Q6 c m.toNat ss).1:=by unfold Yt;rw[a,zB rfl,H]
   refine Wkn E m O λs σ' e i y=>?_;have:=hR s σ' (e.sub B) (by rw[u];exact i) (by rw[d];exact g σ' _ _ (Cut G σ) _ e (λb L=>.inl L.1) y (WhC B));rw[a]at this;exact this
theorem WoM {k:Nat}{f:TrA->TrA}:∀j,j≠Lb.tra k->AC {A with tra:=A.tra.modify k f} Y (traT {A with tra:=A.tra.modify k f} Y) j=AC A Y (traT A Y) j:=by
 intro j hj;cases j<;>first|rfl|skip
 rename_i k';have a:k≠k':=λe=>hj (by rw[e]);simp only[AC,traT];simp[zDB,a]
theorem LayOk.setTra {k:Nat}{f:TrA->TrA}(h:LayOk A Y):LayOk {A with tra:=A.tra.modify k f} Y:=⟨h.c,h.t,h.cen,by simpa using h.tra,h.tb1,h.tb2,h.n1,h.n2,h.n3,h.st,h.room,h.ok⟩
theorem AHY.traS (h:AHY σ F Y A (traT A Y)){k q:Nat}{c:Cls}{t:TrA}(h1:Y.tps[k]?=some q)(h2:A.tb[k]?=some c)(h3:A.tra[k]?=some t) :
 ∃G:Rg,(∀b,G b->F b)/\TfH σ G q c.batch A.room t/\∀(σ':Hp) (f:TrA->TrA) (G' H:Rg),
  Ext G σ σ'->(∀b,G' b->G b\/σ.size<=b)->TfH σ' G' q c.batch A.room (f t)->(∀b,(F b/\b<σ.size/\¬G b\/G' b)->H b)->AHY σ' H Y {A with tra:=A.tra.modify k f} (traT {A with tra:=A.tra.modify k f} Y):=by
 obtain⟨G,i,d,hd,a⟩:=h.step (.tra k);have g:TfH σ G q c.batch A.room t:=by
  simp only[AC,traT]at d;rw[h1,h2,h3]at d;exact d
 refine⟨G,i,g,λσ' f G' H e m r p=>?_⟩;refine a σ' _ _ _ G' H h.lay.setTra (λj=>traT.loc j) WoM e m ?_ p;simp only[AC,traT];rw[h1,h2,List.getElem?_modify_eq,h3];exact r
theorem GU (h:AHY σ F Y A (traT A Y))(k:Int){R:Sl->Int->Hp->Prop}(hR:∀s σ',Ext F σ σ'->(∀b,InB s b->F b)->SlR s 1 (Wv (YL A k)) σ' (InB s)->s.len<=s.cap->AHY σ' (λb=>F b/\¬InB s b) Y (ZQ A k) (traT (ZQ A k) Y)->R s (Z6 A k) σ') :
 Wz.c (aW Y.p) k σ R:=by
 refine Wz.o ?_;unfold Wz.v;refine Ul h k (λC=>?_) λx S J=>?_
 ·have g:Z6 A k=1:=by unfold Z6;rw[C];rfl
  have j:ZQ A k=A:=by unfold ZQ;rw[g];rfl
  have B:YL A k=[]:=by unfold YL;rw[g];rfl
  have:=hR ⟨none,0,0⟩ σ (Ext.refl _ _) (λb d=>by obtain⟨a,i,_⟩:=d;cases i) (by rw[B];exact SlR.nil _ _ _ _) (zD _) (by rw[j];exact h.mono λb _ d=>⟨d,λ⟨a,i,_⟩=>by cases i⟩);rw[g]at this;exact ifT rfl this
 ·subst S;have C:A.ck (x:Int)=true:=by unfold AR.ck;simp;omega
  obtain⟨c,V,q,t,r,P,M,U,D,K,Q⟩:=h.at_ J;obtain⟨G,E,L,y⟩:=h.traS K P D;refine ifF rfl (nilP (h.hd.rS rfl (h.trowR K ?_)));by_cases d:t.bs=[]
  ·have g:Z6 A x=4:=by unfold Z6;rw[C,zB rfl];simp only[iTn];rw[D];simp[d]
   have j:ZQ A x=A:=by unfold ZQ;rw[g];rfl
   have B:YL A x=[]:=by unfold YL;rw[g];rfl
   have:=hR ⟨none,0,0⟩ σ (Ext.refl _ _) (λb d=>by obtain⟨a,i,_⟩:=d;cases i) (by rw[B];exact SlR.nil _ _ _ _) (zD _) (by rw[j];exact h.mono λb _ d=>⟨d,λ⟨a,i,_⟩=>by cases i⟩);rw[g]at this;exact Weq L d this
  ·have g:Z6 A x=0:=by unfold Z6;rw[C,zB rfl];simp only[iTn];rw[D];simp[d]
   have j:ZQ A x = {A with tra:=A.tra.modify x TrA.rem}:=by unfold ZQ;rw[g,zB rfl];rfl
   have B:YL A x=t.bs.getLast?.getD []:=by unfold YL;rw[g,zB rfl];simp only[iTn];rw[D]
   refine WhE L d λs σ' e w m u H=>?_;have z:∀b,(F b/\b<σ.size/\¬G b\/G b/\¬InB s b)->F b/\¬InB s b:=λb d=>by
    rcases d with d|d
    ·exact⟨d.1,λN=>d.2.2 (w b N)⟩
    ·exact⟨E b d.1,d.2⟩
   have:=hR s σ' (e.sub E) (λb d=>E b (w b d)) (by rw[B];exact m) u (by rw[j];exact y σ' _ (λb=>G b/\¬InB s b) _ e (λb d=>.inl d.1) H z);rw[g]at this;exact this
theorem WcJ (h:AHY σ F Y A (traT A Y))(k:Int){sl:Sl}{xs:List Int}{X:Rg}(hs:SlR sl 1 (Wv xs) σ X)(hi:∀x∈xs,I63 x){R:Bool->Int->Hp->Prop}(hR:∀σ',Ext F σ σ'->AHY σ' (Grow F σ) Y (Q9 A k xs) (traT (Q9 A k xs) Y)->R (Vi A k xs) (Hj A k xs) σ') :
 WJ.c (aW Y.p) k sl σ R:=by
 refine WJ.o ?_;unfold WJ.v;have u:sl.len=xs.length:=by have:=hs.1;simp[Wv]at this;omega
 have S:∀e:Int,e≠0->Hj A k xs=e->R false e σ:=λe he C=>by
  have e3:Vi A k xs=false:=by unfold Vi;rw[zd O];rfl
  have E:Q9 A k xs=A:=by unfold Q9;rw[e3];rfl
  have:=hR σ (Ext.refl _ _) (by rw[E];exact h.mono λb _ g=>.inl g);rw[C,e3]at this;exact this
 refine Ul h k (λhk=>ifT rfl (S 1 aB (by unfold Hj;rw[hk];rfl))) λx Q hlt=>?_;subst Q;have hk:A.ck (x:Int)=true:=by unfold AR.ck;simp;omega
 obtain⟨c,ss,q,t,r,N,J,hq,ht,hr,Z⟩:=h.at_ hlt;obtain⟨G1,ps,hG1,W⟩:=h.cen hq N J;obtain⟨G,hG,hC,M⟩:=h.traS hr N ht;have P:Hj A x xs=if xs.length=c.batch then(if xs.all (λx=>isTk c ss x==some true)then 0 else 8)else 1:=by unfold Hj;rw[hk,zB rfl];simp only[iTn];rw[N,J]
 refine ifF rfl (nilP (h.hd.rS rfl (h.tabR (d:=2) N O ?_)));simp only[zA (show ¬(2=0) by omega),zA (show ¬(2=1) by omega)];rw[bneN];refine iff_ (λg=>?_) λg=>?_
 ·have:¬xs.length=c.batch:=by rw[←u];simpa using g
  exact S 1 aB (by rw[P,zA this])
 have K:xs.length=c.batch:=by rw[←u];simpa using g
 rw[zB K]at P;have h32:c.batch<=32:=Z.2.2.2.2.2.2.2;refine ZS (a:=bN) (λ(i:Int) v=>∃j:Nat,i=(j:Int)/\j<=xs.length/\v=σ/\∀y∈xs.take j,isTk c ss y=some true) (λi _=>xs.length-i.toNat) ⟨0,rfl,O,rfl,by simp⟩ ?_;rintro i v ⟨j,rfl,hj,rfl,s⟩;refine ifD (λhlt2=>?_) λhge=>?_
 ·have L:j<xs.length:=by omega
  have Q:xs[j]?=some xs[j]:=gGe L;have U:xs.take (j+1)=xs.take j++[xs[j]]:=by rw[zh,Q];rfl
  have w:=zc L;generalize xs[j]=y at *;have H:isTk c ss y≠some true->R false 8 v:=λV=>S 8 aB (by
   rw[P,zA];intro ha;rw[zAA]at ha;exact V (by simpa using ha y w))
  refine hs.ixI Q (nilP (h.hd.rS rfl (h.crowR hq (Wak W _ (hi y w) (λb g=>?_) λg=>?_))))
  ·refine JnB.intro (ifF rfl ?_);cases b
   ·exact ifT rfl (H (by rw[g];simp))
   ·refine ifF rfl (arN (m:=j+1) O O ⟨⟨j+1,rfl,O,rfl,λz hz=>?_⟩,O⟩);rw[U]at hz;rcases zR.1 hz with C|C
    ·exact s z C
    ·simp at C;rw[C];exact g
  ·exact JnB.intro (ifT rfl (ifT rfl (H (by rw[g];simp))))
 ·have:j=xs.length:=by omega
  subst this;rw[zl]at s;have B:Hj A x xs=0:=by
   rw[P,zB];rw[zAA];intro y hy;simp[s y hy]
  have D:Vi A x xs=decide (t.bs.length<A.room):=by unfold Vi;rw[B];simp only[iTn];rw[ht];simp
  refine nilP (h.hd.rS rfl (h.trowR hr (WjI hC hs O (λV=>absurd K V) (λ_ hf=>?_) λ_ hf σ' e aa=>?_)))
  ·rw[zd O]at D;have E:Q9 A x xs=A:=by unfold Q9;rw[D];rfl
   have:=hR v (Ext.refl _ _) (by rw[E];exact h.mono λb _ g=>.inl g);rw[B,D]at this;exact this
  ·rw[zW O]at D;have E:Q9 A x xs = {A with tra:=A.tra.modify x λt=>{t with bs:=t.bs++[xs]}}:=by unfold Q9;rw[D,zB rfl];rfl
   have:=hR σ' (e.sub hG) (by rw[E];exact M σ' (λt=>{t with bs:=t.bs++[xs]}) (Grow G v) _ e (λb g=>g) aa (U7 hG λb g=>g));rw[B,D]at this;exact this
theorem CeH.stB {q:Nat}{c:Cls}{ps:List (Nat×Nat)}{ss:List SpA}{G:Rg}(h:CeH σ G q c ps ss):∀s∈ss,s.st<=1024:=by
 intro s hs;obtain⟨i,a⟩:=zN hs;have b:=(gSi.1 a).1;have d:i<ps.length:=by rw[h.len];exact b
 have:=(h.sp _ _ _ (gGe d) a).fit;omega
theorem GF (h:AHY σ F Y A T)(k:Int){sl:Sl}{xs:List Int}(hi:∀x∈xs,I63 x)(hl:xs.length<=1000000)(hcap:sl.len<=sl.cap)
 (hs:(∃X:Rg,SlR sl 1 (Wv xs) σ X/\∀b,b<σ.size->X b->¬F b)\/∃j,∀H,T j σ H->SlR sl 1 (Wv xs) σ H)
 {R:aN} (hR:∀σ',Ext F σ σ'->AHY σ' (Grow F σ) Y (Ze A k xs) T->R (QW A k xs) σ') :
 WA.c (aW Y.p) k sl σ R:=by
 refine WA.o ?_;unfold WA.v;have no:∀e:Int,e≠0->QW A k xs=e->R e σ:=λe he W=>by
  have J:Ze A k xs=A:=by unfold Ze;rw[zA O]
  have:=hR σ (Ext.refl _ _) (by rw[J];exact h.mono λb _ d=>.inl d);rw[W]at this;exact this
 refine Ul h k (λZ=>ifT rfl (no 1 aB (by unfold QW;rw[Z];rfl))) λx hx ab=>?_;subst hx;have Z:A.ck (x:Int)=true:=by unfold AR.ck;simp;omega
 obtain⟨c,g,q,t,r,P,u,hq,_,_,hok⟩:=h.at_ ab;obtain⟨G,E,⟨ps,U⟩,hd,B⟩:=h.cenS hq P u;have hX:∃X:Rg,SlR sl 1 (Wv xs) σ X/\∀b,X b->¬G b:=by
  rcases hs with⟨X,W,h2⟩|⟨j,hj⟩
  ·exact⟨Cut X σ,aH.cut W,λb d hg=>h2 b d.2 d.1 (E b hg)⟩
  ·obtain⟨H,_,D,hT⟩:=hd j;exact⟨H,hj H hT,D⟩
 obtain⟨X,Q,V⟩:=hX;have S:QW A x xs=putE c g xs:=by unfold QW;rw[Z,zB rfl];simp only[iTn];rw[P,u]
 refine ifF rfl (nilP (h.hd.rS rfl (h.crowR hq (Wm9 U Q V hi hl hcap (λD=>?_) λh0 o σ1 M m K=>?_))))
 ·refine ifT (by simpa using D) (no _ D S)
 ·refine ifF rfl ?_;have eS:Ze A x xs=VP {A with cen:=A.cen.set x (sweep (xs.foldl (put1 c) g))} ((Z7 (xs.foldl (put1 c) g)).map λs=>(s,c.pages)):=by
   unfold Ze;rw[S,zB h0];simp only[iTn];rw[P,u]
  have N:=B σ1 _ _ (Cut G σ) _ M (λb d=>.inl d.1) K (WhC E);rw[Wji]at m;have C:((Z7 (xs.foldl (put1 c) g)).map λs=>(s,c.pages)).length<=1000000/\∀r∈((Z7 (xs.foldl (put1 c) g)).map λs=>(s,c.pages)),r.1<=1000000:=by
   have i:∀(ys:List Int) (ls:List SpA),((ys.foldl (put1 c) ls).map (·.st))=ls.map (·.st):=by
    intro ys
    induction ys with
    | nil=>intro ls;rfl
    | cons y ys ih=>
     intro ls;rw[zAI,ih];unfold put1;split
     ·rename_i j hj;split
      ·rename_i s a;split
       ·simp only[zDJ];apply zu;intro z;rw[zBH];by_cases w:j=z
        ·subst w;rw[zB rfl];have:=(gSi.1 a).1;rw[zB (by simpa using this)];simp[a,SpA.put]
        ·rw[zA w]
       ·rfl
      ·rfl
     ·rfl
   have aa:∀s∈Z7 (xs.foldl (put1 c) g),s∈g.map (·.st):=by
    intro s a;rw[←i xs g];unfold Z7 at a;simp only[zC,zH]at a ⊢;obtain⟨z,w,rfl⟩:=a;exact⟨z,w.1,rfl⟩
   have hfew:=U.few;refine⟨?_,λr hr=>?_⟩
   ·have:(Z7 (xs.foldl (put1 c) g)).length<=(xs.foldl (put1 c) g).length:=by
     unfold Z7;rw[za];exact zBA _ _
    have h2:(xs.foldl (put1 c) g).length=g.length:=by have:=congrArg List.length (i xs g);simpa using this
    rw[za];omega
   ·obtain⟨s,a,rfl⟩:=zC.1 hr;obtain⟨z,w,rfl⟩:=zC.1 (aa s a);have:=U.stB z w;simp only;omega
  refine We0 N m.slR (λb _ d hf=>by have:=hf.2;omega) C.1 C.2 λσ2 J L=>?_;have:=hR σ2 ((M.sub E).trans (J.sub λb d=>d.1)) ?_
  ·rw[S,h0]at this;exact this
  ·rw[eS];exact L.mono λb _ d=>by
    rcases d with d|d
    ·exact .inl d.1
    ·exact .inr (zI M.1 d)
theorem Wkp (l:List (Nat×Nat))(x:Int):mget (runI l) x=(l.find? λr=>(r.1:Int)==x).map λr=>(r.2:Int):=by
 induction l with
 | nil=>rfl
 | cons r l ih=>
  have:runI (r::l)=((r.1:Int),(r.2:Int))::runI l:=rfl;rw[this,Kg,zDR,ih];by_cases h:(r.1:Int)=x
  ·simp[h]
  ·have:((r.1:Int)==x)=false:=by simpa using h
   rw[this,zA h]
theorem WkH (l:List (Nat×Nat))(x:Int):mdel (runI l) x=runI (l.filter λq=>!((q.1:Int)==x)):=by
 unfold mdel runI;rw[List.filter_map];rfl
theorem WkF (l:List (Nat×Nat))(x m:Nat):mset (runI l) (x:Int) (m:Int)=runI (takeAS.mset2 l x m):=by
 unfold mset takeAS.mset2 runI;have e:(l.map λr=>((r.1:Int),(r.2:Int))).any (λy=>y.1==(x:Int))=l.any λr=>r.1==x:=by
  rw[List.any_map]
  congr 1
  funext r
  exact beqN r.1 x
 rw[e];split
 ·rw[zAC,zAC];apply zAH;intro r _;simp only[Function.comp_def];rw[beqN];split<;>rfl
 ·simp
theorem AHY.runsS (h:AHY σ F Y A T):F Y.rn/\MapL σ Y.rn .i64 bN (runI A.runs)/\∀(σ':Hp) (rs:List (Nat×Nat)),QD σ σ' Y.rn->MapL σ' Y.rn .i64 bN (runI rs)->AHY σ' F Y {A with runs:=rs} T:=by
 obtain⟨G,g,⟨e,p⟩,_,d⟩:=h.step .runs;refine⟨g _ e,p,λσ' rs m j=>?_⟩;exact d σ' _ _ T G _ h.lay.setRuns h.tl Wnc (m.ext.sub λb a=>by subst a;exact e) (λb a=>.inl a) ⟨e,j⟩ (WcC g λb a=>a)
theorem Wdb (h:AHY σ F Y A T)(x:Int)(hf:∀r∈A.runs,r.1<=1000000){R:aN}(hR:∀σ',Ext F σ σ'->AHY σ' (Grow F σ) Y (QH A x) T->R (KQ A x) σ') :
 WR.c (aW Y.p) x σ R:=by
 refine WR.o ?_;unfold WR.v;obtain⟨N,K,e⟩:=h.runsS;refine KT h (ifF rfl (nilP (h.hd.rM rfl ⟨_,K,?_⟩)));rw[Wkp];cases hr:(A.runs.find? λr=>(r.1:Int)==x)with
 | none=>
  have E:KQ A x=8:=by unfold KQ Wbl;rw[hr];rfl
  have s:QH A x=A:=by unfold QH Wbl;rw[hr]
  have:=hR σ (Ext.refl _ _) (by rw[s];exact h.mono λb _ a=>.inl a);rw[E]at this;exact ifT rfl this
 | some r=>
  have E:KQ A x=0:=by unfold KQ Wbl;rw[hr];rfl
  have s:QH A x=V2 {A with runs:=A.runs.filter λq=>!((q.1:Int)==x)} r:=by unfold QH Wbl;rw[hr]
  have y:=zDF hr;have w:(r.1:Int)=x:=by simpa using zDE hr
  refine ifF rfl (nilP (h.hd.rM rfl ⟨_,K,λm B _ J=>?_⟩));have o1:=B _ rfl;have d:MapL m Y.rn .i64 bN (mdel (runI A.runs) x):=J;rw[WkH]at d;have G:=e m _ o1 d;simp only[zg,zBU];refine nw (cs:=[.int .i64 x,.int .i64 (r.2:Int)]) λM P g u=>?_;have C:=G.cut.keep0 g;have D:SlR ⟨some ⟨m.size,0,none⟩,1,1⟩ 2 (rV [r]) M (· = m.size):=by
   refine⟨rfl,.inr ⟨_,0,_,rfl,rfl,u.q,λj U=>?_⟩⟩;have:rV [r]=[.int .i64 (r.1:Int),.int .i64 (r.2:Int)]:=rfl;rw[this,w,zG]
  refine We0 C D (λb _ a Q=>by have:=Q.2;omega) aA (λq L=>by simp at L;subst L;exact hf _ y) λv3 S z=>?_;have H:Ext F σ v3:=(o1.ext.sub λb a=>by subst a;exact N).trans ((Ext0.to g).trans (S.sub λb a=>a.1));have:=hR v3 H (by
   rw[s];exact z.mono λb _ a=>by
    rcases a with a|a
    ·exact .inl a.1
    ·exact .inr (by have:=o1.1;omega))
  rw[E]at this;exact this
theorem Qh (rs:List (Nat×Nat)):∀A:AR,(VP A rs).tb=A.tb/\(VP A rs).room=A.room/\(VP A rs).tra=A.tra/\(VP A rs).cen=A.cen/\(VP A rs).runs=A.runs/\(VP A rs).n=A.n:=by
 induction rs with
 | nil=>intro A;exact⟨rfl,rfl,rfl,rfl,rfl,rfl⟩
 | cons r rs ih=>intro A;exact ih (V2 A r)
theorem Vy (A:AR)(k:Int)(xs:List Int):(Ze A k xs).tb=A.tb/\(Ze A k xs).room=A.room/\(Ze A k xs).tra=A.tra/\(Ze A k xs).runs=A.runs/\(Ze A k xs).n=A.n:=by
 unfold Ze;split
 ·split
  ·exact⟨(Qh _ _).1,(Qh _ _).2.1,(Qh _ _).2.2.1,(Qh _ _).2.2.2.2.1,(Qh _ _).2.2.2.2.2⟩
  ·exact⟨rfl,rfl,rfl,rfl,rfl⟩
 ·exact⟨rfl,rfl,rfl,rfl,rfl⟩
theorem AHY.chT {T':Nat->Hp->Rg->Prop}(h:AHY σ F Y A T)(hT:∀k,Lcl (T' k))(hi:∀k G,T k σ G->T' k σ G):AHY σ F Y A T':=by
 refine⟨h.lay,hT,?_⟩;obtain⟨ρ,a⟩:=h.sep;refine⟨ρ,λi=>?_⟩;have:=a i;cases i<;>first|exact this|exact hi _ _ this
theorem Wgc (h:AHY σ F Y A T){k:Nat}(hk:k<A.tb.length){q:Nat}(hq:Y.cps[k]?=some q){K:aP}(hK:∀σ',Ext F σ σ'->AHY σ' (Grow F σ) Y (QN A k) T->K σ') :
 WY.c (aW q) σ λt34 v2=>Xi.c (aW Y.p) t34 v2 K:=by
 obtain⟨c,m,V,t,r,H,g,i,_,_,Q⟩:=h.at_ hk;rw[hq]at i;cases i;obtain⟨G,D,⟨U,B⟩,hd,j⟩:=h.cenS hq H g;refine WfG B λo N x d u=>?_;have y:=j N _ _ (Cut G σ) _ x (λb a=>.inl a.1) u (WhC D);rw[Wji]at d;have R:QN A k=VP {A with cen:=A.cen.set k (sweep m)} ((Z7 m).map λs=>(s,c.pages)):=by
  unfold QN;rw[H,g]
 have E:=B.few;have C:=B.stB;refine We0 y d.slR (λb _ a P=>by have:=P.2;omega) ?_ (λr L=>?_) λM J w=>?_
 ·have:(Z7 m).length<=m.length:=by unfold Z7;rw[za];exact zBA _ _
  rw[za];omega
 ·obtain⟨s,e,rfl⟩:=zC.1 L;unfold Z7 at e;simp only[zC,zH]at e;obtain⟨z,S,rfl⟩:=e;have:=C z S.1;simp only;omega
 ·refine hK M ((x.sub D).trans (J.sub λb a=>a.1)) ?_;rw[R];exact w.mono λb _ a=>by
   rcases a with a|a
   ·exact .inl a.1
   ·exact .inr (zI x.1 a)
theorem WcU (A:AR)(k:Nat):(QN A k).tb=A.tb/\(QN A k).room=A.room/\(QN A k).tra=A.tra/\(QN A k).runs=A.runs/\(QN A k).n=A.n:=by
 unfold QN;split
 ·exact⟨(Qh _ _).1,(Qh _ _).2.1,(Qh _ _).2.2.1,(Qh _ _).2.2.2.2.1,(Qh _ _).2.2.2.2.2⟩
 ·exact⟨rfl,rfl,rfl,rfl,rfl⟩
theorem Vx (m:Nat)(A:AR):((List.range m).foldl QN A).tb=A.tb/\((List.range m).foldl QN A).room=A.room/\((List.range m).foldl QN A).tra=A.tra/\((List.range m).foldl QN A).runs=A.runs/\((List.range m).foldl QN A).n=A.n:=by
 induction m with
 | zero=>exact⟨rfl,rfl,rfl,rfl,rfl⟩
 | succ m ih=>
  rw[zAB,zAS];have:=WcU ((List.range m).foldl QN A) m;exact⟨this.1.trans ih.1,this.2.1.trans ih.2.1,this.2.2.1.trans ih.2.2.1,this.2.2.2.1.trans ih.2.2.2.1,this.2.2.2.2.trans ih.2.2.2.2⟩
theorem WiU (h:AHY σ F Y A T){crow:Sl}(hcr:crow=Y.crow){K:aP}(hK:∀σ',Ext F σ σ'->AHY σ' (Grow F σ) Y (YK A) T->K σ') :
 W8 [bN] (λI=>I 0 σ) λJ (t28:Int) v1=>If (decide (t28<((crow.len:Nat):Int))) (Ix crow.a crow.len t28 1 λa30=>LdP a30 v1 λl=>WY.c l v1 λt34 v2=>
  Xi.c (aW Y.p) t34 v2 λv3=>Ar .i64 (t28+1) λt36=>J t36 v3) (K v1):=by
 subst hcr;have H:=h.crowL;refine ZS (a:=bN) (λ(t:Int) v=>∃i:Nat,t=(i:Int)/\i<=A.tb.length/\Ext F σ v/\AHY v (Grow F σ) Y ((List.range i).foldl QN A) T) (λt _=>A.tb.length-t.toNat) ⟨0,rfl,O,Ext.refl _ _,h.mono λb _ d=>.inl d⟩ ?_;rintro t v ⟨i,rfl,D,e,u⟩;refine ifD (λz=>?_) λB=>?_
 ·have g:i<A.tb.length:=by omega
  have j:=Vx i A;obtain⟨c,G,q,t,r,E,y,w,_,_,x⟩:=h.at_ g;refine u.crowR w (Wgc u.cut (by rw[j.1];exact g) w λv3 C s=>?_);refine arN (m:=i+1) O (by have:=h.lay.tb2;omega) ⟨⟨i+1,rfl,O,e.growT (C.sub λb d=>d.1),?_⟩,O⟩;rw[zAB,zAS];exact s.mono λb _ d=>by
   rcases d with d|d
   ·exact d.1
   ·exact .inr (zI e.1 d)
 ·have:i=A.tb.length:=by omega
  subst this;exact hK v e u
def TraI (A:AR):Prop:=∀t∈A.tra,∀xs∈t.bs,∀x∈xs,I63 x
theorem TrA.tick_sub (t:TrA):∀xs∈t.tick.bs,xs∈t.bs:=λxs h=>zCL h
theorem TrA.out_sub (t:TrA):∀xs∈t.out,xs∈t.bs:=λxs h=>zAY h
theorem KZ {α:Type}{l:List α}{k:Nat}{t:α}{f:α->α}(h:l[k]?=some t):l.modify k f=l.set k (f t):=by
 apply zu;intro i;rw[zBH,zDB];by_cases hi:k=i
 ·subst hi;have:=(gSi.1 h).1;rw[zB rfl,zB this,h];simp
 ·simp[hi]
theorem Ha (A:AR)(k:Nat):(Ks A k).tb=A.tb/\(Ks A k).room=A.room/\(Ks A k).tra=(match A.tra[k]? with|some t=>A.tra.set k t.tick|none=>A.tra)/\(Ks A k).runs=A.runs/\(Ks A k).n=A.n:=by
 have key:∀(l:List (List Int)) (B:AR),(l.foldl (λA' a=>Ze A' k a) B).tb=B.tb/\(l.foldl (λA' a=>Ze A' k a) B).room=B.room/\(l.foldl (λA' a=>Ze A' k a) B).tra=B.tra/\(l.foldl (λA' a=>Ze A' k a) B).runs=B.runs/\(l.foldl (λA' a=>Ze A' k a) B).n=B.n:=by
  intro l
  induction l with
  | nil=>intro B;exact⟨rfl,rfl,rfl,rfl,rfl⟩
  | cons x l ih=>
   intro B;have d:=ih (Ze B k x);have b:=Vy B k x;exact⟨d.1.trans b.1,d.2.1.trans b.2.1,d.2.2.1.trans b.2.2.1,d.2.2.2.1.trans b.2.2.2.1,d.2.2.2.2.trans b.2.2.2.2⟩
 unfold Ks;cases A.tra[k]? with
 | none=>exact⟨rfl,rfl,rfl,rfl,rfl⟩
 | some t=>exact key _ _
theorem WgJ {k:Nat}(h:TraI A):TraI (Ks A k):=by
 unfold TraI;rw[(Ha A k).2.2.1];cases hk:A.tra[k]? with
 | none=>exact h
 | some t=>
  intro t' ht';rcases zEW ht' with h1|h1
  ·exact h t' h1
  ·subst h1;exact λb a=>h t (zE hk) b (t.tick_sub b a)
def GP (A:AR)(Y:Lay)(k r:Nat)(c:Cls)(t:TrA)(out:Sl)(sls:List Sl)(j:Nat):Hp->Rg->Prop:=
 if j=k then λσ G=>TfH σ G r c.batch A.room t.tick/\SlR out 1 (sls.map slV) σ G/\Bat sls t.out σ G else traT A Y j
theorem GP.loc {k r:Nat}{c:Cls}{t:TrA}{out:Sl}{sls:List Sl}(j:Nat):Lcl (GP A Y k r c t out sls j):=by
 unfold GP;split
 ·exact λσ i F G ⟨g,d,e⟩ a b=>⟨TfH.loc _ _ _ _ g a b,SlR.loc _ _ _ _ _ _ _ d a b,Bat.loc _ _ _ _ _ _ e a b⟩
 ·exact traT.loc j
theorem Wnk {k r:Nat}{c:Cls}{t:TrA}{out:Sl}{sls:List Sl}{tr:List TrA}:∀j,j≠Lb.tra k->AC {A with tra:=tr} Y (GP A Y k r c t out sls) j=AC A Y (traT A Y) j:=by
 intro j hj;cases j<;>first|rfl|skip
 rename_i k';have a:¬k'=k:=λe=>hj (by rw[e]);simp only[AC,GP];rw[zA a]
theorem WiJ (h:AHY σ F Y A (traT A Y)){k r:Nat}(hk:k<A.tb.length)(hr:Y.tps[k]?=some r)(hI:TraI A){K:aP}(hK:∀σ',Ext F σ σ'->AHY σ' (Grow F σ) Y (Ks A k) (traT (Ks A k) Y)->K σ') :
 Xp.c (aW r) σ λt20 v2=>W8 [bN] (λI1=>I1 0 v2) λJ1 (t22:Int) v3=>If (decide (t22<((t20.len:Nat):Int))) (Ix t20.a t20.len t22 1 λa24=>LdS a24 v3 λbatch=>
  WA.c (aW Y.p) (k:Int) batch v3 λt29 v4=>Ar .i64 (t22+1) λt30=>J1 t30 v4) (K v3):=by
 obtain⟨c,ss,q,t,r',hc,hss,hq,P,J,hok⟩:=h.at_ hk;rw[hr]at J;cases J;obtain⟨G,hG,X,hd,L⟩:=h.step (.tra k);have D:TfH σ G r c.batch A.room t:=by
  simp only[AC,traT]at X;rw[hr,hc,P]at X;exact X
 refine Wng D λout v2 e2 E hC2=>?_;obtain⟨d,M,N⟩:=E;have e2F:=e2.sub hG;have U:SlR out 1 (d.map slV) v2 (Grow G σ):=aH.mono M λb _ g=>.inl g;have Z:Bat d t.out v2 (Grow G σ):=(Bat.loc _ _).mono N λb _ g=>.inl g;have Q:AHY v2 (Grow F σ) Y {A with tra:=A.tra.set k t.tick} (GP A Y k r c t out d):=by
  refine L v2 _ _ _ (Grow G σ) _ ?_ GP.loc Wnk e2 (λb g=>g) ?_ (U7 hG λb g=>g)
  ·exact⟨h.lay.c,h.lay.t,h.lay.cen,by simpa using h.lay.tra,h.lay.tb1,h.lay.tb2,h.lay.n1,h.lay.n2,h.lay.n3,h.lay.st,h.lay.room,h.lay.ok⟩
  ·simp only[AC,GP,zS];exact⟨hC2,U,Z⟩
 have hol:out.len=t.out.length:=by
  have:=M.1;have:=N.1;simp at *;omega
 have hfew:t.out.length<=8:=by
  have h1:=D.few;have h2:=D.r1;have:t.out.length<=t.bs.length:=by unfold TrA.out;rw[zO];omega
  omega
 refine ZS (a:=bN) (λ(i:Int) w=>∃j:Nat,i=(j:Int)/\j<=t.out.length/\Ext F σ w/\AHY w (Grow F σ) Y ((t.out.take j).foldl (λA' xs=>Ze A' k xs) {A with tra:=A.tra.set k t.tick}) (GP A Y k r c t out d)) (λi _=>t.out.length-i.toNat) ⟨0,rfl,O,e2F,Q⟩ ?_;rintro i w ⟨j,rfl,hj,ew,s⟩;refine ifD (λhlt=>?_) λhge=>?_
 ·have B:j<t.out.length:=by omega
  have hx:t.out[j]?=some t.out[j]:=gGe B;have R:t.out.take (j+1)=t.out.take j++[t.out[j]]:=by rw[zh,hx];rfl
  have z:=t.out_sub _ (zc B);generalize t.out[j]=xs at *;obtain⟨G2,hG2,x⟩:=s.sep.get (.tra k);simp only[AC,GP,zS]at x;have W:j<d.length:=by rw[x.2.2.1];exact B
  have S:d[j]?=some d[j]:=gGe W;refine x.2.1.ixS S (GF (xs:=xs) s k (hI t (zE P) xs z) (by have:=D.all xs z;have:=D.b1;omega) (x.2.2.2 j _ xs S hx).2 (.inr ⟨k,λH C=>?_⟩) λw2 e3 V=>?_)
  ·unfold GP at C;rw[zB rfl]at C;exact(C.2.2.2 j _ xs S hx).1
  ·refine arN (m:=j+1) O O ⟨⟨j+1,rfl,O,ew.growT e3,?_⟩,O⟩;rw[R,zAS];exact V.mono λb _ g=>by
    rcases g with g|g
    ·exact g
    ·exact .inr (zI ew.1 g)
 ·have:j=t.out.length:=by omega
  subst this;rw[zl]at s;have u:=Ha A k;rw[P]at u;have e1:Ks A k=t.out.foldl (λA' xs=>Ze A' k xs) {A with tra:=A.tra.set k t.tick}:=by unfold Ks;rw[P]
  rw[←e1]at s;refine hK w ew (s.chT (λj=>traT.loc j) λj G3 y=>?_);unfold GP at y;unfold traT;rw[u.1,u.2.1,u.2.2.1];simp only;split at y
  ·rename_i hjk;subst hjk;rw[hr,hc,zL (by rw[h.lay.tra];exact hk)];exact y.1
  ·rename_i hjk;rw[zi (λe=>hjk e.symm)];exact y
theorem Wa8 (m:Nat)(A:AR)(hI:TraI A):((List.range m).foldl Ks A).tb=A.tb/\((List.range m).foldl Ks A).tra.length=A.tra.length/\((List.range m).foldl Ks A).runs=A.runs/\((List.range m).foldl Ks A).n=A.n/\TraI ((List.range m).foldl Ks A):=by
 induction m with
 | zero=>exact⟨rfl,rfl,rfl,rfl,hI⟩
 | succ m ih=>
  rw[zAB,zAS];have:=Ha ((List.range m).foldl Ks A) m;refine⟨this.1.trans ih.1,?_,this.2.2.2.1.trans ih.2.2.1,this.2.2.2.2.trans ih.2.2.2.1,WgJ ih.2.2.2.2⟩;show(Ks ((List.range m).foldl Ks A) m).tra.length=_;rw[this.2.2.1];split
  ·rw[zBR];exact ih.2.1
  ·exact ih.2.1
theorem Wlz (h:AHY σ F Y A (traT A Y))(hI:TraI A){R:aP}(hR:∀σ',Ext F σ σ'->AHY σ' (Grow F σ) Y (U4 A) (traT (U4 A) Y)->R σ'):Zb.c (aW Y.p) σ R:=by
 refine Zb.o ?_;unfold Zb.v;refine KT h (ifF rfl (nilP (h.hd.rS rfl ?_)));have J:=h.trowL;refine ZS (a:=bN) (λ(t:Int) v=>∃i:Nat,t=(i:Int)/\i<=A.tb.length/\Ext F σ v/\AHY v (Grow F σ) Y ((List.range i).foldl Ks A) (traT ((List.range i).foldl Ks A) Y)) (λt _=>A.tb.length-t.toNat) ⟨0,rfl,O,Ext.refl _ _,h.mono λb _ d=>.inl d⟩ ?_;rintro t v ⟨i,rfl,D,e,x⟩;refine ifD (λu=>?_) λw=>?_
 ·have g:i<A.tb.length:=by simp only at u;omega
  have j:=Wa8 i A hI;obtain⟨c,H,q,t,r,G,B,E,_,y,z⟩:=h.at_ g;refine x.trowR y (WiJ x.cut (by rw[j.1];exact g) y j.2.2.2.2 λv3 C s=>?_);refine arN (m:=i+1) O (by have:=h.lay.tb2;omega) ⟨⟨i+1,rfl,O,e.growT (C.sub λb d=>d.1),?_⟩,O⟩;rw[zAB,zAS];exact s.mono λb _ d=>by
   rcases d with d|d
   ·exact d.1
   ·exact .inr (zI e.1 d)
 ·have:i=A.tb.length:=by simp only at w;omega
  subst this;refine hR v e ?_;unfold U4;rw[h.lay.tra];exact x
end Go.Ar
namespace Go.Bu
variable {n:Nat}{S:Nat->Bool}
theorem V5 {m a k x:Nat}(h:ZU n S m a k=some x):∃j,j<k/\m<=2^j/\a<=2^j/\(Kh n S j).head?=some x/\∀i,i<j->m<=2^i->a<=2^i->Kh n S i=[]:=by
 have WbH:∀k,ZU n S m a k=none->∀i,i<k->m<=2^i->a<=2^i->Kh n S i=[]:=by
  intro k
  induction k with
  | zero=>intro _ i hi;omega
  | succ k ih=>
   intro hn i hi d b;rw[ZU]at hn;split at hn
   ·cases hn
   ·rename_i hn';by_cases e:i=k
    ·subst e;rw[zB ⟨d,b⟩]at hn;simpa using hn
    ·exact ih hn' i O d b
 induction k with
 | zero=>simp[ZU]at h
 | succ k ih=>
  rw[ZU]at h;split at h
  ·rename_i y hy;cases h;obtain⟨j,d,b⟩:=ih hy;exact⟨j,O,b⟩
  ·rename_i hn;split at h
   ·rename_i hc;exact⟨k,O,hc.1,hc.2,h,WbH k hn⟩
   ·cases h
theorem U1 {m a:Nat}:∀{k},ZU n S m a k=none->∀i,i<k->m<=2^i->a<=2^i->Kh n S i=[]
 | 0,_,i,hi,_,_=>by omega
 | k+1,hn,i,hi,h1,h2=>by
  rw[ZU]at hn;split at hn
  ·cases hn
  ·rename_i hn';by_cases e:i=k
   ·subst e;rw[zB ⟨h1,h2⟩]at hn;simpa using hn
   ·exact U1 hn' i O h1 h2
theorem take_in (hb:Bounded S n){m a x:Nat}(h:Zu n S m a=some x):x+m<=n/\∀y,x<=y->y<x+m->S y=true:=by
 obtain⟨j,_,p,_,e,_⟩:=V5 h;have b:x∈Kh n S j:=List.mem_of_head? e;obtain⟨q,rfl,d⟩:=(QQ hb).1 b;have:=ZR hb (ZM.1 d).1;exact⟨O,λy i g=>KW d (Qc.2 O)⟩
end Go.Bu
namespace Go.Ar
open Go Go.Vc Go.Proofs
open Go.Bu (Zf QL Zu cnt)
variable {σ:Hp}{F H:Rg}{p hs:Nat}{A:AR}{sp:Sp}{Y:Lay}{T:Nat->Hp->Rg->Prop}
structure W2 (σ:Hp) (F H:Rg) (Y:Lay) (A:AR) (T:Nat->Hp->Rg->Prop) (sp:Sp):Prop where
 a:AHY σ F Y A T
 s:SpH3 σ H Y.hs sp
 d:∀b,F b->¬H b
 g:Gl σ
 o:Off F
 o2:Off H
def Both (F H:Rg):Rg:=λb=>F b\/H b
theorem W2.arena (h:W2 σ F H Y A T sp){σ':Hp}{A':AR}(e:Ext F σ σ')(ha:AHY σ' F Y A' T):W2 σ' F H Y A' T sp:=
 ⟨ha,Lcl.keep SpH3.loc h.s e λb _ i a=>h.d b a i,h.d,h.g.keep e h.o,h.o,h.o2⟩
theorem W2.space (h:W2 σ F H Y A T sp){σ':Hp}{sp':Sp}(e:Ext H σ σ')(hs:SpH3 σ' H Y.hs sp'):W2 σ' F H Y A T sp':=
 ⟨Lcl.keep AHY.loc h.a e λb _ j i=>h.d b j i,hs,h.d,h.g.keep e h.o2,h.o,h.o2⟩
theorem W2.keep0 (h:W2 σ F H Y A T sp){σ':Hp}(e:Ext0 σ σ'):W2 σ' F H Y A T sp:=⟨h.a.keep0 e,h.s.keep0 e,h.d,h.g.keep0 e,h.o,h.o2⟩
theorem W2.cut (h:W2 σ F H Y A T sp):W2 σ (Cut F σ) (Cut H σ) Y A T sp:=⟨h.a.cut,Lcl.cut SpH3.loc h.s,λb e i=>h.d b e.1 i.1,h.g,h.o.sub λb e=>e.1,h.o2.sub λb e=>e.1⟩
theorem W2.arenaG (h:W2 σ F H Y A T sp){σ':Hp}{A':AR}(e:Ext F σ σ')(ha:AHY σ' (Grow F σ) Y A' T):W2 σ' (Grow F σ) (Cut H σ) Y A' T sp:=
 ⟨ha,Lcl.keep SpH3.loc (Lcl.cut SpH3.loc h.s) e λb _ a j=>h.d b j a.1,λb a i=>by
  rcases a with a|a
  ·exact h.d b a i.1
  ·have:=i.2;omega,h.g.keep e h.o,h.o.grow h.g,h.o2.sub λb a=>a.1⟩
theorem W2.rSp (h:W2 σ F H Y A T sp){K:Option Addr->Prop}(hK:K (some ⟨Y.hs,0,none⟩)):LdP (Addr.add ⟨Y.p,0,none⟩ 1) σ K:=h.a.hd.rP rfl hK
theorem WbB (st:List Nat)(a m:Nat):UL st a (m+1)=addT (UL st a m) ((a+m:Nat):Int):=by
 unfold UL;rw[zAB,zAD,zAS];rfl
theorem Wj5 {a m:Int}(h:mapE sp a m≠0):mapS sp a m=sp:=by unfold mapS;rw[zA h]
theorem Wbp {size:Nat}(h1:1<=size)(h:∀j,1<=j->j*size+size<=sp.st.length->mapE sp ((j*size:Nat):Int) (size:Int)≠0):growStart sp size=none:=by
 unfold growStart;rw[zBM];intro x hx;obtain⟨j,d,rfl⟩:=zC.1 hx;rw[zU]at d;have b:(j+1)*size<=sp.st.length:=zI (zAJ size d) (zEZ _ _);rw[zj,Nat.one_mul]at b;by_cases h0:j=0
 ·subst h0;simp
 ·have:=h j O b;have a:(mapE sp ((j*size:Nat):Int) (size:Int)==0)=false:=by simpa only[zBC]using this
  rw[a,zCX];simp
theorem Wbf {size j:Nat}(h1:1<=size)(h0:1<=j)(hf:j*size+size<=sp.st.length)(hm:mapE sp ((j*size:Nat):Int) (size:Int)=0)(h:∀i,1<=i->i<j->mapE sp ((i*size:Nat):Int) (size:Int)≠0):growStart sp size=some (j*size):=by
 unfold growStart;have m:j<sp.st.length/size:=by
  rw[Nat.lt_iff_add_one_le,Nat.le_div_iff_mul_le h1,zj,Nat.one_mul];exact hf
 have a:List.range (sp.st.length/size)=List.range j++(j::(List.range (sp.st.length/size-j-1)).map (j+1 + ·)):=by
  apply zu;intro i;rw[List.getElem?_append,zBS];by_cases d:i<j
  ·rw[zB d,zBN O,zBN d]
  ·rw[zA d];by_cases hij:i=j
   ·subst hij;rw[zBY,zEX,zBN m]
   ·rw[show i-j=(i-j-1)+1 by omega,zGI,zf];by_cases hl:i<sp.st.length/size
    ·rw[zBN hl,zBN O];simp only[zg]
     congr 1;omega
    ·rw[zY (by rw[zBS];omega),zY (by rw[zBS];omega)];rfl
 rw[a,zAD,List.find?_append];have b:((List.range j).map (· * size)).find? (λ(s:Nat)=>s != 0&&mapE sp s size==0)=none:=by
  rw[zBM];intro x hx;obtain⟨i,d,rfl⟩:=zC.1 hx;rw[zU]at d;by_cases h0:i=0
  ·subst h0;simp
  ·have:=h i O d;have e:(mapE sp ((i*size:Nat):Int) (size:Int)==0)=false:=by simpa only[zBC]using this
   rw[e,zCX];simp
 rw[b,zJ,zDR];have:(j*size != 0&&mapE sp ((j*size:Nat):Int) (size:Int)==0)=true:=by
  rw[hm];have p:0<j*size:=Nat.mul_pos O O;have g:j*size≠0:=by omega
  simp[g]
 rw[this];rfl
theorem Wk4 (h:W2 σ F H Y A T sp){size:Nat}(h1:size=16\/size=32\/size=64){R:aO}(h0:UO A sp size=none->∀σ',Ext (Both F H) σ σ'->W2 σ' F H Y A T sp->R false σ')
 (hR:∀A' sp',UO A sp size=some (A',sp')->∀σ',Ext (Both F H) σ σ'->W2 σ' F H Y A' T sp'->R true σ'):Y8.c (aW Y.p) (size:Int) σ R:=by
 refine Y8.o ?_;unfold Y8.v;have hn2:sp.st.length<=1024:=by obtain⟨q,r,l,B,hh⟩:=h.s;exact hh.n2
 have es:∀{a b:Hp},Ext H a b->Ext (Both F H) a b:=λe=>e.sub λb Q=>.inr Q;have ea:∀{a b:Hp},Ext F a b->Ext (Both F H) a b:=λe=>e.sub λb Q=>.inl Q;have d:∀j,j*size+size=(j+1)*size:=λj=>by rw[zj,Nat.one_mul]
 refine ZS (a:=bN) (λ(t:Int) v=>∃j:Nat,t=((j*size:Nat):Int)/\1<=j/\j*size<=1024+64/\Ext (Both F H) σ v/\W2 v F H Y A T sp/\∀i,1<=i->i<j->i*size+size<=sp.st.length->mapE sp ((i*size:Nat):Int) (size:Int)≠0) (λt _=>2000-t.toNat)
  ⟨1,O,zD _,O,Ext.refl _ _,h,λi h1 h2=>O⟩ ?_
 rintro t v ⟨j,rfl,hj,Q,e,z,y⟩;refine arN (m:=j*size+size) O O (nilP (z.rSp (Wco z.s (ifD (λhlt=>?_) λhge=>?_))))
 ·have hf:j*size+size<=sp.st.length:=by omega
  refine nilP (z.rSp (WoL z.s z.g z.o2 _ _ λv2 P J=>?_));refine iff_ (λV=>?_) λV=>?_
  ·have L:mapE sp ((j*size:Nat):Int) (size:Int)≠0:=by simpa using V
   rw[Wj5 L]at J;refine arN (m:=(j+1)*size) (by rw[←d];omega) (by rw[←d];omega) ⟨⟨j+1,rfl,O,by rw[←d];omega,e.trans (es P),z.space P J,λi x D E=>?_⟩,by rw[←d];omega⟩;by_cases hij:i=j
   ·subst hij;exact L
   ·exact y i x O E
  ·have X:mapE sp ((j*size:Nat):Int) (size:Int)=0:=by simpa using V
   have W:=z.space P J;have N:∀i,i<j->i*size+size<=sp.st.length:=λi hi=>by
    have:(i+1)*size<=j*size:=zAJ _ hi;rw[d];omega
   have K:=Wbf (sp:=sp) O hj hf X λi x D=>y i x D (N i D);have C:UO A sp size=some ({A with st:=UL A.st (j*size/16) (size/16),S:=QL A.n A.S ((j*size:Nat):Int) size},mapS sp ((j*size:Nat):Int) size):=by unfold UO;rw[K]
   have hd16:(j*size)%16=0:=by
    rcases h1 with rfl|rfl|rfl
    ·omega
    ·omega
    ·omega
   refine nz aB (arN (m:=j*size/16) (by rw[YM O];simp) O ?_);refine ZS (a:=bN) (λ(t:Int) w=>∃i:Nat,t=((j*size/16+i:Nat):Int)/\i<=size/16/\Ext (Both F H) σ w/\W2 w F H Y {A with st:=UL A.st (j*size/16) i} T (mapS sp ((j*size:Nat):Int) size)) (λt _=>200-t.toNat)
    ⟨0,O,O,e.trans (es P),W⟩ ?_
   rintro t w ⟨i,rfl,hi,ew,u⟩;refine arN (m:=j*size+size) O O (nz aB (arN (m:=(j*size+size)/16) (by rw[YM O];simp) O (ifD (λhlt2=>?_) λZ=>?_)))
   ·refine nilP (u.a.hd.rP rfl (u.a.AddH _ λw2 t2 M G=>?_));refine arN (m:=j*size/16+(i+1)) O O ⟨⟨i+1,rfl,O,ew.trans (ea M),?_⟩,O⟩;rw[WbB];exact u.arena M G
   ·have U:i=size/16:=by omega
    subst U;refine nilP (u.a.hd.rP rfl (u.a.Give _ _ λw2 t2 M G=>?_));exact hR _ _ C w2 (ew.trans (ea M)) (u.arena M G)
 ·have K:=Wbp (sp:=sp) (size:=size) O λi x E=>by
   by_cases hij:i<j
   ·exact y i x hij E
   ·have:j*size<=i*size:=zAJ _ O;omega
  have C:UO A sp size=none:=by unfold UO;rw[K]
  exact h0 C v e z
theorem WgS {m a:Nat}(h1:1<=m)(h2:m<=64)(ha:a=1\/a=2\/a=4\/a=8\/a=16):Go.Bu.takeArg (m:Int) (a:Int)=true:=by
 have b:Go.Bu.isPow (a:Int)=true:=by rcases ha with rfl|rfl|rfl|rfl|rfl<;>decide
 unfold Go.Bu.takeArg;rw[b];simp only[zDD,zF,zT];omega
theorem W2.take (h:W2 σ F H Y A T sp){m a:Nat}(hok:Go.Bu.takeArg (m:Int) (a:Int)=true){R:Int->Int->Hp->Prop}(h0:Zu A.n A.S m a=none->∀σ',Ext F σ σ'->W2 σ' F H Y A T sp->R 0 6 σ')
 (h1:∀x,Zu A.n A.S m a=some x->x+m<=A.n->∀σ',Ext F σ σ'->W2 σ' F H Y {A with S:=Go.Bu.take A.S x (x+m)} T sp->R (x:Int) 0 σ'):XS.c (aW Y.fr) (m:Int) (a:Int) σ R:=by
 have b:Go.Bu.Bounded A.S A.n:=by obtain⟨s,u,p,_⟩:=h.a.free;exact p.bnd
 refine h.a.TakeB _ _ λσ' e r=>?_;have d:=h.arena e r;cases ht:Zu A.n A.S m a with
 | none=>
  have i:Go.Bu.takeE A.n A.S (m:Int) (a:Int)=6:=by unfold Go.Bu.takeE;rw[hok,zB rfl];simp only[iTn];rw[ht]
  have g:Go.Bu.takeV A.n A.S (m:Int) (a:Int)=0:=by unfold Go.Bu.takeV;rw[hok,zB rfl];simp only[iTn];rw[ht]
  have j:Go.Bu.takeS A.n A.S (m:Int) (a:Int)=A.S:=by unfold Go.Bu.takeS;rw[hok,zB rfl];simp only[iTn];rw[ht]
  rw[i,g];rw[j]at d;exact h0 ht σ' e d
 | some x=>
  have i:Go.Bu.takeE A.n A.S (m:Int) (a:Int)=0:=by unfold Go.Bu.takeE;rw[hok,zB rfl];simp only[iTn];rw[ht]
  have g:Go.Bu.takeV A.n A.S (m:Int) (a:Int)=x:=by unfold Go.Bu.takeV;rw[hok,zB rfl];simp only[iTn];rw[ht]
  have j:Go.Bu.takeS A.n A.S (m:Int) (a:Int)=Go.Bu.take A.S x (x+m):=by unfold Go.Bu.takeS;rw[hok,zB rfl];simp only[iTn];rw[ht]
  rw[i,g];rw[j]at d;exact h1 x ht (Go.Bu.take_in b ht).1 σ' e d
theorem WmE {size:Nat}{A':AR}{sp':Sp}(h:UO A sp size=some (A',sp')):A'.n=A.n:=by
 unfold UO at h;split at h
 ·cases h
 ·cases h;rfl
def Fits (σ:Hp)(F H F' H':Rg):Prop:=(∀b,F' b->Grow F σ b)/\∀b,H' b->H b
theorem WlW (h:W2 σ F H Y A T sp){m a no:Nat}(h1:1<=m)(h2:m<=64)(ha:a=1\/a=2\/a=4\/a=8\/a=16)(hn1:1<=no)(hn2:no<=1000){R:Int->Int->Hp->Prop}
 (h0:(getA A sp m a no).1=none->∀σ',Ext (Both F H) σ σ'->W2 σ' F H Y (getA A sp m a no).2.1 T (getA A sp m a no).2.2->R 0 6 σ')
 (hR:∀x,(getA A sp m a no).1=some x->x+m<=A.n->∀σ' F' H',Fits σ F H F' H'->Ext (Both F H) σ σ'->W2 σ' F' H' Y (getA A sp m a no).2.1 T (getA A sp m a no).2.2->R (x:Int) 0 σ') :
 YU.c (aW Y.p) (m:Int) (a:Int) (no:Int) σ R:=by
 refine YU.o ?_;unfold YU.v;have G:=WgS h1 h2 ha;have es:∀{a b:Hp},Ext H a b->Ext (Both F H) a b:=λe=>e.sub λb j=>.inr j;have u:∀{a b:Hp},Ext F a b->Ext (Both F H) a b:=λe=>e.sub λb j=>.inl j;have fin:∀(v:Hp) (x:Nat) (A1:AR) (sp1:Sp),Ext (Both F H) σ v->x+m<=A.n->W2 v F H Y {A1 with S:=Go.Bu.take A1.S x (x+m)} T sp1->getA A sp m a no=(some x,useA A1 x m no,sp1) →
  NilP (some ⟨Y.p,0,none⟩) λV=>LdP (V.add 3) v λQ=>XO.c Q (x:Int) (m:Int) v λt55 s=>NilP (some ⟨Y.p,0,none⟩) λM=>LdP (M.add 4) s λL=>Ys.c L (x:Int) (m:Int) (no:Int) s λt63 v3=>R (x:Int) 0 v3:=by
  intro v x A1 sp1 e hxm z y;have aa:x<=1000000:=by have:=h.a.lay.n2;omega
  refine nilP (z.a.hd.rP rfl (z.a.Use _ _ λs t2 B P=>?_));have g:=z.arena B P;refine nilP (g.a.hd.rP rfl (g.a.Set x m aa hn1 hn2 λv3 t3 e3 N=>?_));have Z:=g.arenaG e3 N;refine hR x (by rw[y]) hxm v3 (Grow F s) (Cut H s) ⟨λb j=>?_,λb j=>j.1⟩ ((e.trans (u B)).trans (u e3)) (by rw[y];exact Z);rcases j with j|j
  ·exact .inl j
  ·exact .inr (zI (e.trans (u B)).1 j)
 refine nilP (h.a.hd.rP rfl (h.take G (λJ v e z=>?_) λx J D v e z=>?_))
 ·refine Jn.intro (ifT rfl ?_);have W:(if(a:Int)>(m:Int)then(a:Int)else(m:Int))=((max m a:Nat):Int):=by
   by_cases hgt:(a:Int)>(m:Int)
   ·rw[zB hgt];omega
   ·rw[zA hgt];omega
  rw[W];refine ZS (a:=bN) (λ(t:Int) w=>w=v/\(t=16\/t=32/\16<max m a\/t=64/\32<max m a)) (λt _=>100-t.toNat) ⟨rfl,.inl rfl⟩ ?_;rintro(t:Int) w ⟨rfl,hcase⟩;have ab:a<=16:=by omega
  refine ifD (λhlt=>?_) λhge=>?_
  ·have:t=16\/t=32:=by omega
   rcases this with rfl|rfl
   ·exact ar O O ⟨⟨rfl,O⟩,by decide⟩
   ·exact ar O O ⟨⟨rfl,O⟩,by decide⟩
  ·have U:t=((Q4 (max m a):Nat):Int):=by
    unfold Q4;by_cases c1:max m a<=16
    ·rw[zB c1];omega
    ·rw[zA c1];by_cases c2:max m a<=32
     ·rw[zB c2];omega
     ·rw[zA c2];omega
   subst U;have X:Q4 (max m a)=16\/Q4 (max m a)=32\/Q4 (max m a)=64:=by omega
   refine Wk4 z X (λy σ' K r=>?_) λA' E y σ' K r=>?_
   ·have d:getA A sp m a no=(none,A,sp):=by unfold getA;rw[J];simp only;rw[y]
    exact ifT rfl (h0 (by rw[d]) σ' ((u e).trans K) (by rw[d];exact r))
   ·refine ifF rfl (nilP (r.a.hd.rP rfl (r.take G (λC s B g=>?_) λx C D s B g=>?_)))
    ·have d:getA A sp m a no=(none,A',E):=by unfold getA;rw[J];simp only;rw[y];simp only;rw[C]
     exact ifT rfl (h0 (by rw[d]) s (((u e).trans K).trans (u B)) (by rw[d];exact g))
    ·have d:getA A sp m a no=(some x,useA A' x m no,E):=by unfold getA;rw[J];simp only;rw[y];simp only;rw[C]
     exact ifF rfl (fin s x A' E (((u e).trans K).trans (u B)) (by rw[←WmE y];exact D) g d)
 ·have d:getA A sp m a no=(some x,useA A x m no,sp):=by unfold getA;rw[J]
  refine Jn.intro (ifF rfl (ifF rfl (fin v x A sp (u e) D z d)))
theorem Fits.refl:Fits σ F H F H:=⟨λb a=>.inl a,λb a=>a⟩
theorem Wlu (h:W2 σ F H Y A T sp)(k:Int){R:aN}(hR:∀σ' F' H',Fits σ F H F' H'->Ext (Both F H) σ σ'->W2 σ' F' H' Y (growS A sp k).1 T (growS A sp k).2->R (KP A sp k) σ') :
 Yp.c (aW Y.p) k σ R:=by
 refine Yp.o ?_;unfold Yp.v;refine Ul h.a k (λJ=>?_) λx hx V=>?_
 ·have e1:KP A sp k=1:=by unfold KP;rw[J];rfl
  have z:growS A sp k=(A,sp):=by unfold growS;rw[J];rfl
  have:=hR σ F H Fits.refl (Ext.refl _ _) (by rw[z];exact h);rw[e1]at this;exact ifT rfl this
 ·subst hx;have J:A.ck (x:Int)=true:=by unfold AR.ck;simp;omega
  obtain⟨c,U,q,t,r,K,B,Z,_,_,Q⟩:=h.a.at_ V;have ht2:=h.a.lay.tb2;obtain⟨_,_,_,M,hp4,_⟩:=Q;refine ifF rfl (nilP (h.a.hd.rS rfl (h.a.tabR (d:=1) K O ?_)));simp only[zA (show ¬(1=0) by omega),zS];refine arN (m:=x+1) O O ?_;have X:KP A sp x=match (getA A sp c.pages 1 (x+1)).1 with
   | some y=>GR c U y
   | none=>6:=by unfold KP;rw[J,zB rfl];simp only[iTn];rw[K,B];rfl
  have eS:growS A sp x=match getA A sp c.pages 1 (x+1)with
   | (some y,A',w)=>(if GR c U y=0 then{A' with cen:=A'.cen.set x (addS c U y)}else A',w)
   | (none,A',w)=>(A',w):=by unfold growS;rw[J,zB rfl];simp only[iTn];rw[K,B];rfl
  refine WlW (a:=1) h M O (.inl rfl) O O (λD σ' e u=>?_) λy D hyn σ' F' H' i e u=>?_
  ·have:=hR σ' F H Fits.refl e;rw[X,eS,D]at this;generalize getA A sp c.pages 1 (x+1)=g at *;obtain⟨g1,g2,g3⟩:=g;simp only at D;subst D;exact ifT rfl (this u)
  ·have C:(getA A sp c.pages 1 (x+1)).2.1.tb=A.tb/\(getA A sp c.pages 1 (x+1)).2.1.cen=A.cen:=by
    unfold getA;split
    ·exact⟨rfl,rfl⟩
    ·split
     ·exact⟨rfl,rfl⟩
     ·rename_i A1 sp1 hga;have:A1.tb=A.tb/\A1.cen=A.cen:=by
       unfold UO at hga;split at hga
       ·cases hga
       ·cases hga;exact⟨rfl,rfl⟩
      split
      ·exact this
      ·exact this
   have s:=λσ' F' H'=>hR σ' F' H';rw[X,eS]at s;generalize getA A sp c.pages 1 (x+1)=g at *;obtain⟨g1,A',w⟩:=g;simp only at D u C s;subst D;simp only at s;have hWc:=u;obtain⟨G,L,⟨ps,hC⟩,_,E⟩:=u.a.cenS Z (by rw[C.1];exact K) (by rw[C.2];exact B);have hn2:=h.a.lay.n2;refine ifF rfl (nilP (u.a.hd.rS rfl (u.a.crowR Z (Wmj hC O (λh9 v z=>?_) λW v ps' z S=>?_))))
   ·have:=s v F' H' i (e.trans0 z) (by rw[h9];exact u.keep0 z);rw[h9]at this;exact this
   ·have N:=E v _ _ (Grow G σ') _ z (λb j=>j) S (U7 L λb j=>j);have P:=u.arenaG (z.sub L) N;have:=s v (Grow F' σ') (Cut H' σ') ⟨λb j=>?_,λb j=>i.2 b j.1⟩ (e.newT (z.sub L) λb j=>?_) (by rw[W];exact P)
    ·rw[W]at this;exact this
    ·rcases j with j|j
     ·exact i.1 b j
     ·exact .inr (zI e.1 j)
    ·rcases i.1 b j with h1|h1
     ·exact .inl (.inl h1)
     ·exact .inr h1
theorem HU (A:AR)(sp:Sp)(m a no:Nat):(getA A sp m a no).2.1.tb=A.tb/\(getA A sp m a no).2.1.cen=A.cen/\(getA A sp m a no).2.1.tra=A.tra/\(getA A sp m a no).2.1.room=A.room/\(getA A sp m a no).2.1.runs=A.runs/\(getA A sp m a no).2.1.n=A.n:=by
 unfold getA;split
 ·exact⟨rfl,rfl,rfl,rfl,rfl,rfl⟩
 ·split
  ·exact⟨rfl,rfl,rfl,rfl,rfl,rfl⟩
  ·rename_i A1 sp1 hga;have:A1.tb=A.tb/\A1.cen=A.cen/\A1.tra=A.tra/\A1.room=A.room/\A1.runs=A.runs/\A1.n=A.n:=by
    unfold UO at hga;split at hga
    ·cases hga
    ·cases hga;exact⟨rfl,rfl,rfl,rfl,rfl,rfl⟩
   split
   ·exact this
   ·exact this
theorem Wo5:∀a:Nat,a<17->1<=a->((bits .and .i64 (a:Int) ((a:Int)-1) != 0) = !(a==1||(a==2||(a==4||(a==8||a==16))))):=by decide
theorem WcA (h:W2 σ F H Y A T sp)(m a:Int){R:Int->Int->Hp->Prop}(hR:∀σ' F' H',Fits σ F H F' H'->Ext (Both F H) σ σ'->W2 σ' F' H' Y (takeAS A sp m a).1 T (takeAS A sp m a).2->R ((Z5 A sp m a:Nat):Int) (Qz A sp m a) σ') :
 WS.c (aW Y.p) m a σ R:=by
 refine WS.o ?_;unfold WS.v;have J:Kc m a=false->R 0 1 σ:=λu=>by
  have X:Qz A sp m a=1:=by unfold Qz;rw[u];rfl
  have E:takeAS A sp m a=(A,sp):=by unfold takeAS;rw[u];rfl
  have e3:Z5 A sp m a=0:=by unfold Z5;rw[u];rfl
  have:=hR σ F H Fits.refl (Ext.refl _ _) (by rw[E];exact h);rw[X,e3]at this;exact this
 have d:¬(1<=m/\m<=64/\(a=1\/a=2\/a=4\/a=8\/a=16))->R 0 1 σ:=λhn=>J (by
  rw[←zCM];intro hp;unfold Kc at hp;simp at hp;omega)
 refine KT h.a (ifF rfl (JnB.intro (ifD (λV=>JnB.intro (ifT rfl (JnB.intro (ifT rfl (JnB.intro (ifT rfl (ifT rfl (d O)))))))) λV=>?_)));refine JnB.intro (ifD (λZ=>JnB.intro (ifT rfl (JnB.intro (ifT rfl (ifT rfl (d O)))))) λZ=>?_);refine JnB.intro (ifD (λc3=>JnB.intro (ifT rfl (ifT rfl (d O)))) λc3=>?_);refine JnB.intro (ifD (λc4=>ifT rfl (d O)) λc4=>ar O O ?_);obtain⟨y,rfl⟩:=zk (show 0<=m by omega);obtain⟨z,rfl⟩:=zk (show 0<=a by omega);rw[Wo5 z O O];refine iff_ (λM=>?_) λM=>?_
 ·refine d (λhh=>?_);simp at M;omega
 ·have hz:z=1\/z=2\/z=4\/z=8\/z=16:=by
   simp at M;omega
  have u:Kc (y:Int) (z:Int)=true:=by
   unfold Kc;simp;omega
  have P:Qz A sp y z=if(getA A sp y z 41).1.isSome then 0 else 6:=by unfold Qz;rw[u,zB rfl];rfl
  have U:Z5 A sp y z=(getA A sp y z 41).1.getD 0:=by unfold Z5;rw[u,zB rfl];rfl
  have S:takeAS A sp y z=match getA A sp y z 41 with
   | (some x,A',r)=>({A' with runs:=takeAS.mset2 A'.runs x y},r)
   | (none,A',r)=>(A',r):=by unfold takeAS;rw[u,zB rfl];rfl
  refine WlW (no:=41) h O O hz O O (λB σ' e w=>?_) λx B hyn σ' F' H' s e w=>?_
  ·have:=hR σ' F H Fits.refl e;rw[P,S,U,B]at this;generalize getA A sp y z 41=g at *;obtain⟨g1,g2,g3⟩:=g;simp only at B;subst B;exact ifT rfl (this w)
  ·have j:=λσ' F' H'=>hR σ' F' H';rw[P,S,U]at j;generalize getA A sp y z 41=g at *;obtain⟨g1,A',r⟩:=g;simp only at B w j;subst B;simp only at j;obtain⟨gr,W,D⟩:=w.a.runsS;refine ifF rfl (nilP (w.a.hd.rM rfl ⟨_,_,rfl,W,λv Q G=>?_⟩));have C:MapL v Y.rn .i64 bN (mset (runI A'.runs) (x:Int) (y:Int)):=G;rw[WkF]at C;have K:=D v _ Q C;have E:Ext F' σ' v:=Q.ext.sub λb N=>by subst N;exact gr
   have L:=w.arena E K;exact j v F' H' s (e.newT E λb N=>by
    rcases s.1 b N with h1|h1
    ·exact .inl (.inl h1)
    ·exact .inr h1) L
theorem Wkz (h:W2 σ F H Y A T sp){R:aN}(hR:∀σ',Ext (Both F H) σ σ'->W2 σ' (Cut F σ) (Cut H σ) Y (trimS A sp).1 T (trimS A sp).2->R ((WgZ A:Nat):Int) σ') :
 Yc.c (aW Y.p) σ R:=by
 refine Yc.o ?_;unfold Yc.v;have es:∀{a b:Hp},Ext (Cut H σ) a b->Ext (Both F H) a b:=λe=>e.sub λb u=>.inr u.1;have ea:∀{a b:Hp},Ext (Cut F σ) a b->Ext (Both F H) a b:=λe=>e.sub λb u=>.inl u.1;obtain⟨G,hG,q,hT,_⟩:=h.a.trk;refine KT h.a (ifF rfl (nilP (h.a.hd.rP rfl (Wlc hT λs v1 U d=>?_))));have hn2:=h.a.lay.n2;have W:=h.a.lay.st;have z:=d.lenN;have X:(Ki A.st 0).length<=64:=by
  unfold Ki;refine zI (zBA _ _) ?_;rw[zBS];omega
 have C:∀k∈Ki A.st 0,k<=64:=λk S=>by
  unfold Ki at S;have:=(zH.1 S).1;rw[zU]at this;omega
 have hsl:=aH.cut d.slR;refine ZS (a:=bN) (λ(t:Int) w=>∃i:Nat,t=(i:Int)/\i<=(Ki A.st 0).length/\Ext (Both F H) σ w/\W2 w (Cut F σ) (Cut H σ) Y (((Ki A.st 0).take i).foldl Ve (A,sp)).1 T (((Ki A.st 0).take i).foldl Ve (A,sp)).2/\SlR s 1 (ints (Ki A.st 0)) w (λb=>σ.size<=b)) (λt _=>(Ki A.st 0).length-t.toNat)
  ⟨0,rfl,O,Ext0.to U,h.cut.keep0 U,d.slR⟩ ?_
 rintro t w ⟨i,rfl,hi,e,B,V⟩;refine ifD (λhlt=>?_) λhge=>?_
 ·have x:i<(Ki A.st 0).length:=by omega
  have Z:(Ki A.st 0)[i]?=some (Ki A.st 0)[i]:=gGe x;have E:(Ki A.st 0).take (i+1)=(Ki A.st 0).take i++[(Ki A.st 0)[i]]:=by rw[zh,Z];rfl
  have S:=C _ (zc x);generalize (Ki A.st 0)[i]=k at *;refine V.ixN Z (nilP (B.a.hd.rP rfl (B.a.RemH _ λw2 t2 K D=>?_)));have r:=B.arena K D;refine nilP (r.a.hd.rP rfl (arN (m:=k*16) O O (r.a.TakeRun _ _ λw3 t3 J N=>?_)));have j:=r.arena J N;refine nilP (j.rSp (arN (m:=k*16) O O (WlA j.s j.g j.o2 _ _ λw4 M Q=>?_)));have P:=j.space M Q;have L:SlR s 1 (ints (Ki A.st 0)) w4 (λb=>σ.size<=b):=aH.keep (aH.keep (aH.keep V K λb _ u y=>by have:=y.2;omega) J λb _ u y=>by have:=y.2;omega) M λb _ u y=>by have:=y.2;omega
  refine arN (m:=i+1) O O ⟨⟨i+1,rfl,O,((e.trans (ea K)).trans (ea J)).trans (es M),?_,L⟩,O⟩;rw[E,zAS];exact P
 ·have:i=(Ki A.st 0).length:=by omega
  subst this;rw[zl]at B;rw[z];exact hR w e B
end Go.Ar
namespace Go.Proofs
open Go.Vc
set_option maxRecDepth 100000
def WM.hint2:Hn:=.seq (.o 1) (.seq (.o 1) (.block (.loop [(1,.one bN),(2,.one bN),(3,.one bN),(10,.one .b),(11,.one .b)] (.block (.seq (.o 4) (.seq (.seq (.o 2) (.cond (.seq (.o 5) (.leaf)) (.leaf))) .leaf))))))
def WM.vc2 (data:Sl)(a:Int)(b:Int)(limit:Int)(cmp:Fv)(σ:Hp)(R:aP):Prop:=
 W8 [bN,bN,bN,.b,.b] (λI=>I a b limit true true σ) λJ (a1:Int) (b1:Int) (limit1:Int) (wasBalanced:Bool) (wasPartitioned:Bool) v=>
 Ar .i64 (b1-a1) λlength=>
 If (decide (length<=12)) (Wr.c data a1 b1 cmp v λv1=>
  R v1)
  False
theorem WM.of_vc2 {data:Sl}{a:Int}{b:Int}{limit:Int}{cmp:Fv}{σ:Hp}{R:aP}(hv:WM.vc2 data a b limit cmp σ R):WM.c data a b limit cmp σ R:=
 Wa Tryz.func267 (x:=WM.hint2) (args:=[.slice data.a data.len data.cap,.int .i64 a,.int .i64 b,.int .i64 limit,.func (.func cmp.f) cmp.first cmp.captured]) (rs:=[]) (R:=R) (R0 hv)
end Go.Proofs
namespace Go.Ar
open Go Go.Vc Go.Proofs
variable {σ:Hp}{Q:Rg}{key:Nat->Nat}
def insK (key:Nat->Nat)(l:List Nat)(h:Nat):List Nat:=l.takeWhile (λg=>decide (key g<key h))++h::l.dropWhile (λg=>decide (key g<key h))
def UQ (key:Nat->Nat)(l:List Nat):List Nat:=l.foldl (insK key) []
theorem Wa2 (l:List Nat)(h:Nat):(insK key l h).Perm (h::l):=by
 unfold insK;refine List.perm_middle.trans ?_;rw[zGR]
theorem We2 {l:List Nat}{h:Nat}(hs:l.Pairwise (λa b=>key a<key b))(hne:∀g∈l,key g≠key h):(insK key l h).Pairwise (λa b=>key a<key b):=by
 induction l with
 | nil=>simp[insK]
 | cons g l ih=>
  rw[zAR]at hs;unfold insK;by_cases hg:key g<key h
  ·rw[List.takeWhile_cons_of_pos (by simpa using hg),List.dropWhile_cons_of_pos (by simpa using hg),zAL,zAR];refine⟨λb e=>?_,ih hs.2 λx i=>hne x (zAM _ i)⟩;have:=(Wa2 l h).mem_iff.1 e;rcases zQ.1 this with h1|h1
   ·subst h1;exact hg
   ·exact hs.1 b h1
  ·have d:key h<key g:=by have:=hne g (zAP);omega
   rw[zGS (by simpa using hg),List.dropWhile_cons_of_neg (by simpa using hg),zBW,zAR];refine⟨λb e=>?_,zAR.2 hs⟩;rcases zQ.1 e with h1|h1
   ·subst h1;exact d
   ·have:=hs.1 b h1;omega
theorem Wic {s:List Nat}{h j:Nat}(hs:s.Pairwise (λa b=>key a<key b))(hj:j<=s.length)(h1:∀g∈s.drop j,key h<key g)(h2:∀g,j≠0->s[j-1]?=some g->key g<key h):insK key s h=s.take j++h::s.drop j:=by
 have x:∀g∈s.take j,key g<key h:=by
  intro g hg;obtain⟨i,p⟩:=zN hg;have w:=(gSi.1 p).1;rw[zO]at w;rw[zX,zB O]at p;have r:s[j-1]?=some (s[j-1]' O):=gGe _;have m:=h2 _ O r;by_cases hij:i=j-1
  ·subst hij;rw[r]at p;cases p;exact m
  ·have:=zAE.1 hs i (j-1) O O O;have u:s[i]' O=g:=by
    have:=gGe (l:=s) (i:=i) O;rw[this]at p;exact Option.some.inj p
   rw[u]at this;omega
 have e:insK key (s.take j++s.drop j) h=s.take j++h::s.drop j:=by
  unfold insK;rw[List.takeWhile_append_of_pos (by intro g hg;simpa using x g hg),List.dropWhile_append_of_pos (by intro g hg;simpa using x g hg)];cases hd:s.drop j with
  | nil=>simp
  | cons g d=>
   have:=h1 g (by rw[hd];exact zAP);rw[zGS aE,List.dropWhile_cons_of_neg aE,zy]
 rw[zBE]at e;exact e
theorem Kt (l:List Nat):(UQ key l).Perm l:=by
 have:∀(m acc:List Nat),(m.foldl (insK key) acc).Perm (m++acc):=by
  intro m
  induction m with
  | nil=>intro acc;exact List.Perm.refl _
  | cons h m ih=>
   intro acc;rw[zAI];refine(ih _).trans ?_;refine((Wa2 acc h).append_left m).trans ?_;exact List.perm_middle
 have:=this l []
 rwa [zy]at this
theorem WbS (l:List Nat){i h:Nat}(hh:l[i]?=some h):UQ key (l.take (i+1))=insK key (UQ key (l.take i)) h:=by
 unfold UQ;rw[zh,hh,zDG,zAS];rfl
theorem GG {l:List Nat}(hn:l.Pairwise (λa b=>key a≠key b)):∀i,(UQ key (l.take i)).Pairwise (λa b=>key a<key b)
 | 0=>by simp[UQ]
 | i+1=>by
  have ih:=GG hn i;cases hh:l[i]? with
  | none=>
   have:l.take (i+1)=l.take i:=by rw[zh,hh];simp
   rw[this];exact ih
  | some h=>
   rw[WbS l hh];refine We2 ih λg m=>?_;have:=(Kt (l.take i)).mem_iff.1 m;obtain⟨a,j⟩:=zN this;have e:=(gSi.1 j).1;rw[zO]at e;rw[zX,zB O]at j;have d:=(gSi.1 hh).1;have:=zAE.1 hn a i O d O;rw[(gSi.1 j).2,(gSi.1 hh).2]at this;exact this
theorem Wk8 (l:List Nat)(i x:Nat):(ints l).set i (.int .i64 (x:Int))=ints (l.set i x):=by simp[ints,zDJ]
theorem _root_.Go.Vc.RowR.ixH {s:Sl}{l:List Nat}(h:RowR s 1 (ints l) σ Q){i x:Nat}(hx:l[i]?=some x){K:Int->Prop}(hK:K (x:Int)):Ix s.a s.len (i:Int) 1 λa=>LdH (· = σ) bN a K:=by
 have j:=(gSi.1 hx).1;obtain⟨b,o,e,d⟩:=h.slR.cell (WfB hx);have p:=h.lenN;rw[e];refine ix O O ?_;refine⟨(x:Int),λm g=>?_,hK⟩;rw[g,add_lit,show o+(i:Int).toNat*1=o+i by omega];exact d
theorem _root_.Go.Vc.RowR.ixSt {s:Sl}{l:List Nat}(h:RowR s 1 (ints l) σ Q){i x:Nat}(hi:i<l.length){K:aP}(hK:∀σ',Ext Q σ σ'->RowR s 1 (ints (l.set i x)) σ' Q->K σ'):Ix s.a s.len (i:Int) 1 λa=>St1 a (.int .i64 (x:Int)) σ K:=by
 have m:=h.lenN;rcases h.2 with⟨h0,_⟩|⟨b,cs,hq,ha,hb,hle,hcl,ht⟩
 ·omega
 rw[ha];refine ix O O ?_;refine h.st (j:=i) (by rw[QE];exact hi) (λp d=>?_) λσ' e g=>hK σ' e (by rw[←Wk8];exact g);rw[ha]at d;cases d;rw[add_lit];congr 1;omega
def CmpN (f:Fv)(key:Nat->Nat)(l:List Nat)(Q:Rg)(σ:Hp):Prop:=∀x∈l,∀y∈l,∀(σ':Hp) (R:aN),Ext Q σ σ'->(∀(d:Int) σ'',Ext0 σ' σ''->(d<0↔key x<key y)->R d σ'') →
 VK Tryz.prog f [.int .i64 (x:Int),.int .i64 (y:Int)] [.one bN] σ' R
theorem Wnt (P D:List Nat)(g h:Nat):((P++g::h::D).set (P.length+1) g).set P.length h=P++h::g::D:=by
 rw[zFL _ _ O,show P.length+1-P.length=1 by omega,zFL _ _ (zD _),zBY];rfl
set_option maxRecDepth 4000 in
theorem WdX {s:Sl}{l:List Nat}{f:Fv}(h:RowR s 1 (ints l) σ Q)(hl:l.length<=1000)(hn:l.Pairwise (λa b=>key a≠key b))(hc:CmpN f key l Q σ){R:aP}
 (hR:∀σ',Ext Q σ σ'->RowR s 1 (ints (UQ key l)) σ' Q->R σ'):Wr.c s 0 (l.length:Int) f σ R:=by
 refine Wr.o ?_;unfold Wr.v;rcases zET l.length with h0|hpos
 ·have W:l=[]:=zFT.1 h0;subst W;refine ar O O (ZS (a:=bN) (λ(t:Int) v=>t=1/\v=σ) (λ_ _=>0) ⟨rfl,rfl⟩ ?_);rintro t v ⟨rfl,rfl⟩;refine ifDF aA (hR v (Ext.refl _ _) h)
 refine arN (m:=1) O O (ZS (a:=bN) (λ(t:Int) v=>∃i:Nat,t=(i:Int)/\1<=i/\i<=l.length/\Ext Q σ v/\RowR s 1 (ints (UQ key (l.take i)++l.drop i)) v Q) (λt _=>l.length-t.toNat) ⟨1,rfl,zD _,hpos,Ext.refl _ _,?_⟩ ?_)
 ·have:UQ key (l.take 1)=l.take 1:=by
   cases l with
   | nil=>rfl
   | cons x l=>rfl
  rw[this,zBE];exact h
 rintro t v ⟨i,rfl,hi1,hi,e,S⟩;refine ifD (λhlt=>?_) λhge=>?_
 ·have r:i<l.length:=by omega
  have hx:l[i]?=some l[i]:=gGe r;have E:l.drop i=l[i]::l.drop (i+1):=zCE r;have Z:=zc r;rw[E]at S;generalize l[i]=x at *;have hsl:(UQ key (l.take i)).length=i:=by rw[(Kt _).length_eq,zO];omega
  have M:=GG hn i;have Y:∀g∈UQ key (l.take i),g∈l/\key g≠key x:=by
   intro g D;have:=(Kt (l.take i)).mem_iff.1 D;refine⟨zAY this,?_⟩;obtain⟨a,V⟩:=zN this;have X:=(gSi.1 V).1;rw[zO]at X;rw[zX,zB O]at V;have:=zAE.1 hn a i O r O;rw[(gSi.1 V).2,(gSi.1 hx).2]at this;exact this
  have F:=WbS (key:=key) l hx;generalize UQ key (l.take i)=S0 at *;refine ZS (a:=bN) (λ(t:Int) w=>∃j:Nat,t=(j:Int)/\j<=i/\Ext Q σ w/\RowR s 1 (ints (S0.take j++x::(S0.drop j++l.drop (i+1)))) w Q/\∀g∈S0.drop j,key x<key g) (λt _=>t.toNat)
   ⟨i,rfl,zD _,e,?_,λg D=>by rw[zGT O]at D;simp at D⟩ ?_
  ·rw[zAZ O,zGT O,zBW];exact S
  rintro t w ⟨j,rfl,hj,ew,p,A⟩;have fin:(∀g,j≠0->S0[j-1]?=some g->key g<key x)->Ar .i64 ((i:Int)+1) λi2=>(∃i':Nat,i2=(i':Int)/\1<=i'/\i'<=l.length/\Ext Q σ w/\RowR s 1 (ints (UQ key (l.take i')++l.drop i')) w Q)/\l.length-i2.toNat<l.length-(i:Int).toNat:=by
   intro h2;refine arN (m:=i+1) O O ⟨⟨i+1,rfl,O,O,ew,?_⟩,O⟩;rw[F,Wic M O A h2,zz,zAL];exact p
  refine Jn.intro ⟨(· = w),rfl,ifD (λc1=>?_) λc1=>ifF rfl (fin λg hj0=>O)⟩;have C:j-1<S0.length:=by omega
  have D:S0[j-1]?=some S0[j-1]:=gGe C;have U:S0.take j=S0.take (j-1)++[S0[j-1]]:=by
   have:=zh (l:=S0) (i:=j-1);rw[show j-1+1=j by omega,D]at this;exact this
  have hdr:S0.drop (j-1)=S0[j-1]::S0.drop j:=by
   have:=zCE (l:=S0) C;rw[show j-1+1=j by omega]at this;exact this
  have J:=Y _ (zc C);generalize S0[j-1]=g at *;have y:S0.take j++x::(S0.drop j++l.drop (i+1))=S0.take (j-1)++g::x::(S0.drop j++l.drop (i+1)):=by rw[U];simp
  have B:(S0.take (j-1)).length=j-1:=by rw[zO];omega
  rw[y]at p;have P:(S0.take (j-1)++g::x::(S0.drop j++l.drop (i+1)))[j]?=some x:=by
   rw[zm O,B,show j-(j-1)=1 by omega];rfl
  have L:(S0.take (j-1)++g::x::(S0.drop j++l.drop (i+1)))[j-1]?=some g:=by
   rw[zm O,B,zBY];rfl
  refine p.ixH P (arN (m:=j-1) O O (p.ixH L (hc x Z g J.1 w _ ew λd w2 e2 hd=>?_)));have u:=aI.keep0 p e2;have H:=ew.trans (Ext0.to e2);by_cases hlt2:key x<key g
  ·refine ifT (zW (hd.2 hlt2)) ⟨(· = w2),rfl,arN (m:=j-1) O O (arN (m:=j-1) O O (u.ixH L (u.ixH P ?_)))⟩;refine u.ixSt (i:=j) aE λw3 e3 aa=>aa.ixSt (i:=j-1) aE λw4 e4 N=>?_;have G:=Wnt (S0.take (j-1)) (S0.drop j++l.drop (i+1)) g x;rw[B,show j-1+1=j by omega]at G;rw[G]at N;refine arN (m:=j-1) O O ⟨⟨j-1,rfl,O,(H.trans e3).trans e4,?_,λz K=>?_⟩,O⟩
   ·rw[hdr];exact N
   ·rw[hdr]at K;rcases zQ.1 K with h1|h1
    ·subst h1;exact hlt2
    ·exact A z h1
  ·refine ifF (zd λhh=>hlt2 (hd.1 hh)) ?_;have hgk:key g<key x:=by have:=J.2;omega
   refine arN (m:=i+1) O O ⟨⟨i+1,rfl,O,O,H,?_⟩,O⟩;rw[F,Wic M (j:=j) O A λz _ K=>by rw[D]at K;cases K;exact hgk];rw[zz,zAL,y];exact u
 ·have:i=l.length:=by omega
  subst this;rw[zl,List.drop_length,zy]at S;exact hR v e S
theorem ar8 {e:Int}{K:Int->Prop}(h0:0<=e)(h1:e<256)(hK:K e):Ar .u8 e K:=by
 have a:IntKind.u8.wrap e=e:=by
  unfold IntKind.wrap;simp[IntKind.bits,IntKind.signed];omega
 unfold Ar;rw[a];exact hK
set_option maxRecDepth 100000 in
theorem WoD {n:Nat}(hn:n<=12){R:aN}(hR:∀t,R t σ):ZT.c (n:Int) σ R:=by
 refine ZT.o ?_;unfold ZT.v;refine ZH.o ?_;unfold ZH.v;refine Jn.intro (ifDF O (Jn.intro (ifDF O (Jn.intro (ifDF O ?_)))));refine ar8 O O ?_;have a:n=0\/n=1\/n=2\/n=3\/n=4\/n=5\/n=6\/n=7\/n=8\/n=9\/n=10\/n=11\/n=12:=by omega
 rcases a with rfl|rfl|rfl|rfl|rfl|rfl|rfl|rfl|rfl|rfl|rfl|rfl|rfl<;>exact⟨_,O,rfl,hR _⟩
theorem Wnp {s:Sl}{l:List Nat}{f:Fv}(h:RowR s 1 (ints l) σ Q)(hl:l.length<=12)(hn:l.Pairwise (λa b=>key a≠key b))(hc:CmpN f key l Q σ){R:aP}
 (hR:∀σ',Ext Q σ σ'->RowR s 1 (ints (UQ key l)) σ' Q->R σ'):WL.c s f σ R:=by
 refine WL.o ?_;unfold WL.v;have g:=h.lenN;rw[g];have j:IntKind.u64.wrap (l.length:Int)=(l.length:Int):=by
  unfold IntKind.wrap;simp[IntKind.bits,IntKind.signed];omega
 unfold Ar;rw[j];refine WoD hl λt=>WM.of_vc2 ?_;unfold WM.vc2;refine Wom (a:=bN) (bb:=bN) (c:=bN) (d:=.b) (e:=.b) (λ(x:Int) (y:Int) _ _ _ v=>x=0/\y=(l.length:Int)/\v=σ) (λ_ _ _ _ _ _=>0) ⟨rfl,rfl,rfl⟩ ?_;rintro x y z u w v ⟨rfl,rfl,rfl⟩;refine ar O O (ifDT O ?_);exact WdX h O hn hc hR
end Go.Ar
namespace Go.Ar
open Go Go.Vc Go.Proofs
variable {σ:Hp}{F:Rg}{p q:Nat}{st:List Nat}
def keyT (st:List Nat)(h:Nat):Nat:=KN st h*100000+used st h*1000+(999-h)
def Vv (st:List Nat):List Nat:=(List.range (st.length/16)).filter λh=>0<cntR st (16*h) (16*h+16) 2
theorem GC (st:List Nat)(h:Nat):used st h<=16:=by
 unfold used cntR;refine zI zEG ?_;rw[zO];omega
theorem G9 (st:List Nat)(h:Nat):KN st h<=2:=by
 unfold KN;split
 ·omega
 ·split<;>omega
theorem Wiv {g h:Nat}(hg:g<=64)(hh:h<=64):bef st g h=decide (keyT st g<keyT st h):=by
 have a:=GC st g;have d:=GC st h;have b:=G9 st g;have e:=G9 st h;unfold bef keyT;rw[zBD];simp only[zBL,zF,zT,zZ];omega
theorem Un {α:Type}{P Q:α->Bool}:∀{l:List α},(∀x∈l,P x=Q x)->l.takeWhile P=l.takeWhile Q
 | [],_=>rfl
 | x::l,h=>by
  rw[zEV,zEV,h x zAP,Un λy hy=>h y (zAM _ hy)]
theorem Uu {α:Type}{P Q:α->Bool}:∀{l:List α},(∀x∈l,P x=Q x)->l.dropWhile P=l.dropWhile Q
 | [],_=>rfl
 | x::l,h=>by
  rw[zGN,zGN,h x zAP,Uu λy hy=>h y (zAM _ hy)]
theorem VQ (hl:st.length<=1024):∀h∈Vv st,16*h+16<=st.length/\h<=64:=by
 intro h hh;unfold Vv at hh;have:=(zH.1 hh).1;rw[zU]at this;omega
theorem Uq (hl:st.length<=1024):ordT st=UQ (keyT st) (Vv st):=by
 have key:∀(l acc:List Nat),(∀x∈l,x<=64)->(∀x∈acc,x<=64)->l.foldl (insH st) acc=l.foldl (insK (keyT st)) acc:=by
  intro l
  induction l with
  | nil=>intro acc _ _;rfl
  | cons h l ih=>
   intro acc h1 h2;have d:=h1 h zAP;have e:insH st acc h=insK (keyT st) acc h:=by
    unfold insH insK;rw[Un λg b=>Wiv (h2 g b) d,Uu λg b=>Wiv (h2 g b) d]
   rw[zAI,zAI,e];refine ih _ (λx a=>h1 x (zAM _ a)) λx a=>?_;rcases zQ.1 ((Wa2 acc h).mem_iff.1 a)with h3|h3
   ·rw[h3];exact d
   ·exact h2 x h3
 exact key _ [] (λx a=>(VQ hl x a).2) aA
theorem WeH (hl:st.length<=1024):(Vv st).Pairwise λa b=>keyT st a≠keyT st b:=by
 have d:(Vv st).Pairwise (· ≠ ·):=List.Pairwise.sublist zCT zER;refine List.Pairwise.imp_of_mem (λ{a b} g i e=>?_) d;have j:=(VQ hl a g).2;have m:=(VQ hl b i).2;have:=GC st a;have:=GC st b;unfold keyT;omega
theorem WhX:∀{n m p:Nat},n<=m->(∀j,j<n->st[p+j]?=some 2)->(n=m\/st[p+n]?≠some 2)->runL st p m=n
 | 0,m,p,_,_,he=>by
  unfold runL;rcases he with h|h
  ·rw[←h];simp
  ·cases m with
   | zero=>simp
   | succ m=>
    cases hd:st[p]? with
    | none=>
     have:=List.getElem?_eq_none_iff.1 hd;rw[zGT this];simp
    | some x=>
     have a:=(gSi.1 hd).1;rw[zCE a,zCZ,zGS]
     ·rfl
     ·have d:=(gSi.1 hd).2;rw[d];intro h2;rw[zp,hd]at h;exact h (by simpa using h2)
 | n+1,m,p,hm,ha,he=>by
  have b:=ha 0 O;rw[zp]at b;have a:=(gSi.1 b).1;have d:=(gSi.1 b).2;have e:=WhX (n:=n) (m:=m-1) (p:=p+1) O (λj g=>by rw[show p+1+j=p+(j+1) by omega];exact ha _ O) (by
   rcases he with h|h
   ·left;omega
   ·right;rw[show p+1+n=p+(n+1) by omega];exact h)
  unfold runL at *;obtain⟨k,rfl⟩:∃k,m=k+1:=⟨m-1,O⟩;rw[zCE a,zCZ,List.takeWhile_cons_of_pos (by rw[d];rfl),zP];rw[zGU]at e;rw[e]
theorem Wbz (e:Nat):∀(f f' x:Nat),e-x<f->e-x<f'->QX st e f x=QX st e f' x:=by
 intro f
 induction f with
 | zero=>intro f' x h;omega
 | succ f ih=>
  intro f' x h1 h2;obtain⟨g,rfl⟩:∃g,f'=g+1:=⟨f'-1,O⟩;unfold QX;by_cases hc:e<=x
  ·rw[zB hc,zB hc]
  ·rw[zA hc,zA hc];split
   ·exact ih g _ O O
   ·rw[ih g (x+runL st x (e-x)+1) O O]
theorem Wjq {want:Int}{x:Nat}(h:want<=(x:Int)):∀l,cutW want x l=[]
 | []=>rfl
 | r::l=>by unfold cutW;rw[zB h]
theorem WmU {want:Int}{x:Nat}(h:¬want<=(x:Int))(r:Nat×Nat)(l:List (Nat×Nat)):cutW want x (r::l)=r::cutW want (x+r.2) l:=by
 show(if want<=(x:Int)then[]else r::cutW want (x+r.2) l)=_
 rw[zA h]
theorem Wgg {e x f:Nat}(hx:x<e)(hf:e-x<f):QX st e f x=if runL st x (e-x)=0 then QX st e f (x+1)else(x,runL st x (e-x))::QX st e f (x+runL st x (e-x)+1):=by
 obtain⟨g,rfl⟩:∃g,f=g+1:=⟨f-1,O⟩;rw[QX,zA O];split
 ·exact Wbz e _ _ _ O O
 ·rw[Wbz e g (g+1) _ O O]
theorem Wjt {e x f:Nat}(hx:e<=x):QX st e f x=[]:=by
 cases f with
 | zero=>rfl
 | succ f=>rw[QX,zB hx]
theorem Wkj (h:TrH σ p q st){n2:Nat}(hb:Blk σ n2 [.pointer (some ⟨p,0,none⟩)]){Q:Rg}(hq:¬Q p/\¬Q q/\¬Q n2)(hl:st.length<=1024){l:List Nat}(hm:∀x∈l,16*x+16<=st.length) :
 CmpN ⟨233,#[],#[.pointer (some ⟨n2,0,none⟩)]⟩ (keyT st) l Q σ:=by
 intro x hx y hy σ' R e hR;refine Gr (all := #[.int .i64 (x:Int),.int .i64 (y:Int),.pointer (some ⟨n2,0,none⟩)]) (by kernel_rfl) aA ?_;show XN.c (x:Int) (y:Int) ⟨n2,0,none⟩ σ' R;refine XN.o ?_;unfold XN.v;have g:=h.keep e hq.1 hq.2.1;have i:=e.blk hb hq.2.2;have b:=hm x hx;have a:=hm y hy;have B:=GC st x;have A:=GC st y;have F:=G9 st x;have D:=G9 st y;refine⟨(· = σ'),rfl,⟨_,λm hm=>by rw[hm,i.cell];rfl,⟨_,λm hm=>by rw[hm,i.cell];rfl,?_⟩⟩⟩;refine WgP g b λC=>⟨rfl,WgP g a λE=>⟨rfl,WeM g b (WeM g a (ar O O ?_))⟩⟩;refine iff_ (λr=>?_) λr=>?_
 ·have u:((KN st x:Nat):Int)-((KN st y:Nat):Int)≠0:=by simpa using r
  refine hR _ σ' (Ext.refl _ _) ?_;unfold keyT;omega
 ·have z:((KN st x:Nat):Int)-((KN st y:Nat):Int)=0:=by simpa using r
  refine g.cnt (v:=1) b (g.cnt (v:=1) a ?_);have s:cntR st (16*x) (16*x+16) 1=used st x:=rfl;have j:cntR st (16*y) (16*y+16) 1=used st y:=rfl;rw[s,j];refine ar O O (iff_ (λd=>?_) λd=>?_)
  ·have u:((used st x:Nat):Int)-((used st y:Nat):Int)≠0:=by simpa using d
   refine hR _ σ' (Ext.refl _ _) ?_;unfold keyT;omega
  ·have w:((used st x:Nat):Int)-((used st y:Nat):Int)=0:=by simpa using d
   refine ar O O (hR _ σ' (Ext.refl _ _) ?_);unfold keyT;omega
theorem Wmm (l:List (Nat×Nat))(r:Nat×Nat):rV (l++[r])=rV l++[.int .i64 (r.1:Int),.int .i64 (r.2:Int)]:=by simp[rV]
theorem VL (n:Nat)(P:Nat->Bool):(List.range (n+1)).filter P=(List.range n).filter P++(if P n then[n]else[]):=by
 rw[zAB,zEH]
 congr 1
 cases h:P n<;>simp[h]
set_option maxRecDepth 4000 in
theorem WnA (h:TrH σ p q st)(want:Int)(h12:(Vv st).length<=12){R:Sl->Int->Hp->Prop}(h0:want<0->∀σ',Ext0 σ σ'->R ⟨none,0,0⟩ 1 σ')
 (h1:¬want<0->∀s σ',Ext0 σ σ'->RowR s 2 (rV (HA st want)) σ' (λb=>σ.size<=b)->R s 0 σ'):Yw.c (aW p) want σ R:=by
 refine Yw.o ?_;unfold Yw.v;have n2:=h.n2;refine nw (cs:=[.pointer (some ⟨p,0,none⟩)]) λu hz e L=>L.rP0 rfl (Ht (h.keep0 e) (ifF rfl (ifD (λhw=>h0 hw u e) λhw=>?_)));have hu:=h.keep0 e;refine L.rP0 rfl (Wjl hu ?_);refine Ko (a:=.s) (bb:=bN) (λ(A:Sl) (t:Int) v=>∃k:Nat,t=(k:Int)/\k<=st.length/16/\Ext0 u v/\RowR A 1 (ints ((List.range k).filter λh=>0<cntR st (16*h) (16*h+16) 2)) v (λb=>u.size<=b)) (λ_ t _=>st.length/16-t.toNat)
  ⟨0,rfl,O,Ext.refl _ _,RowR.nil _ _ _ _⟩ ?_
 rintro A t v ⟨k,rfl,hk,ev,B⟩;have hv:=hu.keep0 ev;have hbv:=ev.blk L id;refine ifD (λhlt=>?_) λhge=>?_
 ·have E:16*k+16<=st.length:=by omega
  have hlen:=B.lenN;have hfl:((List.range k).filter λh=>0<cntR st (16*h) (16*h+16) 2).length<=k:=zI (zBA _ _) (by rw[zBS];omega);refine hbv.rP0 rfl (WgP hv E λc=>hv.cnt (v:=2) E (ifD (λhc=>?_) λhc=>?_))
  ·have N:0<cntR st (16*k) (16*k+16) 2:=by omega
   refine B.push (vs:=[.int .i64 (k:Int)]) (λb L=>zI ev.1 L) rfl rfl (by simp[one1]) O O λs' v' hl' e' W=>?_;refine arN (m:=k+1) O O ⟨⟨k+1,rfl,O,Ext.fresh ev e' λi hi=>hi,?_⟩,O⟩;rw[VL,zB (by simpa using N),Vd];exact W
  ·refine arN (m:=k+1) O O ⟨⟨k+1,rfl,O,ev,?_⟩,O⟩;rw[VL,zA aE,zy];exact B
 have hkk:k=st.length/16:=by omega
 subst hkk;have hplt:=h.lt;have hcmp:=Wkj hv hbv (Q:=λb=>u.size<=b) ⟨O,O,O⟩ n2 (l:=Vv st) λx hx=>(VQ n2 x hx).1;refine Wnp B h12 (WeH n2) hcmp λw ew K=>?_;have K:RowR A 1 (ints (UQ (keyT st) (Vv st))) w (λb=>u.size<=b):=K;rw[←Uq n2]at K;have G:Ext0 u w:=Ext.fresh ev ew λi hi=>hi;have hT:=hu.keep0 G;have hbw:=G.blk L id;have hol:=K.lenN;have hmem:∀x∈ordT st,16*x+16<=st.length:=λx hx=>by
  rw[Uq n2]at hx;exact(VQ n2 x ((Kt _).mem_iff.1 hx)).1
 have hlen12:(ordT st).length<=12:=by rw[Uq n2,(Kt _).length_eq];exact h12
 have hslo:=aH.cut K.slR;refine WnW (a:=.s) (bb:=bN) (c:=bN) (λ(out:Sl) (d:Int) (t:Int) v=>∃(k:Nat) (D:List (Nat×Nat)) (m:Nat),t=(k:Int)/\k<=(ordT st).length/\d=(m:Int)/\m<=16*k/\D.length<=16*k/\Ext0 w v/\RowR out 2 (rV D) v (λb=>w.size<=b)/\D++cutW want m (((ordT st).drop k).flatMap (KK st))=HA st want) (λ_ _ t _=>(ordT st).length-t.toNat)
  ⟨0,[],0,rfl,O,rfl,O,by simp,Ext.refl _ _,RowR.nil _ _ _ _,by simp[HA]⟩ ?_
 rintro out d t v ⟨k,D,m,rfl,hk,rfl,hm,hD,J,S,H⟩;have hTv:=hT.keep0 J;have hbv2:=J.blk hbw id;refine ifD (λhlt=>?_) λhge=>?_
 ·have E:k<(ordT st).length:=by omega
  have hx:(ordT st)[k]?=some (ordT st)[k]:=gGe E;have hxm:=hmem _ (zc E);have hdr:(ordT st).drop k=(ordT st)[k]::(ordT st).drop (k+1):=zCE E;rw[hdr,zBB]at H;generalize (ordT st)[k]=x at *;have hsl2:=aH.keep0 hslo J;refine hsl2.ixN hx ?_;refine WnW (a:=.s) (bb:=bN) (c:=bN) (λ(out:Sl) (d:Int) (t:Int) z=>∃(i:Nat) (D:List (Nat×Nat)) (m:Nat),t=(i:Int)/\i<=17/\d=(m:Int)/\m<=16*k+i/\m<=16*k+16/\D.length<=16*k+i/\D.length<=16*k+16/\Ext0 w z/\RowR out 2 (rV D) z (λb=>w.size<=b)/\D++cutW want m (QX st (16*x+16) 17 (16*x+i)++((ordT st).drop (k+1)).flatMap (KK st))=HA st want) (λ_ _ t _=>20-t.toNat)
   ⟨0,D,m,rfl,O,rfl,O,O,O,O,J,S,by simpa[KK]using H⟩ ?_
  rintro C g t2 z ⟨i,D2,m2,rfl,hi,rfl,hm1,hm2,hD1,hD2,Z,F,r⟩;have hTz:=hT.keep0 Z;have hbz:=Z.blk hbw id;have hlz:C.len=D2.length:=by have:=F.1;rw[WfA]at this;omega
  refine ifD (λhlt3=>?_) λhge3=>?_
  ·have hi':i<16:=by omega
   refine ifD (λhdone=>?_) λhgo=>?_
   ·rw[Wjq O,zy]at r;rw[r]at F;exact h1 hw C z ((Ext.trans e G).trans Z) (aI.mono F λb _ L=>by have:=(Ext.trans e G).1;omega)
   ·refine ZS (a:=bN) (λ(t:Int) y=>y=z/\∃n:Nat,t=(n:Int)/\i+n<=16/\∀j,j<n->st[16*x+i+j]?=some 2) (λt _=>20-t.toNat) ⟨rfl,0,rfl,O,λj hj=>O⟩ ?_;rintro t3 y ⟨rfl,n,rfl,hn,M⟩;have P:(i+n=16\/st[16*x+i+n]?≠some 2)->If (decide ((n:Int)>0)) (Ar .i64 ((x:Int)*16) λt73=>Ar .i64 (t73+(i:Int)) λt75=>Nw (.cells #[.int .i64 t75,.int .i64 (n:Int)] 92 (0,0)) y λn78 v13=>
     App C 2 16 92 [.int .i64 0,.int .i64 0] ⟨some n78,1,1⟩ v13 λU v14=>Ar .i64 ((m2:Int)+(n:Int)) λg=>Ar .i64 ((i:Int)+(n:Int)) λi1=>Ar .i64 (i1+1) λi2=>
     (∃(i:Nat) (D:List (Nat×Nat)) (m:Nat),i2=(i:Int)/\i<=17/\g=(m:Int)/\m<=16*k+i/\m<=16*k+16/\D.length<=16*k+i/\D.length<=16*k+16/\Ext0 w v14/\RowR U 2 (rV D) v14 (λb=>w.size<=b)/\D++cutW want m (QX st (16*x+16) 17 (16*x+i)++((ordT st).drop (k+1)).flatMap (KK st))=HA st want)/\20-i2.toNat<20-(i:Int).toNat)
     (Ar .i64 ((i:Int)+1) λi3=>(∃(i:Nat) (D:List (Nat×Nat)) (m:Nat),i3=(i:Int)/\i<=17/\(m2:Int)=(m:Int)/\m<=16*k+i/\m<=16*k+16/\D.length<=16*k+i/\D.length<=16*k+16/\Ext0 w y/\RowR C 2 (rV D) y (λb=>w.size<=b)/\D++cutW want m (QX st (16*x+16) 17 (16*x+i)++((ordT st).drop (k+1)).flatMap (KK st))=HA st want)/\20-i3.toNat<20-(i:Int).toNat):=by
     intro hst;have hrl:runL st (16*x+i) (16*x+16-(16*x+i))=n:=WhX O M (by
      rcases hst with h|h
      ·left;omega
      ·right;exact h)
     rw[Wgg O O,hrl]at r;refine ifD (λN=>?_) λhz0=>?_
     ·rw[zA O,zAL,WmU O]at r;refine arN (m:=x*16) O O (arN (m:=16*x+i) O O ?_);refine F.push (vs:=[.int .i64 ((16*x+i:Nat):Int),.int .i64 (n:Int)]) (λb L=>zI Z.1 L) rfl rfl (by simp[one1]) O O λs' v' hl' e' W=>?_;refine arN (m:=m2+n) O O (arN (m:=i+n) O O (arN (m:=i+n+1) O O ⟨⟨i+n+1,D2++[(16*x+i,n)],m2+n,rfl,O,rfl,O,O,by simp;omega,?_,Ext.fresh Z e' λi hi=>hi,?_,?_⟩,O⟩))
      ·simp;have:D2.length<16*k+16:=by omega
       omega
      ·rw[Wmm];exact W
      ·rw[←r,zz,show 16*x+(i+n+1)=16*x+i+n+1 by omega];rfl
     ·rw[zB O]at r;exact arN (m:=i+1) O O ⟨⟨i+1,D2,m2,rfl,O,rfl,O,O,O,O,Z,F,r⟩,O⟩
    refine arN (m:=i+n) O O (JnB.intro (ifD (λhc4=>?_) λhc4=>ifF rfl (P (.inl O))));refine hbz.rP0 rfl (WgP hTz hxm λc=>arN (m:=i+n) O O ?_);have hidx:16*x+i+n<st.length:=by omega
    have V:st[16*x+i+n]?=some st[16*x+i+n]:=gGe hidx;have X:=hTz.part (s:=⟨some ⟨q,16*x,none⟩,16,c⟩) (n:=16) rfl rfl hxm;refine X.ixN (i:=i+n) (x:=st[16*x+i+n]) ?_ ?_
    ·rw[zX,zB O,zn,show 16*x+(i+n)=16*x+i+n by omega];exact V
    have e2:(((st[16*x+i+n]:Nat):Int)==2)=(st[16*x+i+n]==2):=beqN _ 2;rw[e2];refine iff_ (λY=>?_) λY=>?_
    ·have h2:st[16*x+i+n]=2:=by simpa using Y
     refine arN (m:=n+1) O O ⟨⟨rfl,n+1,rfl,O,λj hj=>?_⟩,O⟩;by_cases hjn:j=n
     ·subst hjn;rw[V,h2]
     ·exact M j O
    ·have h2:st[16*x+i+n]≠2:=by simpa using Y
     refine P (.inr ?_);rw[V];intro e5;exact h2 (Option.some.inj e5)
  ·rw[Wjt O,zBW]at r;exact arN (m:=k+1) O O ⟨⟨k+1,D2,m2,rfl,O,rfl,O,O,Z,F,r⟩,O⟩
 ·have:k=(ordT st).length:=by omega
  subst this;rw[List.drop_length,List.flatMap_nil]at H;have:cutW want m []=[]:=rfl;rw[this,zy]at H;rw[H]at S;exact h1 hw out v ((Ext.trans e G).trans J) (aI.mono S λb _ L=>by have:=(Ext.trans e G).1;omega)
end Go.Ar
namespace Go.Ar
open Go Go.Vc Go.Proofs
open Go.Bu (Zf QL Zu cnt)
variable {σ:Hp}{F H:Rg}{p hs:Nat}{A:AR}{sp:Sp}{Y:Lay}{T:Nat->Hp->Rg->Prop}
theorem WfK {want:Int}:∀(x:Nat) (l:List (Nat×Nat)),(cutW want x l).length<=l.length/\∀r∈cutW want x l,r∈l
 | _,[]=>⟨zD _,λr h=>h⟩
 | x,r::l=>by
  have ih:=WfK (want:=want) (x+r.2) l;show(if want<=(x:Int)then[]else r::cutW want (x+r.2) l).length<=_/\∀q∈(if want<=(x:Int)then[]else r::cutW want (x+r.2) l),_
  split
  ·exact⟨Nat.zero_le _,λq h=>by simp at h⟩
  ·refine⟨by simp only[zP];omega,λq a=>?_⟩;rcases zQ.1 a with h|h
   ·subst h;exact zAP
   ·exact zAM _ (ih.2 q h)
theorem V4 {st:List Nat}{e:Nat}:∀(f x:Nat),(QX st e f x).length<=f/\∀r∈QX st e f x,r.1+r.2<=e
 | 0,x=>⟨zD _,λr h=>by simp[QX]at h⟩
 | f+1,x=>by
  have h1:=V4 (st:=st) (e:=e) f (x+1);have a:=V4 (st:=st) (e:=e) f (x+runL st x (e-x)+1);have b:runL st x (e-x)<=e-x:=by
   unfold runL;refine zI (List.takeWhile_sublist _).length_le ?_;rw[zO];omega
  unfold QX;split
  ·exact⟨Nat.zero_le _,λr h=>by simp at h⟩
  ·split
   ·exact⟨by have:=h1.1;omega,h1.2⟩
   ·refine⟨by simp only[zP];have:=a.1;omega,λr d=>?_⟩;rcases zQ.1 d with h|h
    ·subst h;simp only;omega
    ·exact a.2 r h
theorem WeP {st:List Nat}(hl:st.length<=1024)(want:Int):(HA st want).length<=2000/\∀r∈HA st want,r.1+r.2<=st.length:=by
 have i:∀x∈ordT st,16*x+16<=st.length:=λx a=>by
  rw[Uq hl]at a;exact(VQ hl x ((Kt _).mem_iff.1 a)).1
 have m:(ordT st).length<=64:=by
  rw[Uq hl,(Kt _).length_eq];refine zI (zBA _ _) ?_;rw[zBS];omega
 have d:∀l:List Nat,(l.flatMap (KK st)).length<=17*l.length:=by
  intro l
  induction l with
  | nil=>simp
  | cons x l ih=>
   rw[zBB,zK,zP];have:=(V4 (st:=st) (e:=16*x+16) 17 (16*x)).1;have e:KK st x=QX st (16*x+16) 17 (16*x):=rfl;rw[e];omega
 have g:=WfK (want:=want) 0 ((ordT st).flatMap (KK st));refine⟨?_,λr j=>?_⟩
 ·have:=d (ordT st);have:=g.1;unfold HA;omega
 ·have:=g.2 r j;rw[zCP]at this;obtain⟨x,a,b⟩:=this;have s:=(V4 (st:=st) (e:=16*x+16) 17 (16*x)).2 r b;have p:=i x a;omega
def relE (want:Int):Int:=if want<0 then 1 else 0
theorem WeD (h:W2 σ F H Y A T sp)(want:Int)(h12:(Vv (YK A).st).length<=12){R:Int->Int->Hp->Prop}(hR:∀σ' F' H',Fits σ F H F' H'->Ext (Both F H) σ σ'->W2 σ' F' H' Y (relS A sp want).1 T (relS A sp want).2->R ((relV A want:Nat):Int) (relE want) σ') :
 Xj.c (aW Y.p) want σ R:=by
 refine Xj.o ?_;unfold Xj.v;refine KT h.a (ifF rfl (ifD (λJ=>?_) λJ=>nilP (h.a.hd.rS rfl (WiU h.a rfl λv e hA=>?_))))
 ·have e1:relS A sp want=(A,sp):=by unfold relS;rw[zB J]
  have e2:relV A want=0:=by unfold relV;rw[zB J]
  have e3:relE want=1:=by unfold relE;rw[zB J]
  have:=hR σ F H Fits.refl (Ext.refl _ _) (by rw[e1];exact h);rw[e2,e3]at this;exact this
 have e1:relS A sp want=(HA (YK A).st want).foldl rel1 (YK A,sp):=by unfold relS;rw[zA J];rfl
 have e2:relV A want=((HA (YK A).st want).map (·.2)).sum:=by unfold relV;rw[zA J];rfl
 have e3:relE want=0:=by unfold relE;rw[zA J]
 rw[e1,e2,e3]at hR;have hW:=h.arenaG e hA;have aa:(YK A).st.length<=1024:=by have:=hA.lay.st;have:=hA.lay.n2;omega
 obtain⟨_,_,q,hT,_⟩:=hW.a.trk;refine nilP (hW.a.hd.rP rfl (WnA hT want h12 (λab=>absurd ab J) λ_ s v1 C E=>?_));have d:=WeP aa want;generalize HA (YK A).st want=P at *;have hlen:s.len=P.length:=by have:=E.1;rw[WfA]at this;omega
 have M:=hW.cut.keep0 C;refine ifF rfl (nilP (M.a.hd.rP rfl (nilP (M.rSp ?_))));refine nw (cs:=[.func (.func 192) #[.pointer (some ⟨Y.tr,0,none⟩)] #[],.func (.func 193) #[.pointer (some ⟨Y.hs,0,none⟩)] #[]]) λv2 hz2 K hb2=>?_;have hW2:=M.keep0 K;have esz1:=C.1;have es:∀{a b:Hp},Ext (Cut (Cut H σ) v) a b->Ext (Both F H) a b:=λe=>e.sub λb d=>.inr d.1.1;have ea:∀{a b:Hp},Ext (Cut (Grow F σ) v) a b->Ext (Both (Grow F σ) H) a b:=λe=>e.sub λb d=>.inl d.1;have es':∀{a b:Hp},Ext (Cut (Cut H σ) v) a b->Ext (Both (Grow F σ) H) a b:=λe=>e.sub λb d=>.inr d.1.1;have nF:∀b,v.size<=b->¬Cut (Grow F σ) v b:=λb d hc=>by have:=hc.2;omega
 have nH:∀b,v.size<=b->¬Cut (Cut H σ) v b:=λb d hc=>by have:=hc.2;omega
 have hs2:SlR s 2 (rV P) v2 (λb=>v.size<=b):=aH.keep0 E.slR K;refine Ko (a:=bN) (bb:=bN) (λ(Z:Int) (t:Int) w=>∃i:Nat,t=(i:Int)/\i<=P.length/\Z=(((P.take i).map (·.2)).sum:Nat)/\((P.take i).map (·.2)).sum<=1024*i/\Ext (Both (Grow F σ) H) v w/\W2 w (Cut (Grow F σ) v) (Cut (Cut H σ) v) Y ((P.take i).foldl rel1 (YK A,sp)).1 T ((P.take i).foldl rel1 (YK A,sp)).2/\SlR s 2 (rV P) w (λb=>v.size<=b)/\Blk w v1.size [.func (.func 192) #[.pointer (some ⟨Y.tr,0,none⟩)] #[],.func (.func 193) #[.pointer (some ⟨Y.hs,0,none⟩)] #[]]) (λ_ t _=>P.length-t.toNat)
  ⟨0,rfl,O,rfl,by simp,(Ext0.to C).trans0 K,hW2,hs2,hb2⟩ ?_
 rintro Z t w ⟨i,rfl,hi,rfl,hsum,ew,Q,X,hbw⟩;refine ifD (λab=>?_) λhge=>?_
 ·have S:i<P.length:=by omega
  have hx:P[i]?=some P[i]:=gGe S;have V:P.take (i+1)=P.take i++[P[i]]:=by rw[zh,hx];rfl
  have hbr:=d.2 _ (zc S);generalize P[i]=r at *;refine WoV X hx ?_;refine nw (cs:=[.int .i64 0,.int .i64 0]) λv4 hz4 e4 ad=>ad.s1 aA λv5 o5 b5=>b5.s1 aA λv6 o6 b6=>?_;have D:Ext0 w v6:=Ext.fresh (Ext.fresh e4 o5.ext λi hi=>O) o6.ext λi hi=>by omega
  have b6':Blk v6 w.size [.int .i64 (r.1:Int),.int .i64 (r.2:Int)]:=b6;have hW6:=Q.keep0 D;have U:=D.blk hbw id;have ac:=aH.keep0 X D;have W:v.size<=w.size:=ew.1;have G:v.size<=v1.size:=C.1;refine ZS (a:=bN) (λ(t:Int) z=>∃j:Nat,t=(j:Int)/\j<=2/\Ext (Both (Grow F σ) H) v z/\W2 z (Cut (Grow F σ) v) (Cut (Cut H σ) v) Y (if j=0 then((P.take i).foldl rel1 (YK A,sp)).1 else(rel1 ((P.take i).foldl rel1 (YK A,sp)) r).1) T (if j<=1 then((P.take i).foldl rel1 (YK A,sp)).2 else(rel1 ((P.take i).foldl rel1 (YK A,sp)) r).2)/\SlR s 2 (rV P) z (λb=>v.size<=b)/\Blk z v1.size [.func (.func 192) #[.pointer (some ⟨Y.tr,0,none⟩)] #[],.func (.func 193) #[.pointer (some ⟨Y.hs,0,none⟩)] #[]]/\Blk z w.size [.int .i64 (r.1:Int),.int .i64 (r.2:Int)]) (λt _=>2-t.toNat)
   ⟨0,rfl,O,ew.trans0 D,hW6,ac,U,b6'⟩ ?_
  rintro t z ⟨j,rfl,hj,ez,u,N,y,L⟩;refine ifD (λhlt2=>?_) λhge2=>?_
  ·have hj2:j=0\/j=1:=by omega
   rcases hj2 with rfl|rfl
   ·refine ix O O ?_;refine⟨⟨192,#[.pointer (some ⟨Y.tr,0,none⟩)],#[]⟩,by rw[add_lit,y.cell];rfl,L.rI rfl (L.rI rfl ?_)⟩;refine Gr (all := #[.pointer (some ⟨Y.tr,0,none⟩),.int .i64 (r.1:Int),.int .i64 (r.2:Int)]) (by kernel_rfl) aA ?_;rw[zB rfl,zB O]at u;show Xb.c (aW Y.tr) (r.1:Int) (r.2:Int) z _;refine u.a.Rel _ _ λz2 t2 B hA5=>?_;refine arN (m:=1) O O ⟨⟨1,rfl,O,ez.trans (ea B),?_,aH.keep N B λb _ d=>nF b d,B.blk y (nF _ G),B.blk L (nF _ W)⟩,O⟩;rw[zA O,zB O];exact u.arena B hA5
   ·refine ix O O ?_;refine⟨⟨193,#[.pointer (some ⟨Y.hs,0,none⟩)],#[]⟩,by rw[add_lit,y.cell];rfl,L.rI rfl (L.rI rfl ?_)⟩;refine Gr (all := #[.pointer (some ⟨Y.hs,0,none⟩),.int .i64 (r.1:Int),.int .i64 (r.2:Int)]) (by kernel_rfl) aA ?_;rw[zA O,zB O]at u;show XI.c (aW Y.hs) (r.1:Int) (r.2:Int) z _;refine WgV u.s u.g u.o2 _ _ λz2 B hS5=>?_;refine arN (m:=2) O O ⟨⟨2,rfl,O,ez.trans (es' B),?_,aH.keep N B λb _ d=>nH b d,B.blk y (nH _ G),B.blk L (nH _ W)⟩,O⟩;rw[zA O,zA O];exact u.space B hS5
  ·have hjj:j=2:=by omega
   subst hjj;rw[zA O,zA O]at u;have x:((P.take (i+1)).map (·.2)).sum=((P.take i).map (·.2)).sum+r.2:=by rw[V];simp
   refine L.rI rfl (arN (m:=((P.take i).map (·.2)).sum+r.2) O O (arN (m:=i+1) O O ⟨⟨i+1,rfl,O,by rw[x],by rw[x];omega,ez,?_,N,y⟩,O⟩));rw[V,zAS];exact u
 ·have:i=P.length:=by omega
  subst this;rw[zl]at Q ⊢;refine hR w (Cut (Grow F σ) v) (Cut (Cut H σ) v) ⟨λb d=>d.1,λb d=>d.1.1⟩ ((e.sub λb d=>.inl d).newT ew λb d=>?_) Q;rcases d with(d|d)|d
  ·exact .inl (.inl d)
  ·exact .inr d
  ·exact .inl (.inr d)
theorem Whp {s:Sl}{l:List Nat}(h:SlR s 1 (ptrV l) σ F){k q:Nat}(hq:l[k]?=some q){K:Option Addr->Prop}(hK:K (some ⟨q,0,none⟩)):Ix s.a s.len (k:Int) 1 λa=>LdH (λm=>Ext0 σ m) .p a K:=by
 have r:=(gSi.1 hq).1;obtain⟨b,o,e,d⟩:=h.cell (j:=k) (v:=.pointer (some ⟨q,0,none⟩)) (by simp[ptrV,hq]);have g:=h.1;simp[ptrV]at g;rw[e];refine ix O O ⟨_,λm i=>?_,hK⟩;rw[add_lit,show o+(k:Int).toNat*1=o+k by omega,QR i (QF d) id];exact d
theorem AHY.crowH (h:AHY σ F Y A T){k q:Nat}(hq:Y.cps[k]?=some q){K:Option Addr->Prop}(hK:K (some ⟨q,0,none⟩)):Ix Y.crow.a Y.crow.len (k:Int) 1 λa=>LdH (λm=>Ext0 σ m) .p a K:=by
 obtain⟨G,d,b⟩:=h.sep.get .crow;exact Whp (RowR.slR b) hq hK
theorem AHY.trowH (h:AHY σ F Y A T){k q:Nat}(hq:Y.tps[k]?=some q){K:Option Addr->Prop}(hK:K (some ⟨q,0,none⟩)):Ix Y.trow.a Y.trow.len (k:Int) 1 λa=>LdH (λm=>Ext0 σ m) .p a K:=by
 obtain⟨G,d,b⟩:=h.sep.get .trow;exact Whp (RowR.slR b) hq hK
theorem AHY.hdH (h:AHY σ F Y A T){i:Nat}{c:CK}{x:c.T}(hx:(hdV Y)[i]?=some (c.v x)){K:c.T->Prop}(hK:K x):LdH (λm=>Ext0 σ m) c (Addr.add ⟨Y.p,0,none⟩ i) K:=by
 refine⟨x,λm a=>?_,hK⟩;rw[add_lit,(Ext.blk a h.hd id).cell,zG];exact hx
theorem AHY.tra (h:AHY σ F Y A (traT A Y)){k q:Nat}{c:Cls}{t:TrA}(h1:Y.tps[k]?=some q)(h2:A.tb[k]?=some c)(h3:A.tra[k]?=some t):∃G:Rg,(∀b,G b->F b)/\TfH σ G q c.batch A.room t:=by
 obtain⟨G,d,a,_⟩:=h.traS h1 h2 h3;exact⟨G,d,a⟩
theorem WnQ {c:Cls}{s:Sl}{tb:List Cls}(h:SlR s 3 (tabV tb) σ F){k ty:Nat}(hc:tb[k]?=some c){K:Addr->Hp->Prop}(hK:∀v,Ext0 σ v->Blk v σ.size [.int .i64 (c.size:Int),.int .i64 (c.pages:Int),.int .i64 (c.batch:Int)]->K ⟨σ.size,0,none⟩ v) :
 Ix s.a s.len (k:Int) 3 λa31=>LdI .i64 (a31.add 0) σ λt32=>LdI .i64 (a31.add 1) σ λt321=>LdI .i64 (a31.add 2) σ λt322=>
  Nw (.cells #[.int .i64 0,.int .i64 0,.int .i64 0] ty (0,0)) σ λn14 v2=>St1 (n14.add 0) (.int .i64 t32) v2 λv3=>St1 (n14.add 1) (.int .i64 t321) v3 λv4=>St1 (n14.add 2) (.int .i64 t322) v4 λv5=>K n14 v5:=by
 have g:=HG hc;have D:=(gSi.1 hc).1;obtain⟨b,o,p,x⟩:=h.cell g.1;obtain⟨E,o1,d,u⟩:=h.cell g.2.1;obtain⟨j,o2,e,y⟩:=h.cell g.2.2;rw[p]at d e;cases d;cases e;have B:=h.1;rw[KA]at B;rw[p];refine ix O O ?_;rw[add_lit,show o+(k:Int).toNat*3=o+3*k by omega];refine ldI0 (by simpa using x) (ldI0 (by rw[zCF];exact u) (ldI0 (by rw[zCF];exact y) ?_));refine nw (cs:=[.int .i64 0,.int .i64 0,.int .i64 0]) λv2 A r j=>j.s1 aA λv3 o3 w=>w.s1 aA λv4 o4 z=>z.s1 aA λv5 o5 C=>?_;exact hK v5 (Ext.fresh (Ext.fresh (Ext.fresh r o3.ext λi m=>O) o4.ext λi m=>O) o5.ext λi m=>O) C
def part {α:Type}(f:Cls->α->Nat)(tb:List Cls)(l:List α)(i:Nat):Nat:=(((tb.zip l).take i).map λx=>f x.1 x.2).sum
theorem HF {α:Type}{f:Cls->α->Nat}{tb:List Cls}{l:List α}{i:Nat}{c:Cls}{x:α}(hc:tb[i]?=some c)(hx:l[i]?=some x):part f tb l (i+1)=part f tb l i+f c x:=by
 unfold part;have:(tb.zip l)[i]?=some (c,x):=by rw[List.getElem?_zip_eq_some];exact⟨hc,hx⟩
 rw[zh,this];simp
theorem Wag {α:Type}{f:Cls->α->Nat}{tb:List Cls}{l:List α}(h:l.length=tb.length):part f tb l tb.length=((tb.zip l).map λx=>f x.1 x.2).sum:=by
 unfold part;rw[zAZ (by rw[List.length_zip];omega)]
theorem Wd6:∀{l:List (Int×Int)} {n x:Int},(l.map (·.1)).Nodup->(n,x)∈l->(l.map (·.2)).sum=x+((l.filter λy=>!(y.1==n)).map (·.2)).sum
 | [],_,_,_,h=>by simp at h
 | y::l,n,x,hn,h=>by
  simp only[zJ,zo]at hn;rcases zQ.1 h with h1|h1
  ·subst h1;have:l.filter (λy=>!(y.1==n))=l:=by
    rw[zBK];intro z hz;have:z.1≠n:=λe=>hn.1 (zC.2 ⟨z,hz,e⟩);simpa using this
   rw[zDL aA,this];simp
  ·have a:y.1≠n:=λe=>hn.1 (zC.2 ⟨_,h1,e.symm⟩);rw[zDM (by simpa using a)];simp only[zJ,zr];rw[Wd6 hn.2 h1];omega
theorem Wj8 (l:List (Nat×Nat)):((runI l).map (·.2)).sum=(((l.map (·.2)).sum:Nat):Int):=by
 induction l with
 | nil=>rfl
 | cons x l ih=>
  have:runI (x::l)=((x.1:Int),(x.2:Int))::runI l:=rfl;rw[this];simp only[zJ,zr];rw[ih];omega
theorem WeI (h:AHY σ F Y A (traT A Y))(hr:Ue A<=1000000){R:Int->Int->Int->Int->Int->Int->Hp->Prop}
 (hR:∀σ',Ext0 σ σ'->Ub A<=40000000000/\Wbd A<=40000000000/\UA A<=40000000000/\Uc A<=40000000000->R (Ub A:Nat) (Wbd A:Nat) (UA A:Nat) (Uc A:Nat) (Ue A:Nat) (cnt A.n A.S:Nat) σ'):X6.c (aW Y.p) σ R:=by
 refine X6.o ?_;unfold X6.v;have htl:=h.tabL;have ht2:=h.lay.tb2;refine KT h (ifF rfl (nilP (h.hd.rS rfl ?_)));refine Wom (a:=bN) (bb:=bN) (c:=bN) (d:=bN) (e:=bN) (λ(H room j D t:Int) v=>∃i:Nat,t=(i:Int)/\i<=A.tb.length/\Ext0 σ v/\H=(part (λc (t:TrA)=>t.bs.flatten.length*c.size) A.tb A.tra i:Nat)/\room=(part (λc b=>Kr b*c.size) A.tb A.cen i:Nat)/\j=(part (λc (b:List SpA)=>b.length*c.tail) A.tb A.cen i:Nat)/\D=(part (λc (b:List SpA)=>b.length*c.pages) A.tb A.cen i:Nat) ∧
  part (λc (t:TrA)=>t.bs.flatten.length*c.size) A.tb A.tra i<=i*1000000000/\part (λc b=>Kr b*c.size) A.tb A.cen i<=i*1000000000/\part (λc (b:List SpA)=>b.length*c.tail) A.tb A.cen i<=i*1000000000/\part (λc (b:List SpA)=>b.length*c.pages) A.tb A.cen i<=i*1000000000) (λ_ _ _ _ t _=>A.tb.length-t.toNat)
  ⟨0,rfl,O,Ext.refl _ _,by simp[part],by simp[part],by simp[part],by simp[part],by simp[part],by simp[part],by simp[part],by simp[part]⟩ ?_
 rintro H room j D t v ⟨i,rfl,hi,e,rfl,rfl,rfl,rfl,b1,b2,b3,b4⟩;have hv:=h.keep0 e;refine ifD (λhlt=>?_) λhge=>?_
 ·have hi':i<A.tb.length:=by simp only at hlt;omega
  obtain⟨c,b,q,t,r,K,C,hq,ht,X,ad⟩:=h.at_ hi';obtain⟨G,hG,aa⟩:=hv.sep.get .tab;refine WnQ aa K λv5 e5 b5=>?_;have h5:=hv.keep0 e5;refine b5.rI rfl (b5.rI rfl (b5.rI rfl (WiD ad λv6 e6=>?_)));have h6:=h5.keep0 e6;have b6:=e6.blk b5 id;obtain⟨G1,ps,_,hC⟩:=h6.cen hq K C;refine nilP (h6.hd.rS rfl (h6.crowR hq (WkM hC λs v7 e7 Z=>?_)));have h7:=h6.keep0 e7;have b7:=e7.blk b6 id;have af:s.len=b.length:=by have:=Z.1;rw[Wce,za]at this;omega
  refine⟨λm=>Ext0 v7 m,Ext.refl _ _,nilP (h7.hdH (c:=.s) (x:=Y.trow) rfl (h7.trowH X ⟨(c.size:Int),λm V=>by rw[add_lit,(Ext.blk V b7 id).cell];rfl,?_⟩))⟩;obtain⟨G2,_,ab⟩:=h7.tra X K ht;refine Wmz ab λs2 v8 e8 hl8 hrow8=>⟨e8,?_⟩;have h8:=h7.keep0 e8;have b8:=e8.blk b7 id;have U:=ab.flat;have M:=hC.room;have L:=hC.few;obtain⟨hz1,B,_,hp1,hp2,_⟩:=ad;have hm1:t.bs.flatten.length*c.size<=1000000000:=zI (zAF U B) O;have hm2:Kr b*c.size<=1000000000:=zI (zAF M B) O;have P:c.tail<=1024:=by unfold Cls.tail;omega
  have hm3:b.length*c.tail<=1000000000:=zI (zAF L P) O;have hm4:b.length*c.pages<=1000000000:=zI (zAF L hp2) O;have s1:=HF (f:=λc (t:TrA)=>t.bs.flatten.length*c.size) K ht;have N:=HF (f:=λc b=>Kr b*c.size) K C;have s3:=HF (f:=λc (b:List SpA)=>b.length*c.tail) K C;have s4:=HF (f:=λc (b:List SpA)=>b.length*c.pages) K C;refine arN (m:=t.bs.flatten.length*c.size) (by rw[hl8];simp) O (arN (m:=part (λc (t:TrA)=>t.bs.flatten.length*c.size) A.tb A.tra (i+1)) (by rw[s1];simp) (by rw[s1];omega) ?_);refine⟨λm=>Ext0 v8 m,Ext.refl _ _,nilP (h8.hdH (c:=.s) (x:=Y.crow) rfl (h8.crowH hq ⟨(c.size:Int),λm V=>by rw[add_lit,(Ext.blk V b8 id).cell];rfl,?_⟩))⟩;obtain⟨G3,ps3,_,hC8⟩:=h8.cen hq K C;refine WmI hC8 λv9 e9=>⟨e9,?_⟩;have b9:=e9.blk b8 id;refine arN (m:=Kr b*c.size) aA O (arN (m:=part (λc b=>Kr b*c.size) A.tb A.cen (i+1)) (by rw[N];simp) (by rw[N];omega) ?_);refine arN (m:=b.length*c.tail) (by rw[af];simp) O (arN (m:=part (λc (b:List SpA)=>b.length*c.tail) A.tb A.cen (i+1)) (by rw[s3];simp) (by rw[s3];omega) ?_);refine b9.rI rfl (arN (m:=b.length*c.pages) (by rw[af];simp) O (arN (m:=part (λc (b:List SpA)=>b.length*c.pages) A.tb A.cen (i+1)) (by rw[s4];simp) (by rw[s4];omega) ?_));refine arN (m:=i+1) O O ⟨⟨i+1,rfl,O,((((Ext.trans e e5).trans e6).trans e7).trans e8).trans e9,rfl,rfl,rfl,rfl,by rw[s1];omega,by rw[N];omega,by rw[s3];omega,by rw[s4];omega⟩,O⟩
 ·have:i=A.tb.length:=by simp only at hge;omega
  subst this;obtain⟨_,V,_⟩:=hv.runsS;have ae:=Wj8 A.runs;refine nilP (hv.hd.rM rfl (rng1 (c:=bN) (a:=bN) (x0:=(0:Int)) V (λg (z:Int) w=>Ext0 v w/\(g.map (·.1)).Nodup/\(∀y∈g,0<=(y.2:Int))/\0<=z/\z+(g.map (·.2)).sum=((Ue A:Nat):Int)) (λw hz W=>⟨W,V.nodup,λy hy=>?_,O,?_⟩) (λz w hI=>?_) ?_))
  ·obtain⟨r,_,rfl⟩:=zC.1 hy;show(0:Int)<=(r.2:Int);omega
  ·rw[Int.zero_add];exact ae
  ·obtain⟨W,_,_,_,hz⟩:=hI;have hz':z=((Ue A:Nat):Int):=by simpa using hz
   subst hz';have hw:=hv.keep0 W;obtain⟨sb,ms,hB,_⟩:=hw.free;refine nilP (hw.hd.rP rfl (Go.Bu.Free_ok hB ?_));rw[Wag h.lay.tra]at b1 ⊢;rw[Wag h.lay.cen]at b2 b3 b4 ⊢;rw[Wag h.lay.cen,Wag h.lay.cen];have hcM:Ub A<=A.tb.length*1000000000:=b1;have hcR:Wbd A<=A.tb.length*1000000000:=b2;have hcT:UA A<=A.tb.length*1000000000:=b3;have hcS:Uc A<=A.tb.length*1000000000:=b4;exact hR w (Ext.trans e W) ⟨O,O,O,O⟩
  ·rintro g n (x:Int) (z:Int) w w' J ⟨W,hn,E,ac,hz⟩ hx ho hlt hJ;have hd:=Wd6 hn hx;have hxp:0<=x:=E _ hx;have Q:0<=((g.filter λy=>!(y.1==n)).map (·.2)).sum:=by
    have:∀l:List (Int×Int),(∀y∈l,0<=y.2)->0<=(l.map (·.2)).sum:=by
     intro l
     induction l with
     | nil=>intro _;simp
     | cons y l ih=>
      intro hl;have:=ih λu hu=>hl u (zAM _ hu);have:=hl y zAP;simp only[zJ,zr];omega
    exact this _ λy hy=>E y (zH.1 hy).1
   have B:z+x+((g.filter λy=>!(y.1==n)).map (·.2)).sum=((Ue A:Nat):Int):=by
    exact(Int.add_assoc z x _).trans ((congrArg (λ(u:Int)=>z+u) hd.symm).trans hz)
   have hxi:(0:Int)<=x:=hxp;have hup:z+x<=((Ue A:Nat):Int):=Int.le_trans (Int.le_add_of_nonneg_right Q) (Int.le_of_eq B);have hlo:(0:Int)<=z+x:=Int.add_nonneg ac hxi;refine ar ?_ ?_ (hJ (z+x) w' rfl rfl ⟨Ext.fresh W ho.ext λi hi=>O,?_,λy hy=>E y (zH.1 hy).1,?_,B⟩)
   ·show -9223372036854775808<=(z:Int)+(x:Int);omega
   ·show(z:Int)+(x:Int)<=9223372036854775807;omega
   ·exact List.Nodup.sublist (List.filter_sublist.map _) hn
   ·exact Int.add_nonneg ac hxi
end Go.Ar