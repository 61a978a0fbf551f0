/- Texts joined. -/
import Derived.Test.YtkabjcanamcbeaaGreatDoorY3
set_option linter.unusedVariables false
set_option linter.unusedSimpArgs false
namespace Go.Ar
open Go Go.Vc Go.Proofs
open Go.Bu (Zf)
variable {σ:Hp}{F:Rg}{p q r:Nat}{sp:Sp}{l:List (Int×Sl)}{B:Nat->Nat}
theorem Og (h:dE σ F p sp)(g:Gl σ)(x:Int)(hx:x<=9223372036854775807){R:aN}(hR:∀σ',bO σ σ'->R (j6 sp x) σ') :
 X6.c (aW p) x 1 σ R:=by
 refine X6.o ?_;unfold X6.v;have H:=h;obtain⟨q,r,l,B,h⟩:=h;have n2:=h.n2;have i:(x<0\/x%8≠0)->R 7 σ:=λj=>by
  have:=hR σ (Ext.refl _ _);unfold j6 at this;rw[zB j]at this;exact this
 refine Hg H (cG rfl (cG rfl (bY.intro (cI (λA=>cJ rfl (i (.inl A))) λA=>nz aB ?_))));obtain⟨y,rfl⟩:=zk (show 0<=x by omega);refine cU (λd=>?_) λd=>?_
 ·refine i (.inr ?_);rw[Q9 O]at d;simpa using d
 have K:y%8=0:=by
  rw[Q9 O]at d;have:((y:Int)%8)=0:=by simpa using d
  omega
 have ok:¬((y:Int)<0\/(y:Int)%8≠0):=by omega
 refine nz aB (cA (m:=y/256) (by rw[YK O];simp) O (nz aB (cA (m:=y/8) (by rw[YK O];simp) O ?_)));refine cA (m:=y/8+1) O O (cA (m:=y/8) O O (nz aB (cA (m:=y/256) (by rw[YK O];simp;omega) O ?_)));have fin:∀(b:Bool) σ',bO σ σ'->(b=true↔sp.st.getD (y/256) 0=0)->If b (R 7 σ') (R 0 σ'):=λb σ' e j=>by
  have:=hR σ' e;unfold j6 at this;rw[zA ok]at this;refine cU (λh=>?_) λh=>?_
  ·rw[zB (by simpa using j.1 h)]at this;exact this
  ·rw[zA (λG=>by rw[j.2 (by simpa using G)]at h;cases h)]at this;exact this
 obtain⟨c,J,hd⟩:=h.hd;refine Jn.intro ⟨λm=>bX m p [.slice (some ⟨q,0,none⟩) sp.st.length c,.map (some r),.int .i64 (sp.pk:Int)]/\Gl m,⟨hd,g⟩,?_⟩;refine aG ⟨⟨some ⟨q,0,none⟩,sp.st.length,c⟩,λm a=>by rw[add_lit,a.1.cell];rfl,?_⟩;refine cI (λw=>?_) λw=>?_
 ·simp only at w;refine fin _ σ (Ext.refl _ _) ⟨λ_=>?_,λ_=>rfl⟩;rw[zL,zY O];rfl
 simp only at w;refine aG ⟨⟨some ⟨q,0,none⟩,sp.st.length,c⟩,λm a=>by rw[add_lit,a.1.cell];rfl,?_⟩;refine cA (m:=y/256+1) O O (jc O aC (zD _) ?_);simp only;rw[zA O];refine⟨false,λm a=>a.2.u0,⟨false,λm a=>a.2.u1,?_⟩⟩;have e:(Option.map (λ(u:Addr)=>u.add (y/256*2)) (some (⟨q,0,none⟩:Addr)))=some ⟨q,2*(y/256),none⟩:=by
  simp only[zf,add_lit];congr 2;omega
 rw[e,AJ];have E:=h.part (x:=y/256) (y:=1) (c:=c-y/256) O;refine GK (v:=0) E (by rw[zO,zu];omega) (λz D=>h.qs z (qi (mK D))) O λσ' s=>?_;refine⟨⟨s.bZ hd id,g.bK s⟩,fin _ σ' s ?_⟩;have C:y/256<sp.st.length:=by omega
 rw[zL,cM C,qw C,sx,xR];simp[eq_comm]
theorem fL.AI (h:fL σ F p q r l B sp){k:Nat}(hk:k<sp.st.length)(hn:sp.st[k]?≠some 2){σ':Hp}{b:Nat}{s:Sl}{T:Rg}(e:Ext T σ σ')(hT:∀i,i<σ.size->T i->i=q\/i=r)(hz:σ.size<=b){rest:List Value}
 (hb:bX σ' q (ia (sp.st.set k 2)++rest)) (hm:dL σ' r .i64 .s (dF l (k:Int) s)) (ha:s.a=some ⟨b,0,none⟩) (hl:s.len=32) (hc:s.cap=32) (hw:bX σ' b (List.replicate 32 (.int .i64 0))) :
 fL σ' (Grow F σ) p q r (dF l (k:Int) s) (λj=>if j=k then b else B j) {sp with st:=sp.st.set k 2}:=by
 have u:∀j:Nat,(sp.st.set k 2)[j]?=some 2↔j=k\/sp.st[j]?=some 2:=λj=>by
  rw[oc];by_cases hjk:k=j
  ·subst hjk;rw[zB rfl,zB hk];simp
  ·rw[zA hjk];exact⟨λh=>.inr h,λh=>h.resolve_left λe=>hjk e.symm⟩
 obtain⟨c,G,hd⟩:=h.hd;obtain⟨_,A⟩:=h.row;have V:=hd.lt;have U:=A.lt;have W:=h.map.lt;have S:=e.1;have g:=h.fs;have z:∀{j:Nat},sp.st[j]?=some 2->B j<σ.size:=λ{j} d=>by
  obtain⟨t,_,_,_,_,cs,J,_⟩:=h.entry d;exact J.lt
 have cW:∀{i:Nat} {cs:List Value},bX σ i cs->i≠q->i≠r->bX σ' i cs:=λ{i cs} D E y=>e.bZ D λM=>by
  rcases hT i D.lt M with h|h
  ·exact E h
  ·exact y h
 refine⟨⟨c,by simpa using G,by simpa using cW hd g.2.2.2.1 g.2.2.2.2.1⟩,⟨rest,hb⟩,hm,λx=>?_,λj t d=>?_,λj C E y m=>?_,λj d=>?_,⟨.inl g.1,.inl g.2.1,.inl g.2.2.1,g.2.2.2⟩,λw H=>?_,by simpa using h.n1,by simpa using h.n2,II h.qs O,h.pk⟩
 ·rw[Cy];by_cases hx:x=(k:Int)
  ·rw[zB hx];subst hx;simp only[Option.isSome_some,true_iff];exact⟨k,rfl,(u k).2 (.inl rfl)⟩
  ·rw[zA hx,h.keys];constructor
   ·rintro⟨j,rfl,d⟩;exact⟨j,rfl,(u j).2 (.inr d)⟩
   ·rintro⟨j,rfl,d⟩;exact⟨j,rfl,((u j).1 d).resolve_left O⟩
 ·rw[Cy]at d;by_cases hx:(j:Int)=(k:Int)
  ·have:j=k:=by omega
   subst this;rw[zB rfl]at d;cases d;rw[zB rfl];refine⟨ha,hl,O,_,hw,by simp,λi D=>?_⟩;rw[nk,zB D];simp only;rw[h.zero _ (by rw[show(32*j+i)/32=j by omega];exact hn)]
  ·rw[zA hx]at d;obtain⟨P,N,Q,cs,J,R,L⟩:=h.wd j t d;have K:=h.out j (h.dK d);rw[zA O];exact⟨P,N,Q,cs,cW J K.2.2.1 K.2.2.2,R,L⟩
 ·by_cases e1:j=k
  ·by_cases e2:C=k
   ·omega
   ·rw[zB e1,zA e2]at m;have:=z (((u C).1 y).resolve_left e2);omega
  ·rw[zA e1]at m;by_cases e2:C=k
   ·rw[zB e2]at m;have:=z (((u j).1 E).resolve_left e1);omega
   ·rw[zA e2]at m;exact h.inj j C (((u j).1 E).resolve_left e1) (((u C).1 y).resolve_left e2) m
 ·by_cases e1:j=k
  ·rw[zB e1];exact⟨.inr hz,O,O,O⟩
  ·rw[zA e1];have:=h.out j (((u j).1 d).resolve_left e1);exact⟨.inl this.1,this.2⟩
 ·refine h.zero w λy=>H ((u _).2 (.inr y))
theorem fL.dO (h:fL σ F p q r l B sp){σ':Hp}{n c:Nat}(hn:n<=1024)(ho:QC σ σ' p)(hc:sp.st.length<=c)(hb:bX σ' p [.slice (some ⟨q,0,none⟩) sp.st.length c,.map (some r),.int .i64 (n:Int)]):fL σ' F p q r l B {sp with pk:=n}:=by
 have b:=h.fs;obtain⟨rest,a⟩:=h.row;refine⟨⟨c,hc,hb⟩,⟨rest,Ws ho a O⟩,HO ho h.map O,h.keys,λj t d=>?_,h.inj,h.out,b,h.zero,h.n1,h.n2,h.qs,hn⟩;obtain⟨w,m,e,u,g,s,i⟩:=h.wd j t d;exact⟨w,m,e,u,Ws ho g (h.out j (h.dK d)).2.1,s,i⟩
theorem fL.word (h:fL σ F p q r l B sp){w:Nat}{v:Int}(hk:sp.st[w/32]?=some 2){σ':Hp}{cs:List Value}(h32:32<=cs.length)(ho:QC σ σ' (B (w/32)))(hcs:∀j,j<32->cs[j]?=some (.int .i64 (sp.wd (32*(w/32)+j))))
 (hb:bX σ' (B (w/32)) (cs.set (w%32) (.int .i64 v))):fL σ' F p q r l B {sp with wd:=λu=>if u=w then v else sp.wd u}:=by
 have y:=h.out _ hk;obtain⟨c,D,hd⟩:=h.hd;obtain⟨rest,a⟩:=h.row;refine⟨⟨c,D,Ws ho hd O⟩,⟨rest,Ws ho a O⟩,HO ho h.map O,h.keys,λj t s=>?_,h.inj,h.out,h.fs,λu m=>?_,h.n1,h.n2,h.qs,h.pk⟩
 ·obtain⟨A,z,x,d,E,G,C⟩:=h.wd j t s;by_cases hjk:j=w/32
  ·subst hjk;refine⟨A,z,x,_,hb,by simpa using h32,λi b=>?_⟩;rw[oc];by_cases hiw:w%32=i
   ·rw[zB hiw,zB O];simp only;rw[zB O]
   ·rw[zA hiw];simp only;rw[zA O];exact hcs i b
  ·have g:B j≠B (w/32):=λe=>hjk (h.inj _ _ (h.dK s) hk e);refine⟨A,z,x,d,Ws ho E g,G,λi b=>?_⟩;rw[C i b];simp only;rw[zA O]
 ·have:u≠w:=λe=>by subst e;exact m hk
  simp only;rw[zA this];exact h.zero u m
theorem NA (h:dE σ F p sp)(g:Gc σ){w:Nat}(hw:w/32<sp.st.length)(v:Int){R:aP}(hR:∀σ',Ext F σ σ'->dE σ' (Grow F σ) p (oe sp w v)->R σ') :
 Zk.c (aW p) (w:Int) v σ R:=by
 refine Zk.o ?_;unfold Zk.v;obtain⟨q,r,l,B,h⟩:=h;have P:=h.n2;have x:sp.st[w/32]?=some sp.st[w/32]:=cM hw;have tm:((w:Int).tmod 32)=((w%32:Nat):Int):=by rw[Q9 O];simp
 have word:∀(u:Hp) (s':Sp) (l':List (Int×Sl)) (B':Nat->Nat),Ext F σ u->fL u (Grow F σ) p q r l' B' s'->s'.st[w/32]?=some 2->({s' with wd:=λz=>if z=w then v else s'.wd z}:Sp)=oe sp w v →
  bS (some ⟨p,0,none⟩) λU=>mQ (U.add 1) u λQ=>Lk .i64 .s Q ((w/32:Nat):Int) u λG=>Nz 32<|Ix (G.getD ⟨none,0,0⟩).a (G.getD ⟨none,0,0⟩).len ((w:Int).tmod 32) 1 λa53=>dG a53 (.int .i64 v) u λv1=>R v1:=by
  intro u s' l' B' eu hu A he;refine aG (hu.rM ⟨l',hu.map,nz aB ?_⟩);obtain⟨s,hs,w1,w2,w3,cs,w4,w5,w6⟩:=hu.entry A;rw[hs,tm];simp only[pN];rw[w1];refine ix O O ?_;rw[add_lit,show 0+((w%32:Nat):Int).toNat*1=w%32 by omega];refine w4.s0 O λu2 o2 M=>?_;have h2:=hu.word (v:=v) A w5 o2 w6 M;rw[he]at h2;exact hR u2 (eu.fF o2.ext λb d=>by subst d;exact(hu.out _ A).1) ⟨_,_,_,_,h2⟩
 refine nz aB (cA (m:=w/32) (by rw[YK O];simp) O (Jn.intro (aG (h.rS λcap D=>ix O aC ?_))));rw[add_lit,show 0+((w/32:Nat):Int).toNat*2=2*(w/32) by omega];refine h.xZ x (lI (n:=true) g.d0 (lI (n:=true) g.d1 ?_));have e0:(((fN sp.st[w/32]).1==true)&&(((fN sp.st[w/32]).2==true)&&true))=(sp.st[w/32]==2):=BS (h.qs _ (zc hw)) (y:=2) O;rw[e0];refine cU (λhd=>?_) λhd=>?_
 ·have E:sp.st[w/32]≠2:=by simpa using hd
  refine aG (h.rS λcap D=>lI (n:=true) g.d0 (lI (n:=true) g.d1 (ix O aC ?_)));rw[add_lit,show 0+((w/32:Nat):Int).toNat*2=2*(w/32) by omega];obtain⟨rest,H⟩:=h.row;refine H.s1 (by rw[zK,Vi];omega) λu1 o1 b1=>b1.s1 (by rw[oP,zK,Vi];omega) λu2 o2 M=>?_;rw[zt]at M;have V:bX u2 q (ia (sp.st.set (w/32) 2)++rest):=by rw[←EA hw];exact M
  have e2:Ext (· = q) σ u2:=o1.ext.trans o2.ext;obtain⟨c,hc,J⟩:=h.hd;have C:=e2.bZ J h.fs.2.2.2.1;refine⟨λm=>bX m p [.slice (some ⟨q,0,none⟩) sp.st.length c,.map (some r),.int .i64 (sp.pk:Int)],C,aG ⟨some r,λm hm=>by rw[add_lit,hm.cell];rfl,?_⟩⟩;refine mk (n:=32) O O λu3 hz3 K b3=>⟨Ext.bZ K C id,?_⟩;have b3':bX u3 u2.size (List.replicate 32 (.int .i64 0)):=b3;have q3:=Ext.bZ K V id;have W:=e2.gL h.map (λe=>h.fs.2.2.2.2.2 e.symm);refine⟨r,l,rfl,Ext.gL K W id,λu4 o4 Z=>?_⟩;have sz2:u2.size=σ.size:=by rw[o2.1,o1.1]
  have hrlt:=h.map.lt;have hplt:=J.lt;have e4:Ext (λb=>b=q\/b=r) σ u4:=((e2.sub λb d=>.inl d).trans (bO.to K)).trans (o4.ext.sub λb d=>.inr d);have N:=h.AI hw (by rw[x];simpa using E) (s:=⟨some ⟨u2.size,0,none⟩,32,32⟩) (b:=u2.size) e4 (λi _ L=>L) O (Ws o4 q3 h.fs.2.2.2.2.2) Z rfl rfl rfl (Ws o4 b3' O);obtain⟨c4,Y,j⟩:=N.hd;refine aG (j.rI rfl (aG (j.rM rfl ⟨_,N.map,aG ?_⟩)));rw[N.se];have hcl:(sp.st.set (w/32) 2).count 2<=1024:=zI vq (by simpa using P);have hpk:=h.pk;have hv:(if((List.count 2 (sp.st.set (w/32) 2):Nat):Int)>(sp.pk:Int)then((List.count 2 (sp.st.set (w/32) 2):Nat):Int)else(sp.pk:Int))=((max sp.pk ((sp.st.set (w/32) 2).count 2):Nat):Int):=by
   by_cases hgt:((List.count 2 (sp.st.set (w/32) 2):Nat):Int)>(sp.pk:Int)
   ·rw[zB hgt];omega
   ·rw[zA hgt];omega
  simp only;rw[hv];refine j.s1 aA λu5 o5 b5=>?_;have h5:=N.dO O o5 Y b5;have e5:Ext F σ u5:=(e4.sub λb d=>by
   rcases d with rfl|rfl
   ·exact h.fs.2.1
   ·exact h.fs.2.2.1).trans (o5.ext.sub λb d=>by subst d;exact h.fs.1)
  refine word u5 _ _ _ e5 h5 (by simp only;rw[oc,zB rfl,zB hw]) ?_;unfold oe;rw[zA (by rw[zL,x];exact E)]
 ·have S:sp.st[w/32]=2:=by simpa using hd
  rw[S]at x;have X:fL σ (Grow F σ) p q r l B sp:={h with out:=λk A=>⟨.inl (h.out k A).1,(h.out k A).2⟩,fs:=⟨.inl h.fs.1,.inl h.fs.2.1,.inl h.fs.2.2.1,h.fs.2.2.2⟩};refine word σ sp l B (Ext.refl _ _) X x ?_;unfold oe;rw[zB (by rw[zL,x];rfl)];have:sp.st.set (w/32) 2=sp.st:=by
   apply zz;intro i;rw[oc];by_cases L:w/32=i
   ·subst L;rw[zB rfl,zB hw,x]
   ·rw[zA L]
  rw[this]
theorem MM (h:dE σ F p sp)(g:Gl σ)(gd:Gc σ)(x:Int)(hx:x<=9223372036854775807)(v:Int){R:aN}(hR:∀σ',Ext F σ σ'->dE σ' (Grow F σ) p (UU sp x v)->R (j6 sp x) σ') :
 YF.c (aW p) x v σ R:=by
 refine YF.o ?_;unfold YF.v;have i:dE σ (Cut F σ) p sp:=dR.cut dE.loc h;refine Og h g x hx λz e=>?_;have w:=i.bK e;have D:=g.bK e;refine cU (λu=>?_) λu=>?_
 ·have s:¬j6 sp x=0:=by simpa using u
  refine hR z (bO.to e) ?_;unfold UU;rw[zA s];exact dR.mono dE.loc w λb _ a=>.inl a.1
 ·have d:j6 sp x=0:=by simpa using u
  have j:0<=x/\sp.st.getD (x.toNat/256) 0≠0:=by
   unfold j6 at d;by_cases a:x<0\/x%8≠0
   ·rw[zB a]at d;cases d
   ·rw[zA a]at d;by_cases hz:sp.st.getD (x.toNat/256) 0=0
    ·rw[zB hz]at d;cases d
    ·exact⟨O,hz⟩
  obtain⟨y,rfl⟩:=zk j.1;have r:y/8/32<sp.st.length:=by
   rcases l8 (y/256) sp.st.length with h|h
   ·omega
   ·exact absurd (by rw[zL,zY (by simpa using h)];rfl) j.2
  refine nz aB (cA (m:=y/8) (by rw[YK O];simp) O (NA w (gd.bK e) r v λC A B=>?_));have:=hR C (Ext.cut ((bO.to e).trans A)) ?_
  ·rw[d]at this;exact this
  ·unfold UU;rw[zB d];exact dR.mono dE.loc B λb _ a=>by
    rcases a with a|a
    ·exact .inl a.1
    ·exact .inr (zI e.1 a)
def Vq (n:Nat):Sp:=⟨List.replicate n 0,λ_=>0,0⟩
theorem N3 {σ:Hp}{F:Rg}{p q r n c:Nat}(h1:1<=n)(h2:n<=1024)(hc:n<=c)(hd:bX σ p [.slice (some ⟨q,0,none⟩) n c,.map (some r),.int .i64 0])(hq:bX σ q (ia (List.replicate n 0)))(hr:dL σ r .i64 .s [])
 (hF:F p/\F q/\F r) (hne:p≠q/\p≠r/\q≠r):fL σ F p q r [] (λ_=>0) (Vq n):=by
 have b:∀k:Nat,(List.replicate n 0)[k]?≠some 2:=λk a=>by
  rw[nk]at a;split at a<;>cases a
 refine⟨⟨c,by simpa[Vq]using hc,by simpa[Vq]using hd⟩,⟨[],by simpa[Vq]using hq⟩,hr,λx=>?_,λk s e=>(by cases e),λk g h1=>absurd h1 (b k),λk a=>absurd a (b k),⟨hF.1,hF.2.1,hF.2.2,hne⟩,λw _=>rfl,by simpa[Vq]using h1,by simpa[Vq]using h2,λx d=>?_,by simp[Vq]⟩
 ·constructor
  ·intro h;cases h
  ·rintro⟨k,_,a⟩;exact absurd a (b k)
 ·have:=Dz d;omega
theorem Tt {n:Nat}(h1:1<=n)(h2:n<=1024){R:Option Addr->Int->Hp->Prop}(hR:∀σ' p',bO σ σ'->σ.size<=p'->dE σ' (λb=>σ.size<=b) p' (Vq n)->R (some ⟨p',0,none⟩) 0 σ'):Q0.c (n:Int) σ R:=by
 refine Q0.o ?_;unfold Q0.v;refine bY.intro (fG O ?_);rw[zh O];refine cG rfl (mk O O λe w u m=>tz λz y d r=>nw (cs:=[.slice (some ⟨σ.size,0,none⟩) n n,.map (some e.size),.int .i64 0]) λg x a p=>?_);have i:=Ext.bZ a (Ext.bZ d m id) id;have j:=Ext.gL a (r .i64 .s) id;refine hR g _ (Ext.trans (Ext.trans u d) a) O ⟨σ.size,e.size,[],_,N3 h1 h2 (zD _) p ?_ j ⟨O,O,O⟩ O⟩;rw[SG];exact i
end Go.Ar
namespace Go.Vc
open Go
def yQ (h:Hp)(it r:Nat):Nat:=
 match h[it]?,h[r]? with
 | some (.mapIter _ _ seen _),some (.map es _)=>(es.toList.filter λe=>!seen.contains e.born).length
 | _,_=>0
variable {σ:Hp}{k:IntKind}{c:CK}{l todo:List (Int×c.T)}{cur:Option (Int×c.T)}{r it:Nat}
theorem It.num {h:Hp}(hi:It h it k c (some r) l todo cur):yQ h it r=todo.length:=by
 obtain⟨i,b,a,g,e,u,s,m,j,d,p⟩:=hi;unfold yQ;rw[g,e];have:=congrArg List.length d;simpa using this
theorem It.bU {h h':Hp}(hi:It h it k c (some r) l todo cur)(h1:h'[it]?=h[it]?)(h2:h'[r]?=h[r]?):It h' it k c (some r) l todo cur:=by
 obtain⟨d,b,a,g,e,rest⟩:=hi;exact⟨d,b,a,h1.trans g,h2.trans e,rest⟩
theorem vP {A:aP}{body:Int->c.T->Hp->(Hp->Prop)->Prop}(hm:dL σ r k c l)(I:List (Int×c.T)->Hp->Prop)
 (h0:∀v,v.size=σ.size+1->bO σ v->I l v)
 (hend:∀v,I [] v->A v)
 (hstep:∀todo n x v v' (J:aP),I todo v->(n,x)∈todo->QC v v' σ.size->σ.size<v.size->(∀w,w[σ.size]?=v'[σ.size]?->w[r]?=v'[r]?->I (todo.filter λy=>!(y.1==n)) w->J w)->body n x v' J) :
 sr k c (some r) σ λit v3=>W7 [] (λI=>I v3) λJ1 v4=>rQ k c it v4 (A v4) λ_ _ v5=>rX k c it v5 λkey1 val1=>body key1 val1 v5 J1:=by
 refine⟨l,hm,λv L M D=>?_⟩;have N:bO σ v:=⟨O,λb j _=>M b j⟩;refine FN (λw=>∃todo a,It w σ.size k c (some r) l todo a/\I todo w/\σ.size<w.size) (λw=>yQ w σ.size r) ⟨l,none,D,h0 v L N,O⟩ ?_;rintro w ⟨todo,a,g,B,m⟩;refine⟨rfl,some r,l,todo,a,g,λE=>?_,λn x C K G e=>?_⟩
 ·subst E;exact hend w B
 ·refine⟨rfl,some r,l,_,n,x,e,hstep todo n x w K _ B C G m λu p s i=>?_⟩;have d:=e.bU p s;refine⟨⟨_,_,d,i,?_⟩,?_⟩
  ·obtain⟨P,H,z,F,_⟩:=d;exact(mF.1 F).1
  ·rw[d.num,g.num];exact List.length_filter_lt_length_iff_exists.2 ⟨(n,x),C,by simp⟩
theorem sK {a:CK}{x0:a.T}{A:a.T->Hp->Prop}{body:Int->c.T->a.T->Hp->(a.T->Hp->Prop)->Prop}(hm:dL σ r k c l)(I:List (Int×c.T)->a.T->Hp->Prop)
 (h0:∀v,v.size=σ.size+1->bO σ v->I l x0 v)
 (hend:∀z v,I [] z v->A z v)
 (hstep:∀todo n x z v v' (J:a.T->Hp->Prop),I todo z v->(n,x)∈todo->QC v v' σ.size->σ.size<v.size->(∀z' w,w[σ.size]?=v'[σ.size]?->w[r]?=v'[r]?->I (todo.filter λy=>!(y.1==n)) z' w->J z' w)->body n x z v' J) :
 sr k c (some r) σ λit v3=>W7 [a] (λI=>I x0 v3) λJ1 z v4=>rQ k c it v4 (A z v4) λ_ _ v5=>rX k c it v5 λkey1 val1=>body key1 val1 z v5 J1:=by
 refine⟨l,hm,λv N P F=>?_⟩;have Q:bO σ v:=⟨O,λb m _=>P b m⟩;refine ZU (a:=a) (λz w=>∃todo d,It w σ.size k c (some r) l todo d/\I todo z w/\σ.size<w.size) (λ_ w=>yQ w σ.size r) ⟨l,none,F,h0 v N Q,O⟩ ?_;rintro z w ⟨todo,d,i,D,p⟩;refine⟨rfl,some r,l,todo,d,i,λG=>?_,λn x E M K g=>?_⟩
 ·subst G;exact hend z w D
 ·refine⟨rfl,some r,l,_,n,x,g,hstep todo n x z w M _ D E K p λz' u s B j=>?_⟩;have e:=g.bU s B;refine⟨⟨_,_,e,j,?_⟩,?_⟩
  ·obtain⟨R,L,C,H,_⟩:=e;exact(mF.1 H).1
  ·rw[e.num,i.num];exact List.length_filter_lt_length_iff_exists.2 ⟨(n,x),E,by simp⟩
end Go.Vc
namespace Go.Ar
open Go Go.Vc Go.Proofs
open Go.Bu (Zf)
variable {σ:Hp}{F:Rg}{p q r:Nat}{sp:Sp}{l:List (Int×Sl)}{B:Nat->Nat}
theorem Vf {α:Type}{l:List (Int×α)}(hn:(l.map (·.1)).Nodup){n:Int}{x:α}(h:(n,x)∈l):bV l n=some x:=by
 induction l with
 | nil=>simp at h
 | cons y l ih=>
  rw[Kh];simp only[zJ,zq]at hn;rcases zQ.1 h with h1|h1
  ·subst h1;rw[zB rfl]
  ·have:¬y.1=n:=λe=>hn.1 (zC.2 ⟨_,h1,e.symm⟩);rw[zA this];exact ih hn.2 h1
end Go.Ar
namespace Go.Bu
open Go Go.Vc Go.Proofs
variable {σ:Hp}{p n sb:Nat}{S:Nat->Bool}{ms:List Nat}
def kX (ms:List Nat):List Value:=ms.map λm=>Value.map (some m)
structure Part (B:Nat) (h:Hp) (p n:Nat) (j:Nat) (s:Sl) (ms:List Nat):Prop where
 len:ms.length=j
 sl:s.len=j
 hd:bX h p [.int .i64 n,.slice s.a s.len s.cap]
 own:Own (λb=>B<=b/\b≠p/\b∉ms) h s 1 (kX ms)
 new:∀m∈ms,B<=m/\m≠p/\m<h.size
 nd:ms.Nodup
theorem Part.done {B:Nat}{h:Hp}{j:Nat}{s:Sl}(hp:Part B h p n j s ms)(hB:B<=p)(hj:0<j)(n1:1<=n)(n2:n<=1024)(lo:2^j<=2*n)(hi:n<2^j)(jC:Bounded S n)
 (maps:∀k m,ms[k]?=some m->∃B:List (Int×Bool),dL h m .i64 .b B/\Keys S k B):∃sb,BH h p n S sb ms/\∀b,fp p sb ms b->B<=b:=by
 rcases hp.own.2 with⟨_,hl,_⟩|⟨sb,cs,⟨hq,hqp,hqm⟩,ha,hb,hle,hcl,ht⟩
 ·have:=hp.sl;omega
 ·refine⟨sb,⟨?_,?_,maps,?_,n1,n2,?_,?_,jC⟩,?_⟩
  ·refine⟨s.cap,?_⟩;have:=hp.hd;rw[ha,hp.sl,←hp.len]at this;exact this
  ·refine⟨cs.drop (kX ms).length,?_⟩;have:kX ms++cs.drop (kX ms).length=cs:=by
    conv=>lhs;lhs;rw[←ht]
    exact mZ _ _
   show bX h sb (kX ms++_);rw[this];exact hb
  ·simp only[zq,zQ,not_or];exact⟨⟨λe=>hqp e.symm,λa=>(hp.new p a).2.1 rfl⟩,hqm,hp.nd⟩
  ·rw[hp.len];exact lo
  ·rw[hp.len];exact hi
  ·intro b hb;simp only[fp,zQ]at hb;rcases hb with rfl|rfl|h
   ·exact hB
   ·exact hq
   ·exact(hp.new b h).1
theorem Part.Mh {B:Nat}{h:Hp}{j:Nat}{s:Sl}(hp:Part B h p n j s ms):cell h ⟨p,1,none⟩=some (.slice s.a s.len s.cap):=by rw[hp.hd.cell];rfl
theorem Part.bK {B:Nat}{h h':Hp}{j:Nat}{s:Sl}(hp:Part B h p n j s ms)(e:bO h h'):Part B h' p n j s ms:=
 ⟨hp.len,hp.sl,e.bZ hp.hd id,hp.own.bK e,λm a=>⟨(hp.new m a).1,(hp.new m a).2.1,vL (hp.new m a).2.2 e.1⟩,hp.nd⟩
theorem Part.step {B:Nat}{h:Hp}{j m e t bytes:Nat}{s:Sl}{zs:List Value}{K:Sl->Hp->Prop}(hp:Part B h p n j s ms)(hj:j<=1000)(hbt:bytes<=1000)(hz:zs.length=1)(hm:B<=m)(hmp:m≠p)(hml:m<h.size)(hmn:m∉ms)(hms:¬HA s m)
 (hpB:p<h.size) (hBh:B<=h.size)
 (hgo:∀s' h',Ext (HA s) h h'->s'.len=j+1->bX h' p [.int .i64 n,.slice s.a s.len s.cap] →
  (∀h2,QC h' h2 p->bX h2 p [.int .i64 n,.slice s'.a s'.len s'.cap]->Part B h2 p n (j+1) s' (ms++[m]))->K s' h') :
 App s 1 bytes e zs ⟨some ⟨h.size,0,none⟩,1,1⟩ (h.push (.cells #[.map (some m)] t (0,0))) K:=by
 have N:=hp.sl;have u:Own (λb=>B<=b/\b≠p/\b∉ms++[m]) (h.push (.cells #[.map (some m)] t (0,0))) s 1 (kX ms):=by
  have g:=hp.own;have h2:Own (λb=>B<=b/\b≠p/\b∉ms++[m]) h s 1 (kX ms):=by
   refine⟨g.1,g.2.imp id ?_⟩;rintro⟨b,cs,⟨q1,q2,q3⟩,ha,r⟩;refine⟨b,cs,⟨q1,q2,?_⟩,ha,r⟩;simp only[zR,zV,not_or];exact⟨q3,λe=>hms ⟨0,by rw[ha,e]⟩⟩
  exact h2.bK (HP _ _)
 have z:(h.push (.cells #[.map (some m)] t (0,0))).size=h.size+1:=by simp
 refine u.app (ys:=[.map (some m)]) ?_ hz rfl ML (by simp[dN]) ?_ ?_ nA λs' h' C L J M=>?_
 ·intro b i;rw[z]at i;refine⟨O,O,?_⟩;simp only[zR,zV,not_or];exact⟨λw=>by have:=(hp.new b w).2.2;omega,O⟩
 ·simp only;have:(s.len+1)*bytes<=1001*1000:=kL O hbt;omega
 ·simp only;omega
 ·simp only at C;have d:Ext (HA s) h h':=(HP h _).to.trans L;have A:¬HA s p:=λi=>(hp.own.jG i).1.2.1 rfl;refine hgo s' h' d O (d.bZ hp.hd A) λh2 y D=>⟨by simp[hp.len],O,D,?_,?_,?_⟩
  ·have:kX (ms++[m])=kX ms++[.map (some m)]:=by simp[kX]
   rw[this];exact J.bU (Ext.eR (F:=(· = p)) y rfl) (λb G _ H=>G.2.1 H)
  ·intro x hx;have E:h2.size=h'.size:=y.1;have:=d.1;rcases zR.1 hx with g|g
   ·have:=hp.new x g;exact⟨this.1,this.2.1,O⟩
   ·simp at g;subst g;exact⟨hm,hmp,O⟩
  ·rw[og];refine⟨hp.nd,by simp,?_⟩;intro a ha b i;simp at i;subst i;rintro rfl;exact hmn ha
def iK:Nat->Bool:=λ_=>false
theorem Mu (k:Nat):Keys iK k []:=by
 refine⟨by simp,λq a=>?_⟩;have:=KV a (Ky k q);simp[iK]at this
theorem tG (aF:Int){R:Option Addr->Int->Hp->Prop}(hbad:¬(1<=aF/\aF<=1024)->R none 1 σ)
 (hR:∀(n:Nat),aF=(n:Int)->1<=n->n<=1024->∀σ' sb ms,bO σ σ'->BH σ' σ.size n iK sb ms->(∀b,fp σ.size sb ms b->σ.size<=b)->R (some ⟨σ.size,0,none⟩) 0 σ'):QY.c aF σ R:=by
 refine QY.o ?_;unfold QY.v;refine bY.intro (cI (λg=>cJ rfl (hbad O)) λg=>?_);refine cI (λh2=>hbad O) λh2=>?_;obtain⟨n,rfl⟩:=zk (show 0<=aF by omega);have P:1<=n:=by omega
 have M:n<=1024:=by omega
 unfold Nw;have e0:=HP σ (.cells #[.int .i64 (n:Int),.slice none 0 0] 52 (0,0));refine ZU (a:=bN) (λt h=>∃(j:Nat) (s:Sl) (ms:List Nat),t=((2^j:Nat):Int)/\2^j<=2*n/\bO σ h/\σ.size<h.size/\Part σ.size h σ.size n j s ms/\∀m∈ms,dL h m .i64 .b []) (λt _=>2*n+1-t.toNat)
  ⟨0,⟨none,0,0⟩,[],rfl,by simp;omega,Ext.push _ _ _,by simp,⟨rfl,rfl,bX.push _ _ _,Own.nil _ _ _,by simp,by simp⟩,by simp⟩ ?_
 rintro t h ⟨j,s,ms,rfl,B,N,W,d,y⟩;have hj:j<=11:=by
  apply Classical.byContradiction;intro hc;have:2^12<=2^j:=oM aB O;omega
 have Q:=lb j;refine cI (λX=>?_) (λH=>?_)
 ·refine aG ?_;rw[add_lit,zG];refine oh d.Mh ?_;have C:=HP h (.map #[] 0);have U:(h.push (.map #[] 0)).size=h.size+1:=by simp
  have A:=d.bK C;refine A.step (m:=h.size) O O rfl O O O (λw=>by have:=(d.new _ w).2.2;omega) (λu=>by have:=(d.own.jG u).2;omega) O O λs' h' J hl u r=>?_;refine aG (u.NO aA λh2 z L=>?_);have E:=r h2 z L;have G:bO σ h2:=by
   refine Ext.fresh (Ext.fresh (N.trans C) J λi D=>(d.own.jG D).1.1) (Ext.eR (F:=(· = σ.size)) z rfl) λi D=>?_;rw[D];exact zD _
  refine cA (m:=2^(j+1)) (by rw[mW];omega) (by rw[mW];omega) ⟨⟨j+1,s',ms++[h.size],rfl,by rw[mW];omega,G,?_,E,?_⟩,by rw[mW];omega⟩
  ·have:=z.1;have:=J.1;omega
  ·intro m w;have p7:∀{m:Nat},dL (h.push (.map #[] 0)) m .i64 .b []->¬HA s m->m≠σ.size->dL h2 m .i64 .b []:=λhM Z K=>HO z (J.gL hM Z) K;rcases zR.1 w with g|g
   ·exact p7 (C.gL (y m g) id) (λu=>(d.own.jG u).1.2.2 g) (d.new m g).2.1
   ·simp at g;subst g;exact p7 (dL.push _ _ _) (λu=>by have:=(d.own.jG u).2;omega) O
 ·have p:0<j:=by
   rcases wk j with e|e
   ·subst e;simp at H;omega
   ·exact e
  obtain⟨sb,hB,V⟩:=d.done (S:=iK) (zD _) p P M B O (λx Y=>by simp[iK]at Y) λk m w=>⟨[],y m (zE w),Mu k⟩;exact hR n rfl P M h sb ms N hB V
end Go.Bu
namespace Go.Proofs
open Go.Vc
set_option maxRecDepth 100000
def X2.h:Hn:=.q .o6 (.q (.q .o3 (.c (.q .o6 .l) .l)) (.q .o5 (.q (.q .o6 (.k (.loop [(8,.I),(9,.I),(10,.I),(11,.I),(28,.I)] (.q .o1 (.q (.c .l .l) (.q (.k (.q .o6 (.q .o7 (.q .fV (.q (.cV (.held true [] (.tk [0,1,2,3,4,5,6,7,10,11] (.all [(8,.tk [9,12,13,14] (.done))])))) (.q (.cV (.held true [] (.tk [0,1,2,3,4,5,6,7,9,10] (.all [(8,.tk [11,12,13] (.done))])))) (.q .o6 .o7))))))) .o2)))))) (.q (.q .o5 (.k (.loop [(12,.I)] (.q (.cV (.seq [.it .i64 bN,.op])) (.q (.c .l .l) (.k (.q (.cV (.seq [.it .i64 bN,.op,.op])) .o4))))))) (.q (.o 16) .l)))))
def X2.v (a:R2)(b:Hp)(c:Int->Int->Int->Int->Int->Int->Hp->Prop):Prop:=WD.c a b λd e=>If (!d) (c 0 0 0 0 0 0 e) (bE a 0 e λg=>W7 [bN,bN,bN,bN,bN] (λh=>h 0 0 0 0 0 e) λi (j:Int) (k:Int) (l:Int) (m:Int) (n:Int) o=>If (n<((g.len:Nat):Int)) (Ix g.a g.len n 3 λp=>aQ p 0 o λq=>aQ p 1 o λr=>aQ p 2 o λs=>aV #[.I 0,.I 0,.I 0] 31 o λt u=>aR t 0 (.I q) u λv=>aR t 1 (.I r) v λw=>aR t 2 (.I s) w λx=>aQ t 0 x λy=>aQ t 1 x λz=>aQ t 2 x λaa=>Qp.c y z aa x λab ac ad=>bE a 5 ad λaf=>Ix af.a af.len n 1 λag=>fW ag ad λah=>X7.c ah ad λai aj=>dU aj λak=>bS a λal=>aT ak al 6 λam=>Ix am.a am.len n 1 λan=>gP ak .p an λ(ao:R2)=>aS ak t 0 λap=>W1.c ao aj λaq ar=>And (ak ar) <| bL (((aq.len:Nat):Int)*ap) λau=>bL (j+au) λav=>dU ar λaw=>bS a λax=>aT aw ax 5 λay=>Ix ay.a ay.len n 1 λaz=>gP aw .p az λ(a0:R2)=>aS aw t 0 λa1=>Yz.c a0 ar λa2 a3=>And (aw a3) <| bL (a2*a1) λa4=>bL (k+a4) λa5=>bL (((ai.len:Nat):Int)*ab) λa6=>bL (l+a6) λa7=>aQ t 1 a3 λa8=>bL (((ai.len:Nat):Int)*a8) λa9=>bL (m+a9) λba=>bL (n+1) λbb=>i av a5 a7 ba bb a3) (bI a 7 o λbd=>sr .i64 bN bd o λbe bf=>
 W7 [bN] (λbg=>bg 0 bf) λbh (bi:Int) bj=>rQ .i64 bN be bj (bF a 2 bj λbl=>Zs.c bl bj λbm bn=>c j k l m bi bm bn) (λbo bp bq=>rX .i64 bN be bq λbr bs=>bL (bi+bs) λbt=>bh bt bq)))
theorem X2.o {a b c}(d:X2.v a b c):X2.c a b c:=Wa Tryz.func74 (x:=X2.h) (R0 d)
def YZ.h:Hn:=.q .o3 (.q (.q .o3 (.c (.q .o3 .l) .l)) (.q (.q .o2 (.c (.q .o3 .l) .l)) (.q .o8 (.q (.q .o2 (.c (.q .o3 .l) .l)) (.jD [] (.q .o2 (.c (.q .o5 (.k (.loop [] (.q (.cV (.seq [.it .i64 bN,.op])) (.q (.c .l .l) (.k (.q (.cV (.seq [.it .i64 bN,.op,.op,.op,.op])) (.q .o3 (.q (.cV (.seq [.op,.op,.op,.op,.dA true 5 (RI.ops 5)])) (.c (.q .o5 .l) .l)))))))))) .l)) (.q (.o 15) (.q (.q .o2 (.c (.q .o4 .l) .l)) (.q .o6 .l))))))))
def YZ.v (a:R2)(b:Int)(c:Hp)(d:Int->Int->Int->Hp->Prop):Prop:=WD.c a c λe f=>If (!e) (d 0 0 5 f) (If (b<0) (d 0 0 8 f) (bF a 4 f λh=>Nz 256<|bL (b.tdiv 256) λi=>Zt.c h i f λj k=>If (j==0) (d 0 0 8 k) (Jn [] (λl=>bE a 5 l λn=>bL (j-1) λo=>Ix n.a n.len o 1 λp=>fW p l λq=>Yw.c q b l λr s t=>If (s != 0) (d 0 0 s t) (bL (j-1) λu=>d u r 0 t)) λv=>If (j==41) (bI a 7 k λx=>sr .i64 bN x k λy z=>W7 [] (λaa=>aa z) λab ac=>rQ .i64 bN y ac (v ac) (λad ae af=>rX .i64 bN y af λag ah=>Nz 256<|bL (b.tdiv 256) λai=>bY (λaj ak=>If aj (bL (ag*256) λal=>d (-1) al 0 ak) (ab ak)) λam=>If (ag<=ai) (bL (ag+ah) λan=>am (decide (ai<an)) af) (am false af))) (v k))))
theorem YZ.o {a b c d}(e:YZ.v a b c d):YZ.c a b c d:=Wa Tryz.func76 (x:=YZ.h) (R0 e)
def WD.h:Hn:=.q .o1 (.q (.cV (.seq [.op,.op,.op,.dA true 5 (RI.ops 5),.op])) .l)
def WD.v (a:R2)(b:Hp)(c:aO):Prop:=bY (λd e=>c d e) λf=>If (!a.isNone) (bF a 1 b λh=>f (!h.isNone) b) (f false b)
theorem WD.o {a b c}(d:WD.v a b c):WD.c a b c:=Wa Tryz.func106 (x:=WD.h) (R0 d)
def Y5.h:Hn:=.q .o1 (.q (.cV (.seq [.op,.op,.op,.dA true 7 (RI.ops 7),.op])) .l)
def Y5.v (a:R2)(b:Int)(c:Hp)(d:aO):Prop:=WD.c a c λe f=>bY (λg h=>d g h) λi=>If e (bF a 3 f λk=>X9.c k b f λl m=>i (decide (l>0)) m) (i false f)
theorem Y5.o {a b c d}(e:Y5.v a b c d):Y5.c a b c d:=Wa Tryz.func113 (x:=Y5.h) (R0 e)
def Q1.h:Hn:=.q .o2 (.q (.q .o3 .aJ) (.q .o3 (.q (.q (.cV (.seq [.op,.op,.op,.dA false 3 (RI.ops 3),.op,.dA false 2 [.op,.op],.op,.dA false 2 [.op,.op]])) .aJ) (.q .o8 (.q .o9 (.q .o9 (.q (.q .o3 (.k (.loop [(61,.I)] (.q .o1 (.q (.c .l .l) (.q (.k (.q .o4 (.q .o7 (.q .o9 (.cV (.hO true [18,21] [] (.tk [0,1,2,3,4,5,6,9,10,11,12,13] (.all [(7,.all [(8,.all [(14,.all [(15,.take 16 (.take 17 (.all [(18,.take 19 (.take 20 (.all [(21,.done)])))])))])]),(14,.all [(8,.all [(15,.take 16 (.take 17 (.all [(18,.take 19 (.take 20 (.all [(21,.done)])))])))])])]),(14,.all [(7,.all [(8,.all [(15,.take 16 (.take 17 (.all [(18,.take 19 (.take 20 (.all [(21,.done)])))])))])])])])))))))) .o2)))))) (.q .o3 .l))))))))
def Q1.v (a:Sl)(b:R2)(c:Int)(d:Hp)(e:Option Addr->Int->Hp->Prop):Prop:=ZG.c a d λf g=>If (!f) (e none 2 g) (Xw.c b g λh i=>bY (λj k=>bY (λl m=>bY (λn o=>If n (e none 1 o) (Wc.c a o λp q=>Qf.c q λr s=>Nw (.map #[] 0) s λt u=>aV #[.slice p.a p.len p.cap,.pointer b,.pointer none,.pointer none,.pointer r,.slice none 0 0,.slice none 0 0,.map (some t.block)] 177 u λv w=>QY.c h w λx y z=>bS (some v) λaa=>aR aa 2 (.pointer x) z λab=>Ku.c h ab λac ad ae=>bS (some v) λaf=>aR af 3 (.pointer ac) ae λag=>W7 [bN] (λah=>ah 0 ag) λai (aj:Int) ak=>If (aj<((a.len:Nat):Int)) (Ix a.a a.len aj 3 λal=>aQ al 0 ak λam=>aQ al 1 ak λan=>aQ al 2 ak λao=>aV #[.I 0,.I 0,.I 0] 31 ak λap aq=>aR ap 0 (.I am) aq λar=>aR ap 1 (.I an) ar λau=>aR ap 2 (.I ao) au λav=>aQ ap 0 av λaw=>aQ ap 1 av λax=>aQ ap 2 av λay=>Qd.c aw ax ay av λaz a0 a1=>aQ ap 2 a1 λa2=>ZZ.c a2 c a1 λa3 a4 a5=>Jn [] (λa6=>bL (aj+1) λa7=>ai a7 a6) λa8=>dU a5 λa9=>bS (some v) λba=>aT a9 ba 5 λbb=>bS (some v) λbc=>aT a9 bc 6 λbd=>(aV #[.pointer az] 178 a5 λbe bf=>And (a9 bf) <| (App bb 1 8 178 [.pointer none] ⟨some be,1,1⟩ bf λbg bh=>And (a9 bh) <| aV #[.pointer a3] 180 bh λbi bj=>And (a9 bj) <| App bd 1 8 180 [.pointer none] ⟨some bi,1,1⟩ bj λbk bl=>And (a9 bl) <|
 bS (some v) λbm=>aR bm 5 (.slice bg.a bg.len bg.cap) bl λbn=>bS (some v) λbo=>aR bo 6 (.slice bk.a bk.len bk.cap) bn λbp=>a8 bp) ∧ (aV #[.pointer a3] 180 bf λbq br=>And (a9 br) <| App bb 1 8 178 [.pointer none] ⟨some be,1,1⟩ br λbs bt=>And (a9 bt) <| App bd 1 8 180 [.pointer none] ⟨some bq,1,1⟩ bt λbu bv=>And (a9 bv) <| bS (some v) λbw=>aR bw 5 (.slice bs.a bs.len bs.cap) bv λbx=>bS (some v) λbz=>aR bz 6 (.slice bu.a bu.len bu.cap) bx λb0=>a8 b0)) ∧ (aV #[.pointer a3] 180 a5 λb1 b2=>And (a9 b2) <| aV #[.pointer az] 178 b2 λb3 b4=>And (a9 b4) <| App bb 1 8 178 [.pointer none] ⟨some b3,1,1⟩ b4 λb5 b6=>And (a9 b6) <| App bd 1 8 180 [.pointer none] ⟨some b1,1,1⟩ b6 λb7 b8=>And (a9 b8) <| bS (some v) λb9=>aR b9 5 (.slice b5.a b5.len b5.cap) b8 λca=>bS (some v) λcb=>aR cb 6 (.slice b7.a b7.len b7.cap) ca λcc=>a8 cc)) (e (some v) 0 ak))) λcd=>If l (cd true m) (cd (decide (c>8)) m)) λce=>If j (ce true k) (ce (decide (c<0)) k)) λcf=>If (h<32) (cf true i) (Nz 16 <| cf ((h.tmod 16) != 0) i))
theorem Q1.o {a b c d e}(f:Q1.v a b c d e):Q1.c a b c d e:=Wa Tryz.func125 (x:=Q1.h) (R0 f)
def Xl.h:Hn:=.q .o2 (.q (.k (.q .o4 (.c .aL (.q .o3 .aJ)))) (.q (.q .o6 (.k (.loop [(28,.I)] (.q .o1 (.q (.c .l .l) (.q (.k (.q .o3 .o4)) .o2)))))) (.q (.o 11) (.q (.q .o2 (.c (.q .o3 .l) .l)) (.q .o1 (.q (.cV (.tail 10 (RI.ops 10) [.op,.op])) (.q (.q .o3 (.k (.loop [(10,.I),(62,.I)] (.q .o1 (.q (.c .l .l) (.q (.k (.q .o4 (.q (.q .o3 (.k (.loop [(68,.I)] (.q .o1 (.q (.c .l .l) (.q (.k (.q .o3 .o6)) .o2)))))) .o5))) .o2)))))) (.q .o3 .l))))))))
def Xl.v (a:R2)(b:Int)(c:Hp)(d:Int->Int->Hp->Prop):Prop:=WD.c a c λe f=>If (!e) (d 0 5 f) (If (b<0) (d 0 1 f) (bE a 5 f λh=>W7 [bN] (λi=>i 0 f) λj (k:Int) l=>If (k<((h.len:Nat):Int)) (Ix h.a h.len k 1 λm=>fW m l λn=>WW.c n l λo p=>Xg.c a o p λq=>bL (k+1) λr=>j r q) (bF a 3 l λt=>Yv.c t b l λu v w=>If (v != 0) (d 0 v w) (bF a 3 w λy=>bF a 1 w λaa=>Nw (.cells #[.func (.func 192) #[.pointer y] #[],.func (.func 193) #[.pointer aa] #[]] 54 (0,0)) w λab ac=>W7 [bN,bN] (λad=>ad 0 0 ac) λae (af:Int) (ag:Int) ah=>If (ag<((u.len:Nat):Int)) (Ix u.a u.len ag 2 λai=>aQ ai 0 ah λaj=>aQ ai 1 ah λak=>aV #[.I 0,.I 0] 92 ah λal am=>aR al 0 (.I aj) am λan=>aR al 1 (.I ak) an λao=>W7 [bN] (λap=>ap 0 ao) λaq (ar:Int) au=>If (ar<((2:Nat):Int)) (Ix (some ab) 2 ar 1 λav=>Bm av au λaw=>aQ al 0 au λax=>aQ al 1 au λay=>VN Tryz.prog aw [.I ax,.I ay] [.I] au λaz a0=>bL (ar+1) λa1=>aq a1 a0) (aQ al 1 au λa2=>bL (af+a2) λa3=>bL (ag+1) λa4=>ae a3 a4 au)) (d af 0 ah)))))
theorem Xl.o {a b c d}(e:Xl.v a b c d):Xl.c a b c d:=Wa Tryz.func134 (x:=Xl.h) (R0 e)
def Ys.h:Hn:=.q .o1 (.q (.q .o3 .aK) (.q .o6 (.q (.q .o3 (.k (.loop [(16,.I)] (.q .o1 (.q (.c .l .l) (.q (.k (.q .o3 (.q .o6 (.q .o7 .o7)))) .o2)))))) (.q .o3 .l))))
def Ys.v (a:R2)(b:Hp)(c:aN):Prop:=WD.c a b λd e=>If (!d) (c 0 e) (bF a 3 e λg=>YE.c g e λh i=>W7 [bN] (λj=>j 0 i) λk (l:Int) m=>If (l<((h.len:Nat):Int)) (Ix h.a h.len l 1 λn=>bM n m λo=>bF a 3 m λq=>Xi.c q o m λr s=>bF a 2 s λu=>bL (o*16) λv=>XB.c u v 16 s λw x=>bF a 1 x λz=>bL (o*16) λaa=>YC.c z aa 16 x λab ac=>bL (l+1) λad=>k ad ac) (c ((h.len:Nat):Int) m))
theorem Ys.o {a b c}(d:Ys.v a b c):Ys.c a b c:=Wa Tryz.func135 (x:=Ys.h) (R0 d)
def Zc.h:Hn:=.q (.q .o3 (.c .l .l)) (.q .o6 (.k (.loop [(14,.I)] (.q .o1 (.q (.c .l .l) (.q (.k (.q .o5 (.q .o4 (.k (.loop [(22,.I)] (.q .o1 (.q (.c .l .l) (.q (.k (.q .o3 .o4)) .o2)))))))) .o2))))))
def Zc.v (a:R2)(b:Hp)(c:aP):Prop:=WD.c a b λd e=>If (!d) (c e) (bE a 6 e λg=>W7 [bN] (λh=>h 0 e) λi (j:Int) k=>If (j<((g.len:Nat):Int)) (Ix g.a g.len j 1 λl=>fW l k λm=>Xk.c m k λn o=>W7 [bN] (λp=>p 0 o) λq (r:Int) s=>If (r<((n.len:Nat):Int)) (Ix n.a n.len r 1 λt=>jn t s λu=>WC.c a j u s λv w=>bL (r+1) λx=>q x w) (bL (j+1) λy=>i y s)) (c k))
theorem Zc.o {a b c}(d:Zc.v a b c):Zc.c a b c:=Wa Tryz.func136 (x:=Zc.h) (R0 d)
def WB.h:Hn:=.q .o2 (.q (.q .o4 (.q .o2 (.c (.q .o3 .l) .l))) (.q (.o 12) .l))
def WB.v (a:R2)(b:Int)(c:Hp)(d:Sl->Int->Hp->Prop):Prop:=WX.c a b c λe f=>If (e != 0) (d ⟨none,0,0⟩ e f) (bE a 6 f λh=>Ix h.a h.len b 1 λi=>fW i f λj=>Wz.c j f λk l m=>d k l m)
theorem WB.o {a b c d}(e:WB.v a b c d):WB.c a b c d:=Wa Tryz.func174 (x:=WB.h) (R0 e)
def WE.h:Hn:=.q .o2 (.q (.q .o4 (.q .o2 (.c (.q .o3 .l) .l))) (.q (.o 13) .l))
def WE.v (a:R2)(b c:Int)(d:Hp)(e:Sl->Int->Hp->Prop):Prop:=WX.c a b d λf g=>If (f != 0) (e ⟨none,0,0⟩ f g) (bE a 5 g λi=>Ix i.a i.len b 1 λj=>fW j g λk=>Xd.c k c g λl m n=>e l m n)
theorem WE.o {a b c d e}(f:WE.v a b c d e):WE.c a b c d e:=Wa Tryz.func176 (x:=WE.h) (R0 f)
def Yk.h:Hn:=.q .o1 (.q (.q .o4 (.q .o2 .aJ)) (.q (.o 17) (.q (.q .o2 .aJ) (.q .fV .l))))
def Yk.v (a:R2)(b:Int)(c:Hp)(d:aN):Prop:=WX.c a b c λe f=>If (e != 0) (d e f) (bE a 0 f λh=>Ix h.a h.len b 3 λi=>aQ i 1 f λj=>bL (b+1) λk=>YR.c a j 1 k f λl m n=>If (m != 0) (d m n) (bE a 5 n λp=>Ix p.a p.len b 1 λq=>fW q n λr=>Y8.c r l n λs t=>d s t))
theorem Yk.o {a b c d}(e:Yk.v a b c d):Yk.c a b c d:=Wa Tryz.func177 (x:=Yk.h) (R0 e)
def WT.h:Hn:=.q .o2 (.q (.k (.q .o4 (.c .aL (.q (.cV (.seq [.op,.op,.op,.dA false 2 [.op,.op],.op,.dA false 2 [.op,.op],.op,.dA false 2 [.op,.op],.op,.dA false 5 (RI.ops 5),.op])) .aJ)))) (.q .o9 (.q (.q .o2 (.c (.q .o3 .l) .l)) (.q .o7 (.q .o3 .l)))))
def WT.v (a:R2)(b c:Int)(d:Hp)(e:Int->Int->Hp->Prop):Prop:=WD.c a d λf g=>If (!f) (e 0 5 g) (bY (λh i=>bY (λj k=>bY (λl m=>bY (λn o=>If n (e 0 1 o) (YR.c a b c 41 o λp q r=>If (q != 0) (e 0 q r) (bI a 7 r λt=>kR .i64 bN t p b r λu=>e p 0 u))) λv=>If l (v true m) (bL (c-1) λw=>v ((bits .and .i64 c w) != 0) m)) λx=>If j (x true k) (x (decide (c>16)) k)) λy=>If h (y true i) (y (decide (c<1)) i)) λz=>If (b<1) (z true g) (z (decide (b>64)) g))
theorem WT.o {a b c d e}(f:WT.v a b c d e):WT.c a b c d e:=Wa Tryz.func179 (x:=WT.h) (R0 f)
def WR.h:Hn:=.q .o1 (.q (.q .o3 .aK) (.q (.o 11) (.q (.q .o2 .aK) (.q .o6 (.q .o6 .aM)))))
def WR.v (a:R2)(b:Int)(c:Hp)(d:aN):Prop:=WD.c a c λe f=>If (!e) (d 5 f) (bI a 7 f λh=>Lk .i64 bN h b f λi=>If (!i.isSome) (d 8 f) (bI a 7 f λk=>mh .i64 bN k b f λl=>aV #[.I b,.I (i.getD 0)] 92 l λm n=>Xg.c a ⟨some m,1,1⟩ n λo=>d 0 o))
theorem WR.o {a b c d}(e:WR.v a b c d):WR.c a b c d:=Wa Tryz.func187 (x:=WR.h) (R0 e)
def Xg.h:Hn:=.q .o3 (.k (.loop [(8,.I)] (.q .o1 (.q (.c .l .l) (.q (.k (.q .o4 (.q (.cV (.tail 8 (RI.ops 8) [.op])) (.q (.cV (.tail 8 (RI.ops 8) [.op])) (.cV (.tail 8 (RI.ops 8) [.op])))))) .o2)))))
def Xg.v (a:R2)(b:Sl)(c:Hp)(d:aP):Prop:=W7 [bN] (λe=>e 0 c) λf (g:Int) h=>If (g<((b.len:Nat):Int)) (Ix b.a b.len g 2 λi=>aQ i 0 h λj=>aQ i 1 h λk=>aV #[.I 0,.I 0] 92 h λl m=>aR l 0 (.I j) m λn=>aR l 1 (.I k) n λo=>bF a 4 o λq=>aQ l 0 o λr=>aQ l 1 o λs=>XV.c q r s o λt u=>bF a 3 u λw=>aQ l 0 u λx=>aQ l 1 u λy=>XE.c w x y u λz aa=>bF a 2 aa λac=>aQ l 0 aa λad=>aQ l 1 aa λae=>Yf.c ac ad ae aa λaf ag=>bL (g+1) λah=>f ah ag) (d h)
theorem Xg.o {a b c d}(e:Xg.v a b c d):Xg.c a b c d:=Wa Tryz.func189 (x:=Xg.h) (R0 e)
def WC.h:Hn:=.q .o1 (.q (.q .o4 (.q .o2 .aJ)) (.q (.o 14) (.q (.q .o2 .aJ) (.q .o3 .aM))))
def WC.v (a:R2)(b:Int)(c:Sl)(d:Hp)(e:aN):Prop:=WX.c a b d λf g=>If (f != 0) (e f g) (bE a 5 g λi=>Ix i.a i.len b 1 λj=>fW j g λk=>Za.c k c g λl m n=>If (m != 0) (e m n) (Xg.c a l n λo=>e 0 o))
theorem WC.o {a b c d e}(f:WC.v a b c d e):WC.c a b c d e:=Wa Tryz.func199 (x:=WC.h) (R0 f)
def WX.h:Hn:=.q .o1 (.q (.k (.q .o4 (.c .aM (.q (.cV (.seq [.op,.op,.op,.dA false 7 (RI.ops 7),.op])) .aK)))) .aM)
def WX.v (a:R2)(b:Int)(c:Hp)(d:aN):Prop:=WD.c a c λe f=>If (!e) (d 5 f) (bY (λg h=>If g (d 1 h) (d 0 h)) λi=>If (b<0) (i true f) (bE a 0 f λk=>i (decide (b≥((k.len:Nat):Int))) f))
theorem WX.o {a b c d}(e:WX.v a b c d):WX.c a b c d:=Wa Tryz.func212 (x:=WX.h) (R0 e)
def YR.h:Hn:=.q .o2 (.q (.o 12) (.jD [(10,.I),(11,.I)] (.q .o2 (.c (.q .o1 (.q (.k (.loop [(12,.I)] (.q (.q .o5 (.c .l .l)) (.k .o3)))) (.q (.q .o4 .aJ) (.o 12)))) .l)) (.q (.q .o2 (.c (.q .o3 .l) .l)) (.q .o7 (.q .o8 (.q .o3 .l))))))
def YR.v (a:R2)(b c d:Int)(e:Hp)(f:Int->Int->Hp->Prop):Prop:=bF a 2 e λh=>XY.c h b c e λi j k=>Jn [bN,bN] (λ(l:Int) (m:Int) n=>If (m != 0) (f 0 m n) (bF a 3 n λp=>XN.c p l b n λq r=>bF a 4 r λt=>Yc.c t l b d r λu v=>f l 0 v)) λw=>If (j==6) (W7 [bN] (λx=>x 16 k) λy (z:Int) aa=>If (z<(if c>b then c else b)) (bL (z*2) λab=>y ab aa) (Y4.c a z aa λac ad=>If (!ac) (f 0 6 ad) (bF a 2 ad λaf=>XY.c af b c ad λag ah ai=>w ag ah ai))) (w i j k)
theorem YR.o {a b c d e f}(g:YR.v a b c d e f):YR.c a b c d e f:=Wa Tryz.func215 (x:=YR.h) (R0 g)
def WJ.h:Hn:=.q .o2 (.q (.q .o4 (.q .o2 (.c (.q .o3 .l) .l))) (.q (.q (.o 11) .aJ) (.q (.q .o3 (.k (.loop [(32,.I)] (.q .o1 (.q (.c .l .l) (.q (.k (.q .o3 (.q (.o 14) (.q (.cV (.seq [.op,.op,.op,.dA false 2 [.op,.op]])) .aJ)))) .o2)))))) (.q (.o 13) .l))))
def WJ.v (a:R2)(b:Int)(c:Sl)(d:Hp)(e:Bool->Int->Hp->Prop):Prop:=WX.c a b d λf g=>If (f != 0) (e false f g) (bE a 0 g λi=>Ix i.a i.len b 3 λj=>aQ j 2 g λk=>If (((c.len:Nat):Int) != k) (e false 1 g) (W7 [bN] (λl=>l 0 g) λm (n:Int) o=>If (n<((c.len:Nat):Int)) (Ix c.a c.len n 1 λp=>bM p o λq=>bE a 5 o λs=>Ix s.a s.len b 1 λt=>fW t o λu=>W9.c u q o λv w x=>bY (λy z=>If y (e false 8 z) (bL (n+1) λaa=>m aa z)) λab=>If (w != 0) (ab true x) (ab (!v) x)) (bE a 6 o λad=>Ix ad.a ad.len b 1 λae=>fW ae o λaf=>Xb.c af c o λag ah ai=>e ag ah ai)))
theorem WJ.o {a b c d e}(f:WJ.v a b c d e):WJ.c a b c d e:=Wa Tryz.func222 (x:=WJ.h) (R0 f)
def Y4.h:Hn:=.q .o1 (.q (.q .o2 (.k (.loop [(5,.I)] (.q (.q .o9 (.c .l .l)) (.q (.k (.q (.q .o8 (.c .l .l)) (.q (.q .o3 (.k (.loop [(6,.I)] (.q (.q .o6 (.c .l .l)) (.q (.k .o6) .o3))))) (.q .o7 .aM)))) .o4))))) .aM)
def Y4.v (a:R2)(b:Int)(c:Hp)(d:aO):Prop:=W7 [bN] (λe=>e b c) λf (g:Int) h=>bL (g+b) λi=>bF a 1 h λk=>Xw.c k h λl m=>If (i<=l) (bF a 1 m λo=>Zm.c o g b m λp q=>If (p != 0) (bL (g+b) λr=>f r q) (Nz 16<|bL (g.tdiv 16) λs=>W7 [bN] (λt=>t s q) λu (v:Int) w=>bL (g+b) λx=>Nz 16<|bL (x.tdiv 16) λy=>If (v<y) (bF a 3 w λaa=>Ye.c aa v w λab ac=>bL (v+1) λad=>u ad ac) (bF a 2 w λaf=>Yf.c af g b w λag ah=>d true ah))) (d false m)
theorem Y4.o {a b c d}(e:Y4.v a b c d):Y4.c a b c d:=Wa Tryz.func253 (x:=Y4.h) (R0 e)
end Go.Proofs
namespace Go.Ar
open Go Go.Vc Go.Proofs
open Go.Bu (Zf QK Zu iR)
inductive Lb where
 | hd|dD|free|mR|own|dH|cL|runs
 | cC (k:Nat)
 | cE (k:Nat)
 deriving DecidableEq
structure Lay where
 p:Nat
 hs:Nat
 fr:Nat
 tr:Nat
 op:Nat
 rn:Nat
 dD:Sl
 dH:Sl
 cL:Sl
 fI:List Nat
 gB:List Nat
def k6 (Y:Lay):List Value:=[.slice Y.dD.a Y.dD.len Y.dD.cap,.pointer (some ⟨Y.hs,0,none⟩),.pointer (some ⟨Y.fr,0,none⟩),.pointer (some ⟨Y.tr,0,none⟩),.pointer (some ⟨Y.op,0,none⟩),.slice Y.dH.a Y.dH.len Y.dH.cap,.slice Y.cL.a Y.cL.len Y.cL.cap,.map (some Y.rn)]
def fZ (tb:List bW):List Value:=tb.flatMap λc=>[.int .i64 (c.size:Int),.int .i64 (c.aF:Int),.int .i64 (c.batch:Int)]
def eW (l:List Nat):List Value:=l.map λb=>.pointer (some ⟨b,0,none⟩)
def iz (l:List (Nat×Nat)):List (Int×Int):=l.map λr=>((r.1:Int),(r.2:Int))
def s7 (p n:Nat)(S:Nat->Bool):Hp->Rg->Prop:=λσ F=>∃sb ms,Go.Bu.BH σ p n S sb ms/\∀b,Go.Bu.fp p sb ms b->F b
def mX (p:Nat)(st:List Nat):Hp->Rg->Prop:=λσ F=>∃q,gG σ p q st/\F p/\F q
def kc (p:Option Nat)(c:Option bW)(ss:Option (List cH)):Hp->Rg->Prop:=λσ F=>match p,c,ss with
 | some p,some c,some ss=>∃ps,fB σ F p c ps ss
 | _,_,_=>True
def lW (p:Option Nat)(c:Option bW)(room:Nat)(t:Option fQ):Hp->Rg->Prop:=λσ F=>match p,c,t with
 | some p,some c,some t=>iw σ F p c.batch room t
 | _,_,_=>True
def AC (A:AR)(Y:Lay)(T:Nat->Hp->Rg->Prop):Lb->Hp->Rg->Prop
 | .hd=>iF Y.p (k6 Y)
 | .dD=>cR Y.dD 3 (fZ A.tb)
 | .free=>s7 Y.fr A.n A.S
 | .mR=>mX Y.tr A.st
 | .own=>λσ F=>jB σ F Y.op A.ow
 | .dH=>bR Y.dH 1 (eW Y.fI)
 | .cL=>bR Y.cL 1 (eW Y.gB)
 | .runs=>jZ Y.rn .i64 bN (iz A.runs)
 | .cC k=>kc Y.fI[k]? A.tb[k]? A.cC[k]?
 | .cE k=>T k
def cF (A:AR)(Y:Lay)(k:Nat):Hp->Rg->Prop:=lW Y.gB[k]? A.tb[k]? A.room A.cE[k]?
theorem s7.loc (p n:Nat)(S:Nat->Bool):dR (s7 p n S):=by
 rintro σ σ' F G ⟨g,m,h,s⟩ y r;have j:∀b,Go.Bu.fp p g m b->b<σ.size:=λb a=>by
  unfold Go.Bu.fp at a;rcases zQ.1 a with h1|h1
  ·obtain⟨c,i⟩:=h.hd;rw[h1];exact i.lt
  rcases zQ.1 h1 with h2|h2
  ·obtain⟨c,i⟩:=h.row;rw[h2];exact i.lt
  ·obtain⟨k,x⟩:=zN h2;obtain⟨B,w,_⟩:=h.maps k b x;exact w.lt
 have e:Ext (λb=>¬Go.Bu.fp p g m b) σ σ':=⟨y,λb a d=>(r b a (s b (Classical.not_not.1 d))).2⟩;exact⟨g,m,h.bU e λb a u=>u a,λb a=>(r b (j b a) (s b a)).1⟩
theorem mX.loc (p:Nat)(st:List Nat):dR (mX p st):=by
 rintro σ σ' F G ⟨q,h,i,j⟩ r a;have e:Ext (λb=>b≠p/\b≠q) σ σ':=⟨r,λb m s=>by
  by_cases h1:b=p
  ·subst h1;exact(a b m i).2
  ·have d:b=q:=Classical.byContradiction λd=>s ⟨h1,d⟩;subst d;exact(a b m j).2⟩
 exact⟨q,h.bU e (λg=>g.1 rfl) (λg=>g.2 rfl),(a p h.lt.1 i).1,(a q h.lt.2 j).1⟩
theorem kc.loc (p:Option Nat)(c:Option bW)(ss:Option (List cH)):dR (kc p c ss):=by
 rintro σ e F G h b d;unfold kc at *;split
 ·simp only at h;obtain⟨a,h⟩:=h;exact⟨a,fB.loc _ _ _ _ h b d⟩
 ·trivial
theorem lW.loc (p:Option Nat)(c:Option bW)(room:Nat)(t:Option fQ):dR (lW p c room t):=by
 rintro σ d F G h a b;unfold lW at *;split
 ·exact iw.loc _ _ _ _ h a b
 ·trivial
theorem AC.loc {A:AR}{Y:Lay}{T:Nat->Hp->Rg->Prop}(hT:∀k,dR (T k)):∀i,dR (AC A Y T i)
 | .hd=>iF.loc _ _
 | .dD=>cR.loc _ _ _
 | .free=>s7.loc _ _ _
 | .mR=>mX.loc _ _
 | .own=>jB.loc
 | .dH=>bR.loc _ _ _
 | .cL=>bR.loc _ _ _
 | .runs=>jZ.loc _ _ _ _
 | .cC k=>kc.loc _ _ _
 | .cE k=>hT k
theorem cF.loc {A:AR}{Y:Lay}(k:Nat):dR (cF A Y k):=lW.loc _ _ _ _
structure eY (A:AR) (Y:Lay):Prop where
 c:Y.fI.length=A.tb.length
 t:Y.gB.length=A.tb.length
 cC:A.cC.length=A.tb.length
 cE:A.cE.length=A.tb.length
 nM:1<=A.tb.length
 nP:A.tb.length<=40
 n1:32<=A.n
 n2:A.n<=1024
 n3:A.n%16=0
 st:A.st.length=A.n
 room:A.room<=8
 ok:∀c∈A.tb,c.ok
structure cX (σ:Hp) (F:Rg) (Y:Lay) (A:AR) (T:Nat->Hp->Rg->Prop):Prop where
 lay:eY A Y
 tl:∀k,dR (T k)
 sep:Sep (AC A Y T) σ F
def AH (σ:Hp)(F:Rg)(p hs:Nat)(A:AR):Prop:=∃Y:Lay,Y.p=p/\Y.hs=hs/\cX σ F Y A (cF A Y)
variable {σ:Hp}{F:Rg}{p hs:Nat}{A:AR}{Y:Lay}{T:Nat->Hp->Rg->Prop}
theorem cX.loc:dR λσ F=>cX σ F Y A T:=λσ d F G h a b=>⟨h.lay,h.tl,Sep.loc (AC.loc h.tl) _ _ _ _ h.sep a b⟩
theorem AH.loc:dR λσ F=>AH σ F p hs A:=λσ e F G ⟨Y,d,b,h⟩ a hs=>⟨Y,d,b,cX.loc _ _ _ _ h a hs⟩
theorem cX.bK {σ':Hp}(h:cX σ F Y A T)(e:bO σ σ'):cX σ' F Y A T:=dR.bK cX.loc h e
theorem cX.hd (h:cX σ F Y A T):bX σ Y.p (k6 Y):=by
 obtain⟨G,b,d,a⟩:=h.sep.get .hd;exact a
theorem KD (tb:List bW):(fZ tb).length=tb.length*3:=by
 induction tb with
 | nil=>rfl
 | cons x l ih=>simp only[fZ,mS,zK,zP,ma]at *;omega
theorem Hu {tb:List bW}{i:Nat}{c:bW}(h:tb[i]?=some c):(fZ tb)[3*i]?=some (.int .i64 (c.size:Int))/\(fZ tb)[3*i+1]?=some (.int .i64 (c.aF:Int))/\(fZ tb)[3*i+2]?=some (.int .i64 (c.batch:Int)):=by
 induction tb generalizing i with
 | nil=>simp at h
 | cons x l ih=>
  have e:fZ (x::l)=[.int .i64 (x.size:Int),.int .i64 (x.aF:Int),.int .i64 (x.batch:Int)]++fZ l:=by simp[fZ]
  rw[e];cases i with
  | zero=>simp at h;subst h;simp
  | succ i=>
   have:=ih (i:=i) (by simpa using h);rw[show 3*(i+1)=3*i+3 by omega];simpa using this
theorem cX.nS (h:cX σ F Y A T):Y.dD.len=A.tb.length:=by
 obtain⟨G,b,a⟩:=h.sep.get .dD;have:=a.1;rw[KD]at this;omega
theorem uE {s:Sl}{tb:List bW}(h:cR s 3 (fZ tb) σ F){k d:Nat}{c:bW}(hc:tb[k]?=some c)(hd:d<3){K:Int->Prop}(hK:K (if d=0 then c.size else if d=1 then c.aF else c.batch:Nat)) :
 Ix s.a s.len (k:Int) 3 λa=>fJ .i64 (a.add d) σ K:=by
 have g:=Hu hc;have j:(fZ tb)[3*k+d]?=some (.int .i64 ((if d=0 then c.size else if d=1 then c.aF else c.batch:Nat):Int)):=by
  match d,hd with
  | 0,_=>exact g.1
  | 1,_=>exact g.2.1
  | 2,_=>exact g.2.2
 have p:=(cQ.1 hc).1;obtain⟨b,o,m,e⟩:=h.cell j;have i:=h.1;rw[KD]at i;rw[m];refine ix O O ?_;rw[add_lit,add_lit];refine ox ?_ hK;rw[show o+(k:Int).toNat*3+d=o+(3*k+d) by omega];exact e
theorem cX.xh (h:cX σ F Y A T){k d:Nat}{c:bW}(hc:A.tb[k]?=some c)(hd:d<3){K:Int->Prop}(hK:K (if d=0 then c.size else if d=1 then c.aF else c.batch:Nat)) :
 Ix Y.dD.a Y.dD.len (k:Int) 3 λa=>fJ .i64 (a.add d) σ K:=by
 obtain⟨G,e,b⟩:=h.sep.get .dD;exact uE b hc hd hK
theorem DH {s:Sl}{l:List Nat}(h:cR s 1 (eW l) σ F){k q:Nat}(hq:l[k]?=some q){K:Option Addr->Prop}(hK:K (some ⟨q,0,none⟩)):Ix s.a s.len (k:Int) 1 λa=>fW a σ K:=by
 have i:=(cQ.1 hq).1;obtain⟨b,o,e,d⟩:=h.cell (j:=k) (v:=.pointer (some ⟨q,0,none⟩)) (by simp[eW,hq]);have g:=h.1;simp[eW]at g;rw[e];refine ix O O ?_;rw[add_lit];exact uD (by rw[show o+(k:Int).toNat*1=o+k by omega];exact d) hK
theorem cX.wW (h:cX σ F Y A T):Y.dH.len=A.tb.length:=by
 obtain⟨G,b,a⟩:=h.sep.get .dH;have:=a.1;have:=h.lay.c;simp[eW]at *;omega
theorem cX.jf (h:cX σ F Y A T):Y.cL.len=A.tb.length:=by
 obtain⟨G,b,a⟩:=h.sep.get .cL;have:=a.1;have:=h.lay.t;simp[eW]at *;omega
theorem cX.kg (h:cX σ F Y A T){k q:Nat}(hq:Y.fI[k]?=some q){K:Option Addr->Prop}(hK:K (some ⟨q,0,none⟩)):Ix Y.dH.a Y.dH.len (k:Int) 1 λa=>fW a σ K:=by
 obtain⟨G,d,b⟩:=h.sep.get .dH;exact DH (bR.gp b) hq hK
theorem cX.pX (h:cX σ F Y A T){k q:Nat}(hq:Y.gB[k]?=some q){K:Option Addr->Prop}(hK:K (some ⟨q,0,none⟩)):Ix Y.cL.a Y.cL.len (k:Int) 1 λa=>fW a σ K:=by
 obtain⟨G,d,b⟩:=h.sep.get .cL;exact DH (bR.gp b) hq hK
theorem cX.at_ (h:cX σ F Y A T){k:Nat}(hk:k<A.tb.length):∃c ss q t r,A.tb[k]?=some c/\A.cC[k]?=some ss/\Y.fI[k]?=some q/\A.cE[k]?=some t/\Y.gB[k]?=some r/\c.ok:=by
 have b:=h.lay.c;have a:=h.lay.t;have d:=h.lay.cC;have e:=h.lay.cE;exact⟨A.tb[k],A.cC[k],Y.fI[k],A.cE[k],Y.gB[k],by simp,by simp,by simp,by simp,by simp,h.lay.ok _ (zc hk)⟩
theorem J9 {k q:Nat}{c:bW}{ss:List cH}{G:Rg}(h1:Y.fI[k]?=some q)(h2:A.tb[k]?=some c)(h3:A.cC[k]?=some ss)(h:AC A Y T (.cC k) σ G):∃ps,fB σ G q c ps ss:=by
 simp only[AC]at h;rw[h1,h2,h3]at h;exact h
theorem cX.cC (h:cX σ F Y A T){k q:Nat}{c:bW}{ss:List cH}(h1:Y.fI[k]?=some q)(h2:A.tb[k]?=some c)(h3:A.cC[k]?=some ss):∃G ps,(∀b,G b->F b)/\fB σ G q c ps ss:=by
 obtain⟨G,d,a⟩:=h.sep.get (.cC k);obtain⟨ps,e⟩:=J9 h1 h2 h3 a;exact⟨G,ps,d,e⟩
theorem KU (h:cX σ F Y A T){R:aO}(hR:R true σ):WD.c (aW Y.p) σ R:=by
 refine WD.o ?_;unfold WD.v;exact bY.intro (cJ rfl (aG (h.hd.rP rfl hR)))
theorem Uk (h:cX σ F Y A T)(k:Int){R:aN}(h1:A.ck k=false->R 1 σ)(h0:∀x:Nat,k=x->x<A.tb.length->R 0 σ):WX.c (aW Y.p) k σ R:=by
 refine WX.o ?_;unfold WX.v;have g:=h.nS;have a:¬(0<=k/\k<A.tb.length)->R 1 σ:=λd=>h1 (by unfold AR.ck;rw[←uX];exact zh d);refine KU h (cG rfl (bY.intro (cI (λe=>cJ rfl (a O)) λe=>aG (h.hd.rS rfl (cI (λb=>?_) λb=>?_)))))
 ·simp only at b;exact a O
 ·simp only at b;exact h0 k.toNat O O
theorem P8 (h:cX σ F Y A T)(x:Int){R:aO}(hR:R (US A x) σ):Y5.c (aW Y.p) x σ R:=by
 refine Y5.o ?_;unfold Y5.v;obtain⟨G,b,q,a,_⟩:=h.sep.get .mR;refine KU h (bY.intro (cJ rfl (aG (h.hd.rP rfl (Tv a x ?_)))));have:decide (Aj A.st x>0)=US A x:=by
  unfold Aj US;by_cases hx:0<=x
  ·by_cases hl:x<A.st.length
   ·rw[zB ⟨hx,hl⟩,zW hx,vI,decide_eq_decide];omega
   ·rw[zA O,zW hx,vI,zL,zY O];rfl
  ·rw[zA O,zh hx];rfl
 rw[this];exact hR
structure ja (A:AR):Prop where
 sR:∀r∈A.runs,∀s∈A.runs,∀x,r.1<=x->x<r.1+r.2->s.1<=x->x<s.1+s.2->r=s
 Ae:∀x,x<1024->A.ow x=41->(sv A x).isSome=true
 cls:∀x,x<1024->A.ow x≠0->A.ow x≠41->A.ow x<=A.tb.length
 fit:∀r∈A.runs,r.1+r.2<=1024
theorem Cr (h:ja A){x:Nat}{r:Nat×Nat}(hr:r∈A.runs)(h1:r.1<=x)(h2:x<r.1+r.2):sv A x=some r:=by
 cases hf:sv A x with
 | none=>
  unfold sv at hf;rw[n4]at hf;have:=hf r hr;simp[h1,h2]at this
 | some s=>
  unfold sv at hf;have b:=tZ hf;have a:=sI hf;simp at a;rw[h.sR r hr s b x h1 h2 a.1 a.2]
theorem SF (h:cX σ F Y A T)(hr:ja A)(x:Int)(hx:iL x){R:Int->Int->Int->Hp->Prop}(h1:∀σ' k a,bO σ σ'->U8 A x=some (k,a)->R k (a:Int) 0 σ')(h0:∀σ',bO σ σ'->U8 A x=none->R 0 0 8 σ') :
 YZ.c (aW Y.p) x σ R:=by
 refine YZ.o ?_;unfold YZ.v;refine KU h (cG rfl (cI (λV=>h0 σ (Ext.refl _ _) (by unfold U8;rw[zB V])) λV=>aG (h.hd.rP rfl (nz aB ?_))));obtain⟨y,rfl⟩:=zk (show 0<=x by omega);have hy:y<=9223372036854775807:=by unfold iL at hx;omega
 have U:((y:Int).tdiv 256)=((y/256:Nat):Int):=by rw[YK O];simp
 refine ar (by rw[U];omega) (by rw[U];omega) ?_;rw[U];obtain⟨G,hG,hP⟩:=h.sep.get .own;refine Ρ hP _ ?_;have eo:qI A.ow ((y/256:Nat):Int)=if y/256<1024 then A.ow (y/256)else 0:=by
  unfold qI;by_cases hl:y/256<1024
  ·rw[zB O,zB hl];rfl
  ·rw[zA O,zA hl]
 have g:U8 A (y:Int)=(let no:=if y/256<1024 then A.ow (y/256)else 0
  if no=0 then none else if no=41 then(sv A (y/256)).map λr=>(-1,r.1*256)else
  match A.tb[no-1]?,A.cC[no-1]? with
  | some c,some ss=>(rz c ss (y:Int)).map λa=>(((no-1:Nat):Int),a)
  | _,_=>none):=by
  unfold U8;rw[zA V];rfl
 rw[eo];generalize hno:(if y/256<1024 then A.ow (y/256)else 0)=no at *
 simp only at g;rw[vo];refine cU (λW=>h0 σ (Ext.refl _ _) (by rw[g,zB (by simpa using W)])) λW=>?_;have E:no≠0:=by simpa using W
 rw[zA E]at g;have D:y/256<1024:=by
  rcases l8 (y/256) 1024 with h|h
  ·exact h
  ·rw[zA O]at hno;exact absurd hno.symm E
 rw[zB D]at hno;refine Jn.intro ?_;have Q:(((no:Nat):Int)==41)=(no==41):=j3 no 41;rw[Q];refine cU (λS=>?_) λS=>?_
 ·have w:no=41:=by simpa using S
  subst w;rw[zB rfl]at g;obtain⟨r,H⟩:=qC.1 (hr.Ae _ D hno);have j:=tZ H;have C:=sI H;simp at C;obtain⟨G,hG,N⟩:=h.sep.get .runs;refine aG (h.hd.rM rfl ?_);refine vP N.2 (λb v=>bO σ v/\(∀z∈b,z∈iz A.runs)/\((r.1:Int),(r.2:Int))∈b) (λv hz e=>⟨e,λz hz=>hz,zC.2 ⟨r,j,rfl⟩⟩) (λv hv=>absurd hv.2.2 aA) ?_;rintro b n z v v' J ⟨e,d,B⟩ hm ho hlt2 hJ;have e':bO σ v':=Ext.fresh e ho.ext λi hi=>by omega
  obtain⟨s,P,hse⟩:=zC.1 (d _ hm);cases hse;have hfit:=hr.fit s P;refine nz aB (ar O O ?_);refine bY.intro (cI (λc3=>ar O O (cI (λc4=>?_) λc4=>?_)) λc3=>cG rfl ?_)
  ·have X:=Cr hr P (x:=y/256) O O;refine ar O O ?_;have:=h1 v' (-1) (s.1*256) e' (by rw[g,X];rfl);simpa using this
  ·refine hJ v' rfl rfl ⟨e',λu Z=>d u (zH.1 Z).1,zH.2 ⟨B,?_⟩⟩;have:¬(r.1:Int)=(s.1:Int):=λe=>by
    have:=Cr hr j C.1 C.2;have e1:r.1=s.1:=by omega
    by_cases h2:r.2=0
    ·omega
    by_cases h3:s.2=0
    ·have:=N.2.nodup;have M:=Vf this (zC.2 ⟨r,j,rfl⟩);have L:=Vf this (zC.2 ⟨s,P,rfl⟩);rw[e1,L]at M;have:s.2=r.2:=by
      have:(s.2:Int)=(r.2:Int):=Option.some.inj M;omega
     omega
    ·have:=hr.sR r j s P r.1 O O O O;subst this;omega
   simpa using this
  ·refine hJ v' rfl rfl ⟨e',λu Z=>d u (zH.1 Z).1,zH.2 ⟨B,?_⟩⟩;have:¬(r.1:Int)=(s.1:Int):=λe=>by omega
   simpa using this
 ·have w:no≠41:=by simpa using S
  rw[zA w]at g;have hcl:=hr.cls _ D (by rw[hno];exact E) (by rw[hno];exact w);rw[hno]at hcl;obtain⟨c,ss,q,t,r,hc,K,hq,_,_,hok⟩:=h.at_ (k:=no-1) O;obtain⟨G,ps,hG,hC⟩:=h.cC hq hc K;rw[hc,K]at g;simp only at g;refine aG (h.hd.rS rfl (cA (m:=no-1) O (by have:=h.lay.nP;omega) (h.kg hq (O4 hC _ hx (λa ha=>?_) λha=>?_))))
  ·refine cG rfl (cA (m:=no-1) O (by have:=h.lay.nP;omega) (h1 σ _ a (Ext.refl _ _) ?_));rw[g,ha];rfl
  ·refine cJ rfl (h0 σ (Ext.refl _ _) ?_);rw[g,ha];rfl
end Go.Ar
namespace Go.Ar
open Go Go.Vc Go.Proofs
open Go.Bu (Zf QK Zu iR)
open Classical in
theorem _root_.Go.Vc.Sep.kh {L:Type}{C:L->Hp->Rg->Prop}{σ:Hp}{F:Rg}(hC:∀i,dR (C i))(h:Sep C σ F)(i:L):∃G:Rg,(∀b,G b->F b)/\C i σ G/\(∀j,j≠i->∃H:Rg,(∀b,H b->F b)/\(∀b,H b->¬G b)/\C j σ H)/\∀(σ':Hp) (C':L->Hp->Rg->Prop) (G':Rg),
 (∀j,j≠i->C' j=C j)->Ext G σ σ'->(∀b,G' b->G b\/σ.size<=b)->C' i σ' G'->dR (C' i)->Sep C' σ' λb=>F b/\b<σ.size/\¬G b\/G' b:=by
 obtain⟨ρ,h⟩:=h;refine⟨_,λb a=>a.1,h i,λj p=>⟨_,λb a=>a.1,λb m w=>p (m.2.symm.trans w.2),h j⟩,λσ' C' G' p e x u y=>⟨λb=>if G' b then i else ρ b,λj=>?_⟩⟩
 by_cases hji:j=i
 ·subst hji;exact y.mono u λb _ a=>⟨.inr a,zB a⟩
 ·rw[p j hji];refine hC j _ _ _ _ (h j) e.1 λb a r=>?_;have d:¬(F b/\ρ b=i):=λs=>hji (r.2.symm.trans s.2);have g:¬G' b:=λs=>by
   rcases x b s with m|m
   ·exact d m
   ·omega
  exact⟨⟨.inl ⟨r.1,a,d⟩,(zA g).trans r.2⟩,e.2 b a d⟩
variable {σ:Hp}{F:Rg}{p hs:Nat}{A:AR}{Y:Lay}{T:Nat->Hp->Rg->Prop}
theorem cX.step (h:cX σ F Y A T)(i:Lb):∃G:Rg,(∀b,G b->F b)/\AC A Y T i σ G/\(∀j,j≠i->∃H:Rg,(∀b,H b->F b)/\(∀b,H b->¬G b)/\AC A Y T j σ H)/\∀(σ':Hp) (A':AR) (Y':Lay) (T':Nat->Hp->Rg->Prop) (G' H:Rg),
 eY A' Y'->(∀k,dR (T' k))->(∀j,j≠i->AC A' Y' T' j=AC A Y T j)->Ext G σ σ'->(∀b,G' b->G b\/σ.size<=b)->AC A' Y' T' i σ' G'->(∀b,(F b/\b<σ.size/\¬G b\/G' b)->H b)->cX σ' H Y' A' T':=by
 obtain⟨G,s,m,hd,a⟩:=h.sep.kh (AC.loc h.tl) i;refine⟨G,s,m,hd,λσ' A' Y' T' G' H u g r e x d p=>⟨u,g,?_⟩⟩;exact(Sep.loc (AC.loc g)).mono (a σ' _ G' r e x d (AC.loc g i)) λb _ w=>p b w
theorem Hb {σ:Hp}{F G G':Rg}(hG:∀b,G b->F b)(hg:∀b,G' b->G b\/σ.size<=b):∀b,(F b/\b<σ.size/\¬G b\/G' b)->Grow F σ b:=λb a=>by
 rcases a with a|a
 ·exact .inl a.1
 ·exact(hg b a).imp (hG b) id
theorem yH {σ:Hp}{F G G':Rg}(hG:∀b,G b->F b)(hg:∀b,G' b->G b):∀b,(F b/\b<σ.size/\¬G b\/G' b)->F b:=λb a=>by
 rcases a with a|a
 ·exact a.1
 ·exact hG b (hg b a)
theorem BN {σ:Hp}{F G:Rg}(hG:∀b,G b->F b):∀b,(F b/\b<σ.size/\¬G b\/Cut G σ b)->Cut F σ b:=λb a=>by
 rcases a with a|a
 ·exact⟨a.1,a.2.1⟩
 ·exact⟨hG b a.1,a.2⟩
theorem F9 {ow:Nat->Nat}:∀j,j≠Lb.own->AC {A with ow:=ow} Y T j=AC A Y T j:=by
 intro j hj;cases j<;>first|rfl|exact absurd rfl hj
theorem NL {st:List Nat}:∀j,j≠Lb.mR->AC {A with st:=st} Y T j=AC A Y T j:=by
 intro j hj;cases j<;>first|rfl|exact absurd rfl hj
theorem Cm {S:Nat->Bool}:∀j,j≠Lb.free->AC {A with S:=S} Y T j=AC A Y T j:=by
 intro j hj;cases j<;>first|rfl|exact absurd rfl hj
theorem OJ {rs:List (Nat×Nat)}:∀j,j≠Lb.runs->AC {A with runs:=rs} Y T j=AC A Y T j:=by
 intro j hj;cases j<;>first|rfl|exact absurd rfl hj
theorem Tm {k:Nat}{ss:List cH}:∀j,j≠Lb.cC k->AC {A with cC:=A.cC.set k ss} Y T j=AC A Y T j:=by
 intro j hj;cases j<;>first|rfl|skip
 rename_i k';have a:k≠k':=λe=>hj (by rw[e]);simp only[AC];rw[zi a]
theorem eY.ow {ow:Nat->Nat}(h:eY A Y):eY {A with ow:=ow} Y:=⟨h.c,h.t,h.cC,h.cE,h.nM,h.nP,h.n1,h.n2,h.n3,h.st,h.room,h.ok⟩
theorem eY.DC {S:Nat->Bool}(h:eY A Y):eY {A with S:=S} Y:=⟨h.c,h.t,h.cC,h.cE,h.nM,h.nP,h.n1,h.n2,h.n3,h.st,h.room,h.ok⟩
theorem eY.rr {rs:List (Nat×Nat)}(h:eY A Y):eY {A with runs:=rs} Y:=⟨h.c,h.t,h.cC,h.cE,h.nM,h.nP,h.n1,h.n2,h.n3,h.st,h.room,h.ok⟩
theorem eY.wR {st:List Nat}(h:eY A Y)(hl:st.length=A.st.length):eY {A with st:=st} Y:=⟨h.c,h.t,h.cC,h.cE,h.nM,h.nP,h.n1,h.n2,h.n3,hl.trans h.st,h.room,h.ok⟩
theorem eY.lV {k:Nat}{ss:List cH}(h:eY A Y):eY {A with cC:=A.cC.set k ss} Y:=⟨h.c,h.t,by simpa using h.cC,h.cE,h.nM,h.nP,h.n1,h.n2,h.n3,h.st,h.room,h.ok⟩
theorem AZ (st:List Nat)(a m:Int)(v:Nat)(fr:List Nat):(VQ st a m v fr).length=st.length:=by
 unfold VQ;split<;>simp[Qj]
theorem L6 (st:List Nat)(k:Int):(jo st k).length=st.length:=by
 unfold jo;split<;>simp[Qj]
theorem TM (st:List Nat)(k:Int):(jS st k).length=st.length:=by
 unfold jS;split<;>simp[Qj]
theorem cX.Clear (h:cX σ F Y A T)(a m:Nat)(ha:a<=1000000){R:aN}(hR:∀σ' t,Ext F σ σ'->cX σ' (Grow F σ) Y {A with ow:=j0 A.ow a m 0} T->R t σ'):XV.c (aW Y.op) a m σ R:=by
 obtain⟨G,i,p,_,d⟩:=h.step .own;refine LI p a m ha λσ' e j=>hR σ' _ (e.sub i) ?_;exact d σ' _ _ T (Grow G σ) _ h.lay.ow h.tl F9 e (λb g=>g) j (Hb i λb g=>g)
theorem cX.Set (h:cX σ F Y A T)(a m:Nat)(ha:a<=1000000){no:Nat}(h1:1<=no)(h2:no<=1000){R:aN}(hR:∀σ' t,Ext F σ σ'->cX σ' (Grow F σ) Y {A with ow:=j0 A.ow a m no} T->R t σ'):Yc.c (aW Y.op) a m no σ R:=by
 obtain⟨G,i,p,_,d⟩:=h.step .own;refine L8 p a m ha h1 h2 λσ' e j=>hR σ' _ (e.sub i) ?_;exact d σ' _ _ T (Grow G σ) _ h.lay.ow h.tl F9 e (λb g=>g) j (Hb i λb g=>g)
theorem cX.mR (h:cX σ F Y A T):∃G:Rg,(∀b,G b->F b)/\∃q,gG σ Y.tr q A.st/\F q/\∀(σ':Hp) (st:List Nat),st.length=A.st.length->Ext (· = q) σ σ'->gG σ' Y.tr q st->Ext F σ σ'/\cX σ' F Y {A with st:=st} T:=by
 obtain⟨G,g,⟨q,m,r,i⟩,_,d⟩:=h.step .mR;refine⟨G,g,q,m,g _ i,λσ' st j e p=>⟨e.sub λb a=>by subst a;exact g _ i,?_⟩⟩;exact d σ' _ _ T G _ (h.lay.wR j) h.tl NL (e.sub λb a=>by subst a;exact i) (λb a=>.inl a) ⟨q,p,r,i⟩ (yH g λb a=>a)
theorem cX.xu (h:cX σ F Y A T)(a m:Int){R:aN}(hR:∀σ' t,Ext F σ σ'->cX σ' F Y {A with st:=VQ A.st a m 2 [1]} T->R t σ'):XE.c (aW Y.tr) a m σ R:=by
 obtain⟨G,i,q,d,_,b⟩:=h.mR;refine Ξ d a m λσ' e g=>?_;have:=b σ' _ (AZ _ _ _ _ _) e g;exact hR σ' _ this.1 this.2
theorem cX.Tq (h:cX σ F Y A T)(a m:Int){R:aN}(hR:∀σ' t,Ext F σ σ'->cX σ' F Y {A with st:=VQ A.st a m 1 [2,3]} T->R t σ'):XN.c (aW Y.tr) a m σ R:=by
 obtain⟨G,i,q,d,_,b⟩:=h.mR;refine Oe d a m λσ' e g=>?_;have:=b σ' _ (AZ _ _ _ _ _) e g;exact hR σ' _ this.1 this.2
theorem cX.Rel (h:cX σ F Y A T)(a m:Int){R:aN}(hR:∀σ' t,Ext F σ σ'->cX σ' F Y {A with st:=VQ A.st a m 3 [2]} T->R t σ'):W8.c (aW Y.tr) a m σ R:=by
 obtain⟨G,i,q,d,_,b⟩:=h.mR;refine OX d a m λσ' e g=>?_;have:=b σ' _ (AZ _ _ _ _ _) e g;exact hR σ' _ this.1 this.2
theorem cX.CB (h:cX σ F Y A T)(k:Int){R:aN}(hR:∀σ' t,Ext F σ σ'->cX σ' F Y {A with st:=jo A.st k} T->R t σ'):Ye.c (aW Y.tr) k σ R:=by
 obtain⟨G,g,q,b,_,a⟩:=h.mR;refine Ni b k λσ' e d=>?_;have:=a σ' _ (L6 _ _) e d;exact hR σ' _ this.1 this.2
theorem cX.BP (h:cX σ F Y A T)(k:Int){R:aN}(hR:∀σ' t,Ext F σ σ'->cX σ' F Y {A with st:=jS A.st k} T->R t σ'):Xi.c (aW Y.tr) k σ R:=by
 obtain⟨G,g,q,b,_,a⟩:=h.mR;refine R4 b k λσ' e d=>?_;have:=a σ' _ (TM _ _) e d;exact hR σ' _ this.1 this.2
theorem cX.free (h:cX σ F Y A T):∃sb ms,Go.Bu.BH σ Y.fr A.n A.S sb ms/\∀(σ':Hp) (S:Nat->Bool),Ext (· ∈ ms) σ σ'->Go.Bu.BH σ' Y.fr A.n S sb ms->Ext F σ σ'/\cX σ' F Y {A with S:=S} T:=by
 obtain⟨G,i,⟨sb,ms,m,j⟩,_,d⟩:=h.step .free;have g:∀b,b∈ms->G b:=λb a=>j b (by unfold Go.Bu.fp;simp[a]);refine⟨sb,ms,m,λσ' S e p=>⟨e.sub λb a=>i b (g b a),?_⟩⟩;exact d σ' _ _ T G _ h.lay.DC h.tl Cm (e.sub g) (λb a=>.inl a) ⟨sb,ms,p,j⟩ (yH i λb a=>a)
theorem cX.vN (h:cX σ F Y A T)(a m:Int){R:aN}(hR:∀σ' t,Ext F σ σ'->cX σ' F Y {A with S:=QK A.n A.S a m} T->R t σ'):Yf.c (aW Y.fr) a m σ R:=by
 obtain⟨i,j,g,b⟩:=h.free;refine Go.Bu.rp g a m λσ' e d=>?_;have:=b σ' _ e d;exact hR σ' _ this.1 this.2
theorem cX.q9 (h:cX σ F Y A T)(a m:Int){R:aN}(hR:∀σ' t,Ext F σ σ'->cX σ' F Y {A with S:=Go.Bu.j2 A.n A.S a m} T->R t σ'):XB.c (aW Y.fr) a m σ R:=by
 obtain⟨i,j,g,b⟩:=h.free;refine Go.Bu.nc g a m λσ' e d=>?_;have:=b σ' _ e d;exact hR σ' _ this.1 this.2
theorem cX.xd (h:cX σ F Y A T)(a m:Int){R:Int->Int->Hp->Prop}(hR:∀σ',Ext F σ σ'->cX σ' F Y {A with S:=Go.Bu.jz A.n A.S a m} T->R ((Go.Bu.ju A.n A.S a m:Nat):Int) (Go.Bu.jt A.n A.S a m) σ'):XY.c (aW Y.fr) a m σ R:=by
 obtain⟨i,j,g,b⟩:=h.free;refine Go.Bu.lT g a m λσ' e d=>?_;have:=b σ' _ e d;exact hR σ' this.1 this.2
def rV (rs:List (Nat×Nat)):List Value:=rs.flatMap λr=>[.int .i64 (r.1:Int),.int .i64 (r.2:Int)]
theorem yM (rs:List (Nat×Nat)):(rV rs).length=rs.length*2:=by
 induction rs with
 | nil=>rfl
 | cons x l ih=>simp only[rV,mS,zK,zP,ma]at *;omega
theorem OH {l:List (Nat×Nat)}{i:Nat}{r:Nat×Nat}(h:l[i]?=some r):(rV l)[2*i]?=some (.int .i64 (r.1:Int))/\(rV l)[2*i+1]?=some (.int .i64 (r.2:Int)):=by
 induction l generalizing i with
 | nil=>simp at h
 | cons x l ih=>
  have e:rV (x::l)=[.int .i64 (x.1:Int),.int .i64 (x.2:Int)]++rV l:=by simp[rV]
  rw[e];cases i with
  | zero=>simp at h;subst h;simp
  | succ i=>
   have:=ih (i:=i) (by simpa using h);rw[show 2*(i+1)=2*i+2 by omega];simpa using this
theorem Ew (c:bW)(l:List Nat):iu c l=rV (l.map λs=>(s,c.aF)):=by
 simp[iu,rV,List.flatMap_map]
theorem Em {s:Sl}{rs:List (Nat×Nat)}(h:cR s 2 (rV rs) σ F){i:Nat}{r:Nat×Nat}(hr:rs[i]?=some r){K:Int->Int->Prop}(hK:K (r.1:Int) (r.2:Int)) :
 Ix s.a s.len (i:Int) 2 λa=>fJ .i64 (a.add 0) σ λu=>fJ .i64 (a.add 1) σ λw=>K u w:=by
 have j:=OH hr;have x:=(cQ.1 hr).1;obtain⟨b,o,g,p⟩:=h.cell j.1;obtain⟨y,o1,d,e⟩:=h.cell j.2;rw[g]at d;cases d;have m:=h.1;rw[yM]at m;rw[g];refine ix O O ?_;rw[add_lit];refine ox ?_ (ox ?_ hK)<;>rw[add_lit]
 ·rw[show o+(i:Int).toNat*2+0=o+2*i by omega];exact p
 ·rw[show o+(i:Int).toNat*2+1=o+(2*i+1) by omega];exact e
theorem cX.mono {G:Rg}(h:cX σ F Y A T)(hs:∀b,b<σ.size->F b->G b):cX σ G Y A T:=dR.mono cX.loc h hs
theorem cX.cut (h:cX σ F Y A T):cX σ (Cut F σ) Y A T:=dR.cut cX.loc h
theorem TP (A:AR)(rs:List (Nat×Nat))(r:Nat×Nat):VO A (rs++[r])=V3 (VO A rs) r:=by simp[VO]
theorem Bh (h:cX σ F Y A T){sl:Sl}{rs:List (Nat×Nat)}{X:Rg}(hs:cR sl 2 (rV rs) σ X)(hX:∀b,b<σ.size->X b->¬F b)(hl:rs.length<=1000000)(hb:∀r∈rs,r.1<=1000000){R:aP}
 (hR:∀σ',Ext F σ σ'->cX σ' (Grow F σ) Y (VO A rs) T->R σ'):Xg.c (aW Y.p) sl σ R:=by
 refine Xg.o ?_;unfold Xg.v;have U:sl.len=rs.length:=by have:=hs.1;rw[yM]at this;omega
 have M:cR sl 2 (rV rs) σ (Cut X σ):=aH.cut hs;refine ZU (a:=bN) (λ(t:Int) v=>∃i:Nat,t=(i:Int)/\i<=rs.length/\Ext F σ v/\cX v (Grow F σ) Y (VO A (rs.take i)) T) (λt _=>rs.length-t.toNat) ⟨0,rfl,O,Ext.refl _ _,by simpa[VO]using h.mono λb _ hb=>.inl hb⟩ ?_;rintro t v ⟨i,rfl,Q,e,J⟩;refine cI (λhlt=>?_) λhge=>?_
 ·have j:i<rs.length:=by omega
  have y:rs[i]?=some rs[i]:=cM j;have z:=hb _ (zc j);have H:=aH.bU M e λb C y x=>hX b C y.1 x;refine Em H y ?_;have L:rs.take (i+1)=rs.take i++[rs[i]]:=by rw[zg,y];rfl
  generalize rs[i]=r at *;refine nw (cs:=[.int .i64 0,.int .i64 0]) λv4 hz4 e4 K=>K.s1 aA λv5 o5 b5=>b5.s1 aA λv6 o6 P=>?_;have w:bO v v6:=Ext.fresh (Ext.fresh e4 o5.ext λi Q=>O) o6.ext λi Q=>by omega
  have u:=J.cut.bK w;have S:¬Cut (Grow F σ) v v.size:=λx=>by have:=x.2;omega
  have g:bX v6 v.size [.int .i64 (r.1:Int),.int .i64 (r.2:Int)]:=P;have z6:v.size<v6.size:=P.lt;refine aG (u.hd.rP rfl (g.rI rfl (g.rI rfl (u.Clear r.1 r.2 z λv7 t7 W E=>?_))));have D:=W.bZ g S;have d:=E.mono (G:=λb=>Cut (Grow F σ) v b\/v.size<b) λb _ hb=>by
   rcases hb with hb|hb
   ·exact .inl hb
   ·exact .inr O
  have N:¬(Cut (Grow F σ) v v.size\/v.size<v.size):=λx=>by
   rcases x with h|h
   ·exact S h
   ·omega
  refine aG (d.hd.rP rfl (D.rI rfl (D.rI rfl (d.xu _ _ λv8 t8 V s=>?_))));have Z:=V.bZ D N;refine aG (s.hd.rP rfl (Z.rI rfl (Z.rI rfl (s.vN _ _ λv9 t9 e9 B=>?_))));have sub:∀b,(Cut (Grow F σ) v b\/v.size<b)->Grow F σ b:=λb hb=>by
   rcases hb with hb|hb
   ·exact hb.1
   ·exact .inr (by have:=e.1;omega)
  have ee:Ext F σ v9:=((((e.trans (bO.to w)).iD (W.sub λb hb=>hb.1))).iD (V.sub sub)).iD (e9.sub sub);refine cA (m:=i+1) O O ⟨⟨i+1,rfl,O,ee,?_⟩,O⟩;rw[L,TP];exact B.mono λb _ hb=>sub b hb
 ·have:i=rs.length:=by omega
  subst this;rw[zn]at J;exact hR v e J
end Go.Ar
namespace Go.Proofs
open Go.Vc
set_option maxRecDepth 100000
def Xr.h:Hn:=.q .o1 (.q (.q .o3 .aK) (.q .o1 (.q (.q .o5 (.k (.loop [(3,.I)] (.q (.cV (.seq [.it .i64 .p,.op])) (.q (.c .l .l) (.k (.q (.cV (.seq [.it .i64 .p,.op,.op,.op,.op])) (.oq 17)))))))) .aL)))
def Xr.v (a:R2)(b:Hp)(c:aN):Prop:=Xh.c a b λd e=>If (!d) (c 0 e) (bI a 2 e λg=>sr .i64 .p g e λh i=>W7 [bN] (λj=>j 0 i) λk (l:Int) m=>rQ .i64 .p h m (c l m) (λn o p=>rX .i64 .p h p λq r=>bE a 0 p λt=>Ix t.a t.len q 3 λu=>aQ u 0 p λv=>bE r 0 p λx=>bL (v*((x.len:Nat):Int)) λy=>bL (l+y) λz=>k z p))
theorem Xr.o {a b c}(d:Xr.v a b c):Xr.c a b c:=Wa Tryz.func73 (x:=Xr.h) (R0 d)
def Xh.h:Hn:=.q .o1 (.q (.cV (.seq [.op,.op,.op,.dA true 5 (RI.ops 5),.op])) .l)
def Xh.v (a:R2)(b:Hp)(c:aO):Prop:=bY (λd e=>c d e) λf=>If (!a.isNone) (bI a 2 b λh=>f (!h.isNone) b) (f false b)
theorem Xh.o {a b c}(d:Xh.v a b c):Xh.c a b c:=Wa Tryz.func105 (x:=Xh.h) (R0 d)
def QZ.h:Hn:=.q .o2 (.q (.k (.q .o4 (.c .aL (.q (.cV (.seq [.op,.op,.op,.dA false 2 [.op,.op],.op])) .aJ)))) (.q .o8 .l))
def QZ.v (a:Sl)(b:Int)(c:Hp)(d:Option Addr->Int->Hp->Prop):Prop:=ZG.c a c λe f=>If (!e) (d none 2 f) (bY (λg h=>If g (d none 1 h) (Wc.c a h λi j=>Nw (.map #[] 0) j λk l=>aV #[.slice i.a i.len i.cap,.I b,.map (some k.block)] 167 l λm n=>d (some m) 0 n)) λo=>If (b<0) (o true f) (o (decide (b>65536)) f))
theorem QZ.o {a b c d}(e:QZ.v a b c d):QZ.c a b c d:=Wa Tryz.func126 (x:=QZ.h) (R0 e)
def Yo.h:Hn:=.q .o2 (.q .o8 (.q (.q .o2 (.c (.q .o3 .l) .l)) (.q (.q .o6 (.c (.q (.q .o9 (.q .o6 (.c .o8 (.o 11)))) .aL) .l)) (.q .o7 (.q .o8 (.q .fV (.q .fV (.q .o3 .l))))))))
def Yo.v (a:R2)(b:Int)(c:Hp)(d:Int->Int->Hp->Prop):Prop:=Xx.c a b c λe f g=>If (f != 0) (d 0 f g) (bE e 0 g λi=>If (((i.len:Nat):Int)==0) (bE a 0 g λk=>Ix k.a k.len b 3 λl=>aQ l 2 g λm=>bD e 1 g λo=>If (o<m) (bD e 1 g λq=>bL (q+1) λr=>bS e λs=>aR s 1 (.I r) g λt=>d 0 4 t) (bD e 1 g λv=>bL (v+m) λw=>bS e λx=>aR x 1 (.I (if 128<w then 128 else w)) g λy=>d 0 4 y)) (bE e 0 g λaa=>bL (((aa.len:Nat):Int)-1) λab=>bE e 0 g λad=>Ix ad.a ad.len ab 1 λae=>bM ae g λaf=>bE e 0 g λah=>eX ah 1 0 ab (ah.cap:Nat) λai=>bS e λaj=>aR aj 0 (.slice ai.a ai.len ai.cap) g λak=>bD e 2 ak λam=>bS e λan=>aR an 2 (.I (if ab<am then ab else am)) ak λao=>d af 0 ao))
theorem Yo.o {a b c d}(e:Yo.v a b c d):Yo.c a b c d:=Wa Tryz.func171 (x:=Yo.h) (R0 e)
def Yn.h:Hn:=.q .o2 (.q .o8 (.q (.q .o2 (.c (.q .o3 .l) .l)) (.q (.oq 15) .l)))
def Yn.v (a:R2)(b:Int)(c:Hp)(d:Int->Int->Hp->Prop):Prop:=Xx.c a b c λe f g=>If (f != 0) (d 0 f g) (bD e 1 g λi=>bE a 0 g λk=>Ix k.a k.len b 3 λl=>aQ l 2 g λm=>d (if m<i then m else i) 0 g)
theorem Yn.o {a b c d}(e:Yn.v a b c d):Yn.c a b c d:=Wa Tryz.func173 (x:=Yn.h) (R0 e)
def Yi.h:Hn:=.q .o1 (.q .o8 (.q (.q .o2 .aJ) (.q .o3 (.q .o2 (.q .o4 .l)))))
def Yi.v (a:R2)(b:Int)(c:Sl)(d:Hp)(e:aN):Prop:=Xx.c a b d λf g h=>If (g != 0) (e g h) (WF.c c h λi j=>W3.c i j λk=>W0.c f i k λl m=>e l m)
theorem Yi.o {a b c d e}(f:Yi.v a b c d e):Yi.c a b c d e:=Wa Tryz.func178 (x:=Yi.h) (R0 f)
def YQ.h:Hn:=.q .o2 (.q .o8 (.q (.q .o2 (.c (.q .o3 .l) .l)) (.q (.q .o5 (.q .o2 (.c (.q .o3 .l) .l))) (.q (.q (.oq 10) .aJ) (.q .o9 (.jD [] (.q .o6 (.c .o8 .l)) (.q (.o 11) .l)))))))
def YQ.v (a:R2)(b c:Int)(d:Hp)(e:Sl->Int->Hp->Prop):Prop:=Xx.c a b d λf g h=>If (g != 0) (e ⟨none,0,0⟩ g h) (aV #[.I c] 3 h λi j=>W0.c f ⟨some i,1,1⟩ j λk l=>If (k != 0) (e ⟨none,0,0⟩ k l) (bE f 0 l λn=>bD f 1 l λp=>If (((n.len:Nat):Int)<=p) (e ⟨none,0,0⟩ 0 l) (bE a 0 l λr=>Ix r.a r.len b 3 λs=>aQ s 2 l λt=>Jn [] (λu=>bE f 0 u λw=>Xf.c f (if((w.len:Nat):Int)<t then((w.len:Nat):Int)else t) u λx y=>e x 0 y) λz=>bD f 1 l λab=>If (ab<t) (bD f 1 l λad=>bL (ad+1) λae=>bS f λaf=>aR af 1 (.I ae) l λag=>z ag) (z l))))
theorem YQ.o {a b c d e}(f:YQ.v a b c d e):YQ.c a b c d e:=Wa Tryz.func181 (x:=YQ.h) (R0 f)
def Yp.h:Hn:=.q .o1 (.q (.cV (.hO false [] [(2,.one .b)] (.take 0 (.all [(1,.take 2 (.split 5 (.tk [3,5,6,7] (.all [(4,.all [(8,.tk [9,10,11] (.done))]),(8,.all [(4,.tk [9,10,11] (.done))])])) (.tk [3,4,5,6,7,8,9,10,11] (.done))))])))) .l)
def Yp.v (a:R2)(b:Hp)(c:aO):Prop:=Jn [.b] (λ(d:Bool) e=>c d e) λf=>Xh.c a b λg h=>If g (bS a λi=>(Xr.c a h λj k=>aQ i 1 k λl=>f (decide (j>l)) k) ∧ (aQ i 1 h λm=>Xr.c a h λn o=>f (decide (n>m)) o)) (f false h)
theorem Yp.o {a b c}(d:Yp.v a b c):Yp.c a b c:=Wa Tryz.func182 (x:=Yp.h) (R0 d)
def Xa.h:Hn:=.q .o1 (.q .o3 .l)
def Xa.v (a:R2)(b:Hp)(c:Sl->Hp->Prop):Prop:=Xj.c a ⟨221,#[],#[]⟩ b λd e=>c d e
theorem Xa.o {a b c}(d:Xa.v a b c):Xa.c a b c:=Wa Tryz.func183 (x:=Xa.h) (R0 d)
def XS.h:Hn:=.q .o1 (.q .o3 .l)
def XS.v (a:R2)(b:Hp)(c:Sl->Hp->Prop):Prop:=Xj.c a ⟨223,#[],#[]⟩ b λd e=>c d e
theorem XS.o {a b c}(d:XS.v a b c):XS.c a b c:=Wa Tryz.func188 (x:=XS.h) (R0 d)
def Xx.h:Hn:=.q .o2 (.q (.q .o3 .aJ) (.q .o4 (.q (.q .o2 .aJ) (.q .o3 .l))))
def Xx.v (a:R2)(b:Int)(c:Hp)(d:Option Addr->Int->Hp->Prop):Prop:=Xh.c a c λe f=>If (!e) (d none 5 f) (ZD.c a b f λg h=>If g.isNone (d none 1 h) (d g 0 h))
theorem Xx.o {a b c d}(e:Xx.v a b c d):Xx.c a b c d:=Wa Tryz.func211 (x:=Xx.h) (R0 e)
def W0.h:Hn:=.q .o1 (.q (.q .o9 .aK) (.q (.o 11) .aM))
def W0.v (a:R2)(b:Sl)(c:Hp)(d:aN):Prop:=bE a 0 c λf=>bL (((f.len:Nat):Int)+((b.len:Nat):Int)) λg=>If (g>256) (d 6 c) (bE a 0 c λi=>Xo.c i c λj k=>App j 1 8 3 [.I 0] b k λl m=>bS a λn=>aR n 0 (.slice l.a l.len l.cap) m λo=>d 0 o)
theorem W0.o {a b c d}(e:W0.v a b c d):W0.c a b c d:=Wa Tryz.func218 (x:=W0.h) (R0 e)
def Xf.h:Hn:=.q .o1 (.q .o8 (.q (.o 11) (.q (.cV (.tail 13 (RI.ops 13) [.op])) .aL)))
def Xf.v (a:R2)(b:Int)(c:Hp)(d:Sl->Hp->Prop):Prop:=bE a 0 c λf=>eX f 1 0 b (f.cap:Nat) λg=>WF.c g c λh i=>bE a 0 i λk=>eX k 1 b (k.len:Nat) (k.cap:Nat) λl=>WF.c l i λm n=>bS a λo=>aR o 0 (.slice m.a m.len m.cap) n λp=>bD a 2 p λr=>bE a 0 p λt=>bS a λu=>aR u 2 (.I (if((t.len:Nat):Int)<r then((t.len:Nat):Int)else r)) p λv=>d h v
theorem Xf.o {a b c d}(e:Xf.v a b c d):Xf.c a b c d:=Wa Tryz.func219 (x:=Xf.h) (R0 e)
def Xj.h:Hn:=.q .o1 (.q (.q .o3 .aK) (.q .o1 (.q (.q .o5 (.k (.loop [(5,.one .s)] (.q (.cV (.seq [.it .i64 .p,.op])) (.q (.c .l .l) (.k (.q (.cV (.seq [.it .i64 .p,.op,.op,.op,.op])) (.q (.o 12) (.q .o3 (.c .o7 .l)))))))))) (.q .o2 .aL))))
def Xj.v (a:R2)(b:Fv)(c:Hp)(d:Sl->Hp->Prop):Prop:=Xh.c a c λe f=>If (!e) (d ⟨none,0,0⟩ f) (bI a 2 f λh=>sr .i64 .p h f λi j=>W7 [.s] (λk=>k ⟨none,0,0⟩ j) λl (m:Sl) n=>rQ .i64 .p i n (Z0.c m ⟨262,#[],#[]⟩ n λo=>d m o) (λp q r=>rX .i64 .p i r λs t=>bE a 0 r λv=>Ix v.a v.len s 3 λw=>aQ w 2 r λx=>VN Tryz.prog b [.pointer t,.I x] [.one .s] r λy z=>If (((y.len:Nat):Int)>0) (aV #[.I s,.slice y.a y.len y.cap] 130 z λaa ab=>App m 2 32 130 [.I 0,.slice none 0 0] ⟨some aa,1,1⟩ ab λac ad=>l ac ad) (l m z)))
theorem Xj.o {a b c d}(e:Xj.v a b c d):Xj.c a b c d:=Wa Tryz.func220 (x:=Xj.h) (R0 e)
def Xy.h:Hn:=.q .o1 (.q .o9 (.jD [] (.q .o6 (.c (.o 12) .l)) (.q .o9 .aL)))
def Xy.v (a:R2)(b:Int)(c:Hp)(d:Sl->Hp->Prop):Prop:=bD a 2 c λf=>bL (f+1) λg=>Nz 2<|bL (g.tdiv 2) λh=>Xf.c a h c λi j=>Jn [] (λk=>bE a 0 k λm=>bS a λn=>aR n 2 (.I ((m.len:Nat):Int)) k λo=>d i o) λp=>bD a 1 j λr=>If (r>b) (bD a 1 j λt=>bL (t-b) λu=>bS a λv=>aR v 1 (.I (if b>u then b else u)) j λw=>p w) (p j)
theorem Xy.o {a b c d}(e:Xy.v a b c d):Xy.c a b c d:=Wa Tryz.func221 (x:=Xy.h) (R0 e)
def YH.h:Hn:=.q .o1 (.q .o8 .l)
def YH.v (a:R2)(b:Int)(c:Hp)(d:Sl->Hp->Prop):Prop:=bE a 0 c λf=>Xf.c a ((f.len:Nat):Int) c λg h=>d g h
theorem YH.o {a b c d}(e:YH.v a b c d):YH.c a b c d:=Wa Tryz.func223 (x:=YH.h) (R0 e)
def ZD.h:Hn:=.q .o1 (.q (.q (.cV (.seq [.op,.op,.op,.op,.dA false 2 [.op,.op],.op,.dA false 7 (RI.ops 7)])) .aK) (.jD [] (.q .o7 (.c .o8 .l)) (.q .o7 .l)))
def ZD.v (a:R2)(b:Int)(c:Hp)(d:Option Addr->Hp->Prop):Prop:=Xh.c a c λe f=>bY (λg h=>bY (λi j=>If i (d none j) (Jn [] (λk=>bI a 2 k λm=>Lk .i64 .p m b k λn=>d (n.getD none) k) λo=>bS a λp=>bB p 2 j λq=>Lk .i64 .p q b j λr=>If ((r.getD none).isNone) (bI a 2 j λt=>aV #[.slice none 0 0,.I 1,.I 0] 170 j λu v=>kR .i64 .p t b (some u) v λw=>o w) (o j))) λx=>If g (x true h) (bE a 0 h λz=>x (decide (b≥((z.len:Nat):Int))) h)) λaa=>If (!e) (aa true f) (aa (decide (b<0)) f)
theorem ZD.o {a b c d}(e:ZD.v a b c d):ZD.c a b c d:=Wa Tryz.func250 (x:=ZD.h) (R0 e)
end Go.Proofs
namespace Go.Ar
open Go Go.Vc Go.Proofs
theorem cR.sub {σ:Hp}{F:Rg}{s:Sl}{sz:Nat}{xs:List Value}(h:cR s sz xs σ F){lo hi mx:Nat}(h1:lo<=hi)(h2:hi<=s.len)(h3:hi<=mx) :
 cR ⟨if mx=lo then s.a else s.a.map (·.add (lo*sz)),hi-lo,mx-lo⟩ sz ((xs.drop (lo*sz)).take ((hi-lo)*sz)) σ F:=by
 have e:=h.1;have m:hi*sz<=s.len*sz:=lN _ h2;have g:(hi-lo)*sz=hi*sz-lo*sz:=Nat.sub_mul _ _ _;have i:lo*sz<=hi*sz:=lN _ h1;refine⟨by rw[zO,zu];simp only;omega,?_⟩;by_cases hm:mx=lo
 ·left;have:hi-lo=0:=by omega
  rw[this,tC,xR]
 ·rcases h.2 with h0|⟨b,o,cs,hb,ha,hq,hc⟩
  ·left;subst h0;simp
  ·refine .inr ⟨b,o+lo*sz,cs,hb,?_,hq,λj d=>?_⟩
   ·simp only[zA hm,ha,zf,add_lit]
   ·rw[zO,zu]at d;rw[qn,hc _ O,zX,zp,zB O]
inductive sT where
 | hd|dD|mp
 | li (k:Nat)
 deriving DecidableEq
structure gX where
 p:Nat
 m:Nat
 dD:Sl
 ps:List (Nat×Nat)
def jh (ps:List (Nat×Nat))(k:Nat):Option Nat:=(ps.find? λx=>x.1==k).map (·.2)
def kH (ps:List (Nat×Nat)):List (Int×Option Addr):=ps.map λx=>((x.1:Int),some ⟨x.2,0,none⟩)
def nN (s:Sl)(l:Li):List Value:=[.slice s.a s.len s.cap,.int .i64 (l.lim:Int),.int .i64 (l.low:Int)]
def jv (b:Nat)(l:Li):Hp->Rg->Prop:=λσ F=>F b/\fR l/\∃s:Sl,bX σ b (nN s l)/\cR s 1 (Wv l.os) σ (λq=>F q/\q≠b)/\s.len<=s.cap
def pJ (b:Option Nat)(l:Option Li):Hp->Rg->Prop:=λσ F=>match b,l with
 | some b,some l=>jv b l σ F
 | none,some l=>l=iv
 | _,none=>True
def DX (Y:gX)(bud:Nat):List Value:=[.slice Y.dD.a Y.dD.len Y.dD.cap,.int .i64 (bud:Int),.map (some Y.m)]
def CC (tb:List bW)(bud:Nat)(ls:List Li)(Y:gX):sT->Hp->Rg->Prop
 | .hd=>iF Y.p (DX Y bud)
 | .dD=>cR Y.dD 3 (fZ tb)
 | .mp=>jZ Y.m .i64 .p (kH Y.ps)
 | .li k=>pJ (jh Y.ps k) ls[k]?
theorem jv.loc (b:Nat)(l:Li):dR (jv b l):=by
 rintro σ y F G ⟨p,m,s,j,u,r⟩ x a;have g:=a b j.lt p;obtain⟨e,w⟩:=j;exact⟨g.1,m,s,⟨e,g.2.trans w⟩,cR.loc _ _ _ _ _ _ _ u x λq i d=>⟨⟨(a q i d.1).1,d.2⟩,(a q i d.1).2⟩,r⟩
theorem pJ.loc (b:Option Nat)(l:Option Li):dR (pJ b l):=by
 intro σ σ' F G h hz hs;unfold pJ at *;split at h
 ·exact jv.loc _ _ _ _ _ _ h hz hs
 ·exact h
 ·trivial
theorem CC.loc {tb:List bW}{bud:Nat}{ls:List Li}{Y:gX}:∀i,dR (CC tb bud ls Y i)
 | .hd=>iF.loc _ _
 | .dD=>cR.loc _ _ _
 | .mp=>jZ.loc _ _ _ _
 | .li k=>pJ.loc _ _
structure eD (σ:Hp) (F:Rg) (Y:gX) (tb:List bW) (bud:Nat) (ls:List Li):Prop where
 nM:tb.length<=40
 ok:∀c∈tb,c.ok
 len:ls.length=tb.length
 keys:∀x∈Y.ps,x.1<tb.length
 sep:Sep (CC tb bud ls Y) σ F
variable {σ:Hp}{F G:Rg}{Y:gX}{tb:List bW}{bud:Nat}{ls:List Li}{b k:Nat}{l:Li}
theorem eD.loc:dR λσ F=>eD σ F Y tb bud ls:=λσ d F G h a b=>⟨h.nM,h.ok,h.len,h.keys,Sep.loc CC.loc _ _ _ _ h.sep a b⟩
theorem eD.bK {σ':Hp}(h:eD σ F Y tb bud ls)(e:bO σ σ'):eD σ' F Y tb bud ls:=dR.bK eD.loc h e
theorem eD.hd (h:eD σ F Y tb bud ls):bX σ Y.p (DX Y bud):=by
 obtain⟨G,b,a⟩:=h.sep.get .hd;exact a.2
theorem eD.jI (h:eD σ F Y tb bud ls):cR Y.dD 3 (fZ tb) σ F:=by
 obtain⟨G,d,a⟩:=h.sep.get .dD;exact aH.mono a λb _ a=>d b a
theorem eD.nS (h:eD σ F Y tb bud ls):Y.dD.len=tb.length:=by
 have:=h.jI.1;rw[KD]at this;omega
theorem eD.map (h:eD σ F Y tb bud ls):dL σ Y.m .i64 .p (kH Y.ps):=by
 obtain⟨G,b,a⟩:=h.sep.get .mp;exact a.2
theorem Bx (ps:List (Nat×Nat))(k:Nat):bV (α:=Option Addr) (kH ps) (k:Int)=(jh ps k).map λb=>some ⟨b,0,none⟩:=by
 induction ps with
 | nil=>rfl
 | cons x l ih=>
  simp only[bV,kH,jh,zJ,uZ]at *;have e:(((x.1:Nat):Int)==(k:Int))=(x.1==k):=j3 _ _;rw[e];cases x.1==k
  ·exact ih
  ·rfl
theorem Ig {ps:List (Nat×Nat)}(h:jh ps k=none):∀x∈ps,x.1≠k:=by
 unfold jh at h;simp only[rq,n4,zZ]at h;exact h
theorem Sf {ps:List (Nat×Nat)}(h:jh ps k=none)(b:Nat):dF (α:=Option Addr) (kH ps) (k:Int) (some ⟨b,0,none⟩)=kH (ps++[(k,b)]):=by
 unfold dF;rw[zA]
 ·simp[kH]
 ·simp only[kH,List.any_map,j9,Function.comp,zZ,not_exists,not_and];intro x hx e;exact Ig h x hx O
theorem UK {ps:List (Nat×Nat)}(h:jh ps k=none)(b j:Nat):jh (ps++[(k,b)]) j=if j=k then some b else jh ps j:=by
 have a:=Ig h;unfold jh at *;rw[List.find?_append];by_cases hj:j=k
 ·subst hj;have:ps.find? (λx=>x.1==j)=none:=by simpa using h
  rw[this];simp
 ·rw[zA hj];cases hf:ps.find? (λx=>x.1==j)with
  | none=>
   have:(k==j)=false:=by simpa using λe=>hj e.symm
   simp[this]
  | some x=>simp
theorem EG {ps:List (Nat×Nat)}(hn:((kH ps).map (·.1)).Nodup)(h:(k,b)∈ps):jh ps k=some b:=by
 induction ps with
 | nil=>simp at h
 | cons x l ih=>
  simp only[kH,zJ,zq]at hn;unfold jh;rw[uZ];rcases zQ.1 h with rfl|h
  ·simp
  ·have:(x.1==k)=false:=by
    have:x.1≠k:=λe=>hn.1 (zC.2 ⟨(((k:Nat):Int),some ⟨b,0,none⟩),zC.2 ⟨(k,b),h,rfl⟩,by rw[e]⟩);simpa using this
   rw[this];exact ih hn.2 h
theorem Hk (h:eD σ F Y tb bud ls){R:aO}(hR:R true σ):Xh.c (aW Y.p) σ R:=by
 refine Xh.o ?_;unfold Xh.v;exact bY.intro (cJ rfl (aG (h.hd.rM rfl hR)))
theorem eD.xB (h:eD σ F Y tb bud ls)(hb:jh Y.ps k=some b)(hl:ls[k]?=some l):∃G:Rg,(∀q,G q->F q)/\jv b l σ G/\¬G Y.m ∧
 ∀(σ':Hp) (l':Li) (G':Rg),Ext G σ σ'->(∀q,G' q->Grow G σ q)->jv b l' σ' G'->Ext F σ σ'/\eD σ' (λq=>F q/\q<σ.size/\¬G q\/G' q) Y tb bud (ls.set k l'):=by
 have r:=(cQ.1 hl).1;obtain⟨G,s,g,d,a⟩:=h.sep.kh CC.loc (.li k);have g:jv b l σ G:=by
  simp only[CC,pJ,hb,hl]at g;exact g
 have i:¬G Y.m:=by
  obtain⟨H,_,hd,p⟩:=d .mp (by intro e;cases e);exact hd _ p.1
 refine⟨G,s,g,i,λσ' l' G' e w x=>⟨e.sub s,h.nM,h.ok,by rw[oP];exact h.len,h.keys,?_⟩⟩;refine a σ' (CC tb bud (ls.set k l') Y) G' (λj u=>?_) e w ?_ (CC.loc _)
 ·cases j<;>try rfl
  rename_i m;have i:m≠k:=λe=>u (by rw[e]);simp only[CC,zi (Ne.symm i)]
 ·simp only[CC,pJ,hb,zM r];exact x
theorem eD.mono (h:eD σ F Y tb bud ls)(hs:∀q,q<σ.size->F q->G q):eD σ G Y tb bud ls:=dR.mono eD.loc h hs
theorem eD.cut (h:eD σ F Y tb bud ls):eD σ (Cut F σ) Y tb bud ls:=dR.cut eD.loc h
theorem eD.fO {v:Hp}(h:eD v (Grow F σ) Y tb bud ls)(e0:Ext F σ v)(hb:jh Y.ps k=some b)(hl:ls[k]?=some l):∃G:Rg,jv b l v G ∧
 ∀(σ':Hp) (l':Li) (G':Rg),Ext G v σ'->(∀q,G' q->Grow G v q)->jv b l' σ' G'->Ext F σ σ'/\eD σ' (Grow F σ) Y tb bud (ls.set k l'):=by
 obtain⟨G,m,j,_,a⟩:=h.xB hb hl;refine⟨G,j,λσ' l' G' e i g=>?_⟩;obtain⟨r,p⟩:=a σ' l' G' e i g;refine⟨e0.iD r,p.mono λq _ d=>?_⟩;have:=e0.1;rcases d with d|d
 ·exact d.1
 ·rcases i q d with h2|h2
  ·exact m q h2
  ·exact .inr O
theorem PQ (h:eD σ F Y tb bud ls)(hk:k<tb.length){R:Option Addr->Hp->Prop}(hR:∀σ' Y' b,Ext F σ σ'->Y'.p=Y.p->jh Y'.ps k=some b->eD σ' (Grow F σ) Y' tb bud ls->R (some ⟨b,0,none⟩) σ') :
 ZD.c (aW Y.p) (k:Int) σ R:=by
 refine ZD.o ?_;unfold ZD.v;have C:k<ls.length:=by rw[h.len];exact hk
 have D:ls[k]?=some ls[k]:=cM C;generalize ls[k]=l at D;have Q:=h.nS;refine Hk h (bY.intro (cG rfl ?_));refine bY.intro (fG O (aG (h.hd.rS rfl ?_)));refine fG aC ?_;refine Jn.intro (aG (h.hd.rM rfl ⟨_,h.map,?_⟩));rw[Bx];cases hf:jh Y.ps k with
 | some b=>
  refine cG rfl (aG (h.hd.rM rfl ⟨_,h.map,?_⟩));rw[Bx,hf];exact hR σ Y b (Ext.refl _ _) rfl hf (h.mono λq _ a=>.inl a)
 | none=>
  refine cJ rfl (aG (h.hd.rM rfl (nw (cs:=[.slice none 0 0,.int .i64 1,.int .i64 0]) λv U e E=>?_)));obtain⟨G,H,s,S,hd,g,w,r⟩:=h.cut.sep.pI CC.loc .mp (.li k) (by intro e;cases e);have M:∀q,G q->F q:=λq a=>(s q a).1;have g:jZ Y.m .i64 .p (kH Y.ps) σ G:=g;have w:l=iv:=by
   simp only[CC,pJ,hf,D]at w;exact w
  have L:=g.2.lt;have A:dL v Y.m .i64 .p (kH Y.ps):=e.gL g.2 id;refine⟨Y.m,_,rfl,A,λv2 z u=>?_⟩;rw[Sf hf]at u;have P:Ext F σ v2:=(bO.to e).only z (.inl (M _ g.1));have y:Ext (λq=>G q\/H q) σ v2:=(bO.to e).only z (.inl (.inl g.1));have J:bX v2 σ.size [.slice none 0 0,.int .i64 1,.int .i64 0]:=Ws z E O;have d:eD v2 (Grow F σ) {Y with ps:=Y.ps++[(k,σ.size)]} tb bud ls:=by
   refine⟨h.nM,h.ok,h.len,λx i=>?_,?_⟩
   ·rcases zR.1 i with i|i
    ·exact h.keys x i
    ·simp only[zV]at i;subst i;exact hk
   refine(Sep.loc CC.loc).mono (r v2 (CC tb bud ls {Y with ps:=Y.ps++[(k,σ.size)]}) G (· = σ.size) (λj B K=>?_) y (λq a=>.inl (.inl a)) (λq a=>.inr O) (λq B K=>?_) ⟨g.1,u⟩ ?_ CC.loc) λq _ a=>?_
   ·cases j<;>first|rfl|exact absurd rfl B|skip
    rename_i m;have N:m≠k:=λe=>K (by rw[e]);simp only[CC,UK hf,zA N]
   ·have:=(s q B).2;omega
   ·simp only[CC,UK hf,zS,D,w,pJ];exact⟨rfl,fR.nil,⟨none,0,0⟩,J,cR.nil _ _ _ _,zD _⟩
   ·rcases a with a|a|a
    ·exact .inl a.1.1
    ·exact .inl (M q a)
    ·exact .inr O
  refine aG (d.hd.rM rfl ⟨_,d.map,?_⟩);rw[Bx,UK hf,zB rfl];exact hR v2 {Y with ps:=Y.ps++[(k,σ.size)]} σ.size P rfl (by show jh (Y.ps++[(k,σ.size)]) k=_;rw[UK hf,zB rfl]) d
theorem yN (h:eD σ F Y tb bud ls)(hk:k<tb.length){R:Option Addr->Int->Hp->Prop}(hR:∀σ' Y' b,Ext F σ σ'->Y'.p=Y.p->jh Y'.ps k=some b->eD σ' (Grow F σ) Y' tb bud ls->R (some ⟨b,0,none⟩) 0 σ') :
 Xx.c (aW Y.p) (k:Int) σ R:=by
 refine Xx.o ?_;unfold Xx.v;exact Hk h (cG rfl (PQ h hk λσ' Y' b e d g a=>cG rfl (hR σ' Y' b e d g a)))
theorem bR.qQ {s:Sl}{sz:Nat}{xs:List Value}(h:bR s sz xs σ F):s.len<=s.cap:=by
 rcases h.2 with⟨q1,q2⟩|⟨_,_,_,_,_,q,_⟩
 ·omega
 ·exact q
theorem Gu (h:jv b l σ G){m:Nat}(hm:m<=l.os.length){R:Sl->Hp->Prop}
 (hR:∀s z σ',Ext (· = b) σ σ'->σ.size<=z->bR s 1 (Wv (l.os.take m)) σ' (λq=>σ.size<=q/\q<z)->jv b (gQ m l).2 σ' (λq=>q=b\/z<=q)->R s σ') :
 Xf.c (aW b) (m:Int) σ R:=by
 refine Xf.o ?_;unfold Xf.v;obtain⟨Y,e,s,F,C,Z⟩:=h;have X:s.len=l.os.length:=by have:=C.1;simp[Wv]at this;omega
 have A:=e.many;have L:=e.low;have j:=cR.sub C (lo:=0) (hi:=m) (mx:=s.cap) O O O;have V:((Wv l.os).drop (0*1)).take ((m-0)*1)=Wv (l.os.take m):=by simp[Wv]
 rw[V]at j;refine aG (F.rS rfl (jc (lo:=0) O aC aC (Hr j Va aC λs1 M N y E=>?_)));have w:=y.bZ F id;have H:=aH.bK C y;have g:=cR.sub H (lo:=m) (hi:=s.len) (mx:=s.cap) O O O;have Q:((Wv l.os).drop (m*1)).take ((s.len-m)*1)=Wv (l.os.drop m):=by
  rw[mV (by simp[Wv];omega)];simp[Wv]
 rw[Q]at g;refine aG (w.rS rfl (jc aC aC aC (Hr g Va aC λx S D J i=>?_)));have K:=J.bZ w id;refine aG (K.s1 (by simp[nN]) λv3 o3 d=>aG (d.rI rfl (aG (d.rS rfl (aG (d.s1 (by simp[nN]) λv4 o4 r=>?_))))));have a:Ext (· = b) S v4:=o3.ext.trans o4.ext;have P:=F.lt;have B:=y.1;have p:x.len=l.os.length-m:=by rw[D];simp only;omega
 refine hR s1 M.size v4 ((bO.to (y.trans J)).trans a) B ?_ ⟨.inl rfl,yr e,x,?_,?_,bR.qQ i⟩
 ·refine aI.bU (aI.bK (aI.mono E (G:=λq=>σ.size<=q/\q<M.size) λq u U=>⟨U,u⟩) J) a λq _ u W=>by omega
 ·have:(if((x.len:Nat):Int)<(l.low:Int)then((x.len:Nat):Int)else(l.low:Int))=((min l.low (l.os.length-m):Nat):Int):=by rw[p];split<;>omega
  rw[this]at r;exact r
 ·refine aH.mono (aH.bU i.gp a λq _ u W=>O) λq _ u=>⟨.inr u,O⟩
theorem Tr (h:jv b l σ G){sl:Sl}{xs:List Int}{X:Rg}(hs:cR sl 1 (Wv xs) σ X)(hx:xs≠[])(hfit:l.os.length+xs.length<=256){R:aN}
 (hR:∀σ',Ext (· = b) σ σ'->jv b (eL xs l) σ' (λq=>q=b\/σ.size<=q)->R 0 σ'):W0.c (aW b) sl σ R:=by
 refine W0.o ?_;unfold W0.v;obtain⟨H,r,s,g,d,J⟩:=h;have F:s.len=l.os.length:=by have:=d.1;simp[Wv]at this;omega
 have C:sl.len=xs.length:=by have:=hs.1;simp[Wv]at this;omega
 have y:=qo.2 hx;have x:eL xs l = {l with os:=l.os++xs}:=by unfold eL;rw[zA O]
 refine aG (g.rS rfl (cA (m:=l.os.length+xs.length) aC O (fG O (aG (g.rS rfl ?_)))));refine Xo.o ?_;unfold Xo.v;refine jc (lo:=0) aC aC aC ?_;have B:=g.lt;refine⟨Wv l.os,Wv xs,by simp[Wv];omega,by simp[Wv];omega,?_,hs.rd,Va,?_,by simp only;omega,λp=>by simp only at p;omega,λz c i=>?_⟩
 ·by_cases h0:s.len=0
  ·have:l.os=[]:=yX.1 O;rw[this];simp only[h0,zS];cases s.a<;>simp[Rd,Wv]
  ·simp only[zA h0,tC];have:=d.rd;cases ha:s.a with
   | none=>rw[ha]at this;simpa[Rd]using this
   | some a=>rw[ha]at this;simpa[Rd,Addr.add_zero']using this
 ·simp only;have:(s.len-0+sl.len)*8<=256*8:=kL O O;omega
 ·refine nw λv K e u=>aG ((e.bZ g id).s1 (by simp[nN]) λD o2 w=>?_);have A:l.os.length+xs.length<=c:=by simp only at i;omega
  refine hR D ((bO.to e).trans o2.ext) ?_;rw[x];have:=yV (xs:=xs) r;rw[x]at this;refine⟨.inl rfl,this,⟨some ⟨σ.size,0,none⟩,s.len-0+sl.len,c⟩,w,⟨by simp[Wv];omega,.inr ⟨σ.size,0,_,⟨.inr (zD _),O⟩,rfl,(Ws o2 u O).q,λj E=>?_⟩⟩,by simp only;omega⟩;simp only[Wv,za,zK]at E;rw[zG,km,←km,zd (by simp[Wv];omega)];simp[Wv]
theorem Ps (h:jv b l σ G){sl:Sl}{xs:List Int}{X:Rg}(hs:cR sl 1 (Wv xs) σ X)(hfit:¬l.os.length+xs.length<=256)(hxs:xs.length<=1000000){R:aN}
 (hR:R 6 σ):W0.c (aW b) sl σ R:=by
 refine W0.o ?_;unfold W0.v;obtain⟨j,a,s,i,d,p⟩:=h;have g:s.len=l.os.length:=by have:=d.1;simp[Wv]at this;omega
 have e:sl.len=xs.length:=by have:=hs.1;simp[Wv]at this;omega
 have:=a.many;exact aG (i.rS rfl (cA (m:=l.os.length+xs.length) aC O (lU O hR)))
end Go.Ar
namespace Go.Ar
open Go Go.Vc Go.Proofs
variable {σ:Hp}{F G:Rg}{Y:gX}{tb:List bW}{bud:Nat}{ls:List Li}{b k:Nat}{l:Li}{c:bW}
theorem eD.cls (h:eD σ F Y tb bud ls)(hc:tb[k]?=some c):c.ok/\k<tb.length:=⟨h.ok c (zE hc),(cQ.1 hc).1⟩
theorem jv.st {v:Hp}(h:jv b l σ G){s:Sl}{l':Li}(ho:Ext (· = b) σ v)(hb:bX v b (nN s l'))(hs:cR s 1 (Wv l'.os) σ (λq=>G q/\q≠b))(hc:s.len<=s.cap)(ok:fR l'):jv b l' v G:=
 ⟨h.1,ok,s,hb,aH.bU hs ho λq _ a d=>a.2 d,hc⟩
theorem lT (h:eD σ F Y tb bud ls)(hc:tb[k]?=some c)(hl:ls[k]?=some l){R:Int->Int->Hp->Prop}
 (hR:∀σ' Y',Ext F σ σ'->Y'.p=Y.p->eD σ' (Grow F σ) Y' tb bud (ls.set k (Kb c l).2)->R ((Kb c l).1.getD 0) (if(Kb c l).1.isSome then 0 else 4) σ'):Yo.c (aW Y.p) (k:Int) σ R:=by
 obtain⟨r,hk⟩:=h.cls hc;refine Yo.o ?_;unfold Yo.v;refine yN h hk λv Y' b e hp hb U=>cG rfl ?_;obtain⟨G,hL,E⟩:=U.fO e hb hl;have z:=hL;obtain⟨S,i,s,g,M,u⟩:=hL;have N:=U.hd;rw[hp]at N;have V:s.len=l.os.length:=by have:=M.1;simp[Wv]at this;omega
 have o1:=i.low;have o2:=i.many;have o3:=i.lim;have o4:=i.oA;have a:=Ih r i;have fin:∀v' G',Ext G v v'->(∀q,G' q->Grow G v q)->jv b (Kb c l).2 v' G'->R ((Kb c l).1.getD 0) (if(Kb c l).1.isSome then 0 else 4) v':=λv' G' X hg Q=>by
  obtain⟨B,h2⟩:=E v' _ G' X hg Q;exact hR v' Y' B hp h2
 unfold bW.ok at r;have y:∀{v':Hp},Ext (· = b) v v'->Ext G v v':=λX=>X.sub λq A=>by rw[A];exact S
 refine aG (g.rS rfl ?_);by_cases h0:l.os=[]
 ·have W:(Kb c l).1=none:=by unfold Kb;rw[h0];rfl
  have B:(Kb c l).2=if l.lim<c.batch then{l with lim:=l.lim+1}else{l with lim:=min (l.lim+c.batch) 128}:=by unfold Kb;rw[h0];rfl
  rw[W,B]at fin;rw[B]at a;refine cJ (by simp[V,h0]) (aG (N.rS rfl (uE U.jI hc (d:=2) O ?_)));simp only[zA (show ¬(2=0) by omega),zA (show ¬(2=1) by omega)];refine aG (g.rI rfl (cI (λc1=>?_) λc1=>?_))
  ·have C:l.lim<c.batch:=by omega
   rw[zB C]at fin a;refine aG (g.rI rfl (cA (m:=l.lim+1) O O (aG (g.s1 (by simp[nN]) λv' K j=>?_))));exact fin v' G (y K.ext) (λq A=>.inl A) (z.st K.ext j M u a)
  ·have C:¬l.lim<c.batch:=by omega
   rw[zA C]at fin a;refine aG (g.rI rfl (cA (m:=l.lim+c.batch) O O (aG (g.s1 (by simp[nN]) λv' K j=>?_))));refine fin v' G (y K.ext) (λq A=>.inl A) (z.st K.ext ?_ M u a);have:(if(128:Int)<((l.lim+c.batch:Nat):Int)then(128:Int)else((l.lim+c.batch:Nat):Int))=((min (l.lim+c.batch) 128:Nat):Int):=by split<;>omega
   rw[this]at j;exact j
 ·have hpos:=qo.2 h0;obtain⟨x,hx⟩:∃x,l.os[l.os.length-1]?=some x:=⟨_,cM O⟩;have D:l.os.getLast?=some x:=by rw[List.getLast?_eq_getElem?];exact hx
  have W:(Kb c l).1=some x:=by unfold Kb;rw[D]
  have B:(Kb c l).2 = {l with os:=l.os.dropLast,low:=min l.low (l.os.length-1)}:=by unfold Kb;rw[D]
  rw[W,B]at fin;rw[B]at a;refine cG (by simp only[m8];omega) ?_;refine aG (g.rS rfl (cA (m:=l.os.length-1) aC O (aG (g.rS rfl (M.pK hx (aG (g.rS rfl ?_)))))));have w:=cR.sub M (lo:=0) (hi:=l.os.length-1) (mx:=s.cap) O O O;have ed:((Wv l.os).drop (0*1)).take ((l.os.length-1-0)*1)=Wv l.os.dropLast:=by simp[Wv,xK]
  rw[ed]at w;refine jc (lo:=0) O aC aC (aG (g.s1 (by simp[nN]) λv1 P H=>aG (H.rI rfl (aG (H.s1 (by simp[nN]) λv2 Z J=>?_)))));have L:=P.ext.trans Z.ext;refine fin v2 G (y L) (λq A=>.inl A) (z.st L ?_ w aC a);have:(if((l.os.length-1:Nat):Int)<(l.low:Int)then((l.os.length-1:Nat):Int)else(l.low:Int))=((min l.low (l.os.length-1):Nat):Int):=by split<;>omega
  rw[this]at J;exact J
theorem Ra (h:eD σ F Y tb bud ls)(hc:tb[k]?=some c)(hl:ls[k]?=some l){R:Int->Int->Hp->Prop}
 (hR:∀σ' Y',Ext F σ σ'->Y'.p=Y.p->eD σ' (Grow F σ) Y' tb bud ls->R ((pv c l:Nat):Int) 0 σ'):Yn.c (aW Y.p) (k:Int) σ R:=by
 obtain⟨m,z⟩:=h.cls hc;refine Yn.o ?_;unfold Yn.v;refine yN h z λv Y' b e r A g=>cG rfl ?_;obtain⟨G,x,j⟩:=g.fO e A hl;obtain⟨w,y,s,i,B,u⟩:=x;have a:=g.hd;rw[r]at a;refine aG (i.rI rfl (aG (a.rS rfl (uE g.jI hc (d:=2) O ?_))));simp only[zA (show ¬(2=0) by omega),zA (show ¬(2=1) by omega)];have:(if(c.batch:Int)<(l.lim:Int)then(c.batch:Int)else(l.lim:Int))=((pv c l:Nat):Int):=by unfold pv;split<;>omega
 rw[this];exact hR v Y' e r g
theorem SC (l:List Int)(i:Nat)(h:i<l.length):l.reverse[i]?=l[l.length-1-i]? := by
 rw[List.getElem?_reverse h]
theorem RO {s:Sl}{xs:List Int}(h:bR s 1 (Wv xs) σ F)(hlen:xs.length<=1000000){R:aP}(hR:∀σ',Ext F σ σ'->bR s 1 (Wv xs.reverse) σ' F->R σ'):W3.c s σ R:=by
 refine W3.o ?_;unfold W3.v;have U:s.len=xs.length:=by have:=h.1;simp[Wv]at this;omega
 let jF (i:Nat):List Int:=(List.range xs.length).map λj=>if j<i\/xs.length-i<=j then xs.getD (xs.length-1-j) 0 else xs.getD j 0
 have kU:∀i,(jF i).length=xs.length:=λi=>by simp[jF]
 have bV:∀i j,j<xs.length->(jF i)[j]?=some (if j<i\/xs.length-i<=j then xs.getD (xs.length-1-j) 0 else xs.getD j 0):=λi j e=>by simp[jF,e]
 have N:jF 0=xs:=by
  apply zz;intro j;by_cases e:j<xs.length
  ·rw[bV 0 j e,zA O];simp[zL,cM e]
  ·rw[zY (by rw[kU];omega),zY O]
 have r:∀i,xs.length<=2*i+1->i<=xs.length->jF i=xs.reverse:=by
  intro i K H;apply zz;intro j;by_cases e:j<xs.length
  ·rw[bV i j e,SC xs j e,zL,zL,cM (show xs.length-1-j<xs.length by omega),cM e];split
   ·rfl
   ·have:xs.length-1-j=j:=by omega
    simp only[this];rfl
  ·rw[zY (by rw[kU];omega),zY aE]
 have step:∀i,2*i+1<xs.length->((jF i).set i (xs.getD (xs.length-1-i) 0)).set (xs.length-1-i) (xs.getD i 0)=jF (i+1):=by
  intro i hi;apply zz;intro j;by_cases e:j<xs.length
  ·rw[bV (i+1) j e,oc,oc];simp only[oP,kU];by_cases B:xs.length-1-i=j
   ·subst B;rw[zB rfl,zB O,zB O]
    congr 2;omega
   ·rw[zA B];by_cases A:i=j
    ·subst A;rw[zB rfl,zB O,zB O]
    ·rw[zA A,bV i j e];by_cases e3:j<i\/xs.length-i<=j
     ·rw[zB e3,zB O]
     ·rw[zA e3,zA O]
  ·rw[zY (by simp[kU];omega),zY (by rw[kU];omega)]
 refine yG ?_;rw[UN O O];refine Ko (a:=bN) (bb:=bN) (λ(i j:Int) v=>∃n:Nat,i=(n:Int)/\j=(xs.length:Int)-1-n/\n<=xs.length/\Ext F σ v/\bR s 1 (Wv (jF n)) v F) (λi _ _=>xs.length-i.toNat) ⟨0,rfl,O,O,Ext.refl _ _,by rw[N];exact h⟩ ?_;rintro i j v ⟨n,rfl,rfl,W,ev,z⟩;refine cI (λS=>?_) λM=>?_
 ·have w:2*n+1<xs.length:=by omega
  have D:(xs.length:Int)-1-n=((xs.length-1-n:Nat):Int):=by omega
  rw[D];have E:=bV n (xs.length-1-n) O;have G:=bV n n O;rw[zA O]at E G;rw[zL]at E G;obtain⟨b,p⟩:∃b,s.a=some ⟨b,0,none⟩:=by
   rcases z.2 with⟨q1,q2⟩|⟨b,cs,_,C,_⟩
   ·omega
   ·exact⟨b,C⟩
  have g:∀u,bR s 1 (Wv (jF n)) u F->∀(j:Nat) (x:Int),(jF n)[j]?=some x->cell u (Addr.add ⟨b,0,none⟩ ((j:Int).toNat*1))=some (.int .i64 x):=λu y j x Q=>by
   obtain⟨J,o,C,P⟩:=y.gp.cell (j:=j) (v:=.int .i64 x) (by simp[Wv,Q]);rw[p]at C;cases C;rw[add_lit,show 0+(j:Int).toNat*1=0+j by omega];exact P
  rw[p];refine⟨λu=>bR s 1 (Wv (jF n)) u F,z,?_⟩;refine ix O O ⟨_,λu y=>g u y _ _ E,?_⟩;refine ix O O ⟨_,λu y=>g u y _ _ G,?_⟩;refine ix O O ?_;refine z.st (j:=n) (by simp[Wv,kU];omega) (λJ d=>by rw[p]at d;cases d;rw[add_lit];simp) λX B K=>?_;refine ix O O ?_;refine K.st (j:=xs.length-1-n) (by simp[Wv,kU];omega) (λJ d=>by rw[p]at d;cases d;rw[add_lit];simp) λV A H=>?_;refine cA (m:=n+1) O O (cA (m:=xs.length-1-n-1) O O ⟨⟨n+1,rfl,O,O,(ev.trans B).trans A,?_⟩,O⟩);rw[←step n w,zL,zL];have L:∀(l:List Int) (i:Nat) (x:Int),Wv (l.set i x)=(Wv l).set i (.int .i64 x):=λl i x=>by simp[Wv,ue]
  rw[L,L];exact H
 ·rw[r n O O]at z;exact hR v ev z
theorem Nf (h:jv b l σ G){sl:Sl}(hz:sl.len=0){R:aN}(hR:∀σ',Ext (· = b) σ σ'->jv b l σ' G->R 0 σ'):W0.c (aW b) sl σ R:=by
 refine W0.o ?_;unfold W0.v;have A:=h;obtain⟨D,j,s,x,g,E⟩:=h;have w:s.len=l.os.length:=by have:=g.1;simp[Wv]at this;omega
 have p:=j.many;refine aG (x.rS rfl (cA (m:=l.os.length) aC O (fG O (aG (x.rS rfl ?_)))));refine Xo.o ?_;unfold Xo.v;refine jc (lo:=0) aC aC aC ?_;have d:=cR.sub g (lo:=0) (hi:=s.len) (mx:=s.len) O O O;have C:((Wv l.os).drop (0*1)).take ((s.len-0)*1)=Wv l.os:=by rw[w,mV (by simp[Wv])];simp
 rw[C]at d;have key:∀(e:Sl),cR e 1 (Wv l.os) σ (λq=>G q/\q≠b)->e.len<=e.cap->bS (some ⟨b,0,none⟩) λu=>dG (u.add 0) (.slice e.a e.len e.cap) σ λv2=>R 0 v2:=λe y r=>by
  refine aG (x.s1 (by simp[nN]) λv2 o2 z=>hR v2 o2.ext ?_);exact A.st (l':=l) (s:=e) o2.ext z y r j
 refine⟨Wv l.os,[],by simp[Wv];omega,by simp[hz],d.rd,by cases sl.a<;>simp[Rd],by simp,?_,by simp only;omega,λB=>?_,λi=>absurd (by simp only[hz];omega) i⟩
 ·simp only[hz];have:(s.len-0+0)*8<=256*8:=kL O O;omega
 ·simp only[hz,zt];cases ha:(if s.len=0 then s.a else s.a.map (·.add (0*1)))
  ·rw[ha]at d;exact key ⟨none,s.len-0,s.len-0⟩ d (zD _)
  ·rw[ha]at d;exact key ⟨some _,s.len-0,s.len-0⟩ d (zD _)
theorem Jr (h:jv b l σ G){sl:Sl}{xs:List Int}{X:Rg}(hs:cR sl 1 (Wv xs) σ X)(hfit:l.os.length+xs.length<=256){R:aN}
 (hR:∀σ',Ext (· = b) σ σ'->jv b (eL xs l) σ' (Grow G σ)->R 0 σ'):W0.c (aW b) sl σ R:=by
 by_cases hx:xs=[]
 ·subst hx;have g:eL [] l=l:=by unfold eL;rw[zA (by simp only[ma]at hfit ⊢;omega)];simp
  refine Nf h (by have:=hs.1;simp[Wv]at this;omega) λσ' e d=>hR σ' e ?_;rw[g];exact(jv.loc _ _).mono d λq _ a=>.inl a
 ·exact Tr h hs hx hfit λσ' e d=>hR σ' e ((jv.loc _ _).mono d λq _ a=>a.imp (λe=>by rw[e];exact h.1) id)
theorem N2 (h:eD σ F Y tb bud ls)(hc:tb[k]?=some c)(hl:ls[k]?=some l){sl:Sl}{xs:List Int}{X:Rg}(hs:cR sl 1 (Wv xs) σ X)(hX:∀q,X q->¬F q)(hfit:l.os.length+xs.length<=256){R:aN}
 (hR:∀σ' Y',Ext F σ σ'->Y'.p=Y.p->eD σ' (Grow F σ) Y' tb bud (ls.set k (eL xs.reverse l))->R 0 σ'):Yi.c (aW Y.p) (k:Int) sl σ R:=by
 obtain⟨s,D⟩:=h.cls hc;have C:sl.len=xs.length:=by have:=hs.1;simp[Wv]at this;omega
 refine Yi.o ?_;unfold Yi.v;refine yN h D λv Y' b e w E B=>cG rfl ?_;have j:=aH.bU hs e λq _ a=>hX q a;refine Hr j Va O λs1 K x J r=>?_;refine RO r O λv2 A i=>?_;have g:bO v v2:=Ext.fresh J A λq a=>a;obtain⟨G,u,d⟩:=(B.bK g).fO (e.trans (bO.to g)) E hl;refine Jr u i.gp aE λv3 y m=>?_;obtain⟨z,H⟩:=d v3 _ _ (y.sub λq a=>a▸u.1) (λq a=>a) m;exact hR v3 Y' z w H
theorem Ql {α:Type}{ls:List α}{k:Nat}{l:α}(h:ls[k]?=some l):ls.set k l=ls:=by
 apply zz;intro j;by_cases hj:j=k
 ·subst hj;rw[zM (cQ.1 h).1,h]
 ·rw[zi (Ne.symm hj)]
theorem Pr (h:eD σ F Y tb bud ls)(hc:tb[k]?=some c)(hl:ls[k]?=some l)(x:Int){R:Sl->Int->Hp->Prop}
 (hR:∀σ' Y' s e (Q:Rg),Ext F σ σ'->Y'.p=Y.p->(l.os.length+1<=256->e=0)->(∀q,Q q->σ.size<=q)->bR s 1 (Wv (dQ c x l).1) σ' Q->eD σ' (λq=>Grow F σ q/\¬Q q) Y' tb bud (ls.set k (dQ c x l).2)->R s e σ'):YQ.c (aW Y.p) (k:Int) x σ R:=by
 obtain⟨P,hk⟩:=h.cls hc;refine YQ.o ?_;unfold YQ.v;refine yN h hk λv Y' b e hp hb h'=>cG rfl ?_;have hσv:=e.1;obtain⟨G,hG,hL,_,N⟩:=h'.xB hb hl;have hblt:b<v.size:=by obtain⟨_,_,s,hbk,_⟩:=hL;exact hbk.lt
 have u:=hL.1;have ac:=hL.2.1;have hmany:=ac.many;have r:∀(σ':Hp) (l':Li) (G':Rg),Ext G v σ'->(∀q,G' q->Grow G v q)->jv b l' σ' G'->Ext F σ σ'/\eD σ' (λq=>Grow F σ q/\q<v.size/\¬G q\/G' q) Y' tb bud (ls.set k l'):=λσ' l' G' e' hg hL'=>by
  obtain⟨H,h1⟩:=N σ' l' G' e' hg hL';exact⟨e.iD H,h1⟩
 have hin:∀{G':Rg} {q:Nat},(∀q,G' q->Grow G v q)->(Grow F σ q/\q<v.size/\¬G q\/G' q)->Grow F σ q:=λhg a=>by
  rcases a with a|a
  ·exact a.1
  ·rcases hg _ a with E|E
   ·exact hG _ E
   ·exact .inr O
 refine nw (cs:=[.int .i64 x]) λv1 hz1 H hb1=>?_;have V:=(jv.loc _ _).bK hL H;have K:cR ⟨some ⟨v.size,0,none⟩,1,1⟩ 1 (Wv [x]) v1 (· = v.size):=hb1.gp (o:=0) rfl (by simp[Wv]) (λj hj=>by
  simp only[Wv,zJ,oY,zP,ma]at hj ⊢;rw[zG])
 by_cases hfit:l.os.length+1<=256
 ·refine Jr V K (by simpa using hfit) λv2 e2 A=>cG rfl ?_;have B:Ext G v v2:=(bO.to H).trans (e2.sub λq a=>a▸u);have S:∀q,Grow G v1 q->Grow G v q:=λq a=>a.imp id λM=>by omega
  obtain⟨eF2,E⟩:=r v2 _ _ B S A;have i:(eL [x] l).os=l.os++[x]/\(eL [x] l).lim=l.lim/\(eL [x] l).low=l.low:=by unfold eL;rw[zA (by simp only[zP,ma];omega)];exact⟨rfl,rfl,rfl⟩
  have y:=A;obtain⟨_,ok2,s2,g,J,C⟩:=A;have hs2l:s2.len=l.os.length+1:=by have:=J.1;simp[Wv,i.1]at this;omega
  refine aG (g.rS rfl (aG (g.rI rfl ?_)));rw[i.2.1];refine cI (λc1=>?_) λc1=>?_
  ·have D:l.os.length+1<=l.lim:=by simp only at c1;omega
   have w:dQ c x l=([],eL [x] l):=by unfold dQ;rw[zA O,zB D]
   refine hR v2 Y' _ 0 (λ_=>False) eF2 hp (λ_=>rfl) (λq a=>a.elim) (by rw[w];exact bR.nil _ _ _ _) ?_;rw[w];exact E.mono λq _ a=>⟨hin S a,id⟩
  ·have D:¬l.os.length+1<=l.lim:=by simp only at c1;omega
   have w:dQ c x l=gQ (min c.batch (l.os.length+1)) (nf c (eL [x] l)):=by unfold dQ;rw[zA O,zA D]
   have Z:=E.hd;rw[hp]at Z;refine aG (Z.rS rfl (uE E.jI hc (d:=2) O ?_));simp only[zA (show ¬(2=0) by omega),zA (show ¬(2=1) by omega)];refine Jn.intro ?_;have rest:∀v3,Ext (· = b) v2 v3->jv b (nf c (eL [x] l)) v3 (Grow G v1)->bS (some ⟨b,0,none⟩) λa62=>jn (a62.add 0) v3 λL=>Xf.c (aW b) (if((L.len:Nat):Int)<(c.batch:Int)then((L.len:Nat):Int)else(c.batch:Int)) v3 λt67 v4=>R t67 0 v4:=by
    intro v3 e3 hL3;have U:=hL3;obtain⟨_,ok3,s3,W,hs3,hcap3⟩:=hL3;have ab:(nf c (eL [x] l)).os=l.os++[x]:=by unfold nf;split<;>exact i.1
    have aa:s3.len=l.os.length+1:=by have:=hs3.1;simp[Wv,ab]at this;omega
    refine aG (W.rS rfl ?_);have em:(if((s3.len:Nat):Int)<(c.batch:Int)then((s3.len:Nat):Int)else(c.batch:Int))=((min c.batch (l.os.length+1):Nat):Int):=by rw[aa];split<;>omega
    rw[em];refine Gu U (by rw[ab];simp;omega) λs z v4 e4 hz hr hL4=>?_;have e24:Ext (· = b) v2 v4:=e3.trans e4;have e04:Ext G v v4:=B.trans (e24.sub λq a=>a▸u);have hs23:=e3.1;have hs02:=B.1;obtain⟨eF4,h4⟩:=r v4 _ (λq=>q=b\/z<=q) e04 (λq a=>a.imp (λ(M:q=b)=>by rw[M];exact u) λ(M:z<=q)=>O) hL4;refine hR v4 Y' s 0 (λq=>v3.size<=q/\q<z) eF4 hp (λ_=>rfl) (λq a=>O) (by rw[w];exact hr) ?_;rw[w];refine h4.mono λq _ a=>⟨?_,λhQ=>?_⟩
    ·rcases a with a|a|a
     ·exact a.1
     ·subst a;exact hG _ u
     ·exact .inr O
    ·rcases a with a|a|a<;>omega
   refine aG (g.rI rfl ?_);rw[i.2.1];refine cI (λc2=>?_) λc2=>?_
   ·have c2':l.lim<c.batch:=by omega
    have eu:nf c (eL [x] l) = {eL [x] l with lim:=l.lim+1}:=by unfold nf;rw[i.2.1,zB c2']
    have X:=IQ P ok2;refine aG (g.rI rfl ?_);rw[i.2.1];have hl128:=ac.lim;refine cA (m:=l.lim+1) O O (aG (g.s1 (by simp[nN]) λv3 o3 hb3=>rest v3 o3.ext ?_));rw[eu]at X ⊢;exact y.st o3.ext hb3 J C X
   ·have eu:nf c (eL [x] l)=eL [x] l:=by unfold nf;rw[i.2.1,zA O]
    exact rest v2 (Ext.refl _ _) (by rw[eu];exact y)
 ·refine Ps V K (by simpa using hfit) aA (cJ rfl ?_);have w:dQ c x l=([],l):=by unfold dQ;rw[zB O]
  refine hR v1 Y' _ 6 (λ_=>False) (e.trans (bO.to H)) hp (λM=>absurd M hfit) (λq a=>a.elim) (by rw[w];exact bR.nil _ _ _ _) ?_;rw[w,Ql hl];exact(h'.bK H).mono λq _ a=>⟨a,id⟩
end Go.Ar
namespace Go.Ar
open Go Go.Vc Go.Proofs
open Go.Bu (Zf QK Zu iR)
variable {σ:Hp}{F:Rg}{p hs:Nat}{A:AR}{Y:Lay}{T:Nat->Hp->Rg->Prop}
theorem cX.qV (h:cX σ F Y A T){k q:Nat}{c:bW}{ss:List cH}(h1:Y.fI[k]?=some q)(h2:A.tb[k]?=some c)(h3:A.cC[k]?=some ss) :
 ∃G:Rg,(∀b,G b->F b)/\(∃ps,fB σ G q c ps ss)/\(∀j,∃H:Rg,(∀b,H b->F b)/\(∀b,H b->¬G b)/\T j σ H)/\∀(σ':Hp) (ss':List cH) (ps':List (Nat×Nat)) (G' H:Rg),
  Ext G σ σ'->(∀b,G' b->G b\/σ.size<=b)->fB σ' G' q c ps' ss'->(∀b,(F b/\b<σ.size/\¬G b\/G' b)->H b)->cX σ' H Y {A with cC:=A.cC.set k ss'} T:=by
 obtain⟨G,p,d,hd,a⟩:=h.step (.cC k);have i:k<A.cC.length:=(cQ.1 h3).1;refine⟨G,p,J9 h1 h2 h3 d,λj=>hd (.cE j) (by intro e;cases e),λσ' ss' ps' G' H e r m g=>?_⟩;refine a σ' _ _ T G' H h.lay.lV h.tl Tm e r ?_ g;simp only[AC];rw[h1,h2,zM i];exact⟨ps',m⟩
theorem Χ (h:cX σ F Y A T)(k m:Int){R:Sl->Int->Hp->Prop}(hR:∀s σ',Ext F σ σ'->bR s 1 (ints (Yt A k m)) σ' (λb=>σ.size<=b)->cX σ' (Cut F σ) Y (YO A k m) T->R s (QF A k m) σ') :
 WE.c (aW Y.p) k m σ R:=by
 refine WE.o ?_;unfold WE.v;refine Uk h k (λw=>?_) λx K z=>?_
 ·have a:QF A k m=1:=by unfold QF;rw[w];rfl
  have u:YO A k m=A:=by unfold YO;rw[a];rfl
  have j:Yt A k m=[]:=by unfold Yt;rw[a];rfl
  have:=hR ⟨none,0,0⟩ σ (Ext.refl _ _) (by rw[j];exact bR.nil _ _ _ _) (by rw[u];exact h.cut);rw[a]at this;exact cJ rfl this
 ·subst K;have w:A.ck (x:Int)=true:=by unfold AR.ck;simp;omega
  obtain⟨c,ss,q,t,r,B,i,D,_,_,J⟩:=h.at_ z;obtain⟨G,C,⟨M,H⟩,_,d⟩:=h.qV D B i;refine cG rfl (aG (h.hd.rS rfl (h.kg D ?_)));by_cases hm:m<0
  ·have a:QF A x m=1:=by unfold QF;rw[w,zB rfl,zB hm]
   have u:YO A x m=A:=by unfold YO;rw[a];rfl
   have j:Yt A x m=[]:=by unfold Yt;rw[a];rfl
   have:=hR ⟨none,0,0⟩ σ (Ext.refl _ _) (by rw[j];exact bR.nil _ _ _ _) (by rw[u];exact h.cut);rw[a]at this;exact Ru H m hm this
  ·have a:QF A x m=0:=by unfold QF;rw[w,zB rfl,zA hm]
   have E:Vz A x m=Q8 c m.toNat ss:=by unfold Vz;simp only[dC];rw[B,i]
   have u:YO A x m = {A with cC:=A.cC.set x (Q8 c m.toNat ss).2}:=by unfold YO;rw[a,zB rfl,E];rfl
   have j:Yt A x m=(Q8 c m.toNat ss).1:=by unfold Yt;rw[a,zB rfl,E]
   refine WkV H m O λs σ' e g y=>?_;have:=hR s σ' (e.sub C) (by rw[j];exact g) (by rw[u];exact d σ' _ _ (Cut G σ) _ e (λb L=>.inl L.1) y (BN C));rw[a]at this;exact this
theorem RR {k:Nat}{f:fQ->fQ}:∀j,j≠Lb.cE k->AC {A with cE:=A.cE.modify k f} Y (cF {A with cE:=A.cE.modify k f} Y) j=AC A Y (cF A Y) j:=by
 intro j hj;cases j<;>first|rfl|skip
 rename_i k';have a:k≠k':=λe=>hj (by rw[e]);simp only[AC,cF];simp[s8,a]
theorem eY.kF {k:Nat}{f:fQ->fQ}(h:eY A Y):eY {A with cE:=A.cE.modify k f} Y:=⟨h.c,h.t,h.cC,by simpa using h.cE,h.nM,h.nP,h.n1,h.n2,h.n3,h.st,h.room,h.ok⟩
theorem cX.tO (h:cX σ F Y A (cF A Y)){k q:Nat}{c:bW}{t:fQ}(h1:Y.gB[k]?=some q)(h2:A.tb[k]?=some c)(h3:A.cE[k]?=some t) :
 ∃G:Rg,(∀b,G b->F b)/\iw σ G q c.batch A.room t/\∀(σ':Hp) (f:fQ->fQ) (G' H:Rg),
  Ext G σ σ'->(∀b,G' b->G b\/σ.size<=b)->iw σ' G' q c.batch A.room (f t)->(∀b,(F b/\b<σ.size/\¬G b\/G' b)->H b)->cX σ' H Y {A with cE:=A.cE.modify k f} (cF {A with cE:=A.cE.modify k f} Y):=by
 obtain⟨G,r,d,hd,a⟩:=h.step (.cE k);have g:iw σ G q c.batch A.room t:=by
  simp only[AC,cF]at d;rw[h1,h2,h3]at d;exact d
 refine⟨G,r,g,λσ' f G' H e i p m=>?_⟩;refine a σ' _ _ _ G' H h.lay.kF (λj=>cF.loc j) RR e i ?_ m;simp only[AC,cF];rw[h1,h2,List.getElem?_modify_eq,h3];exact p
theorem GU (h:cX σ F Y A (cF A Y))(k:Int){R:Sl->Int->Hp->Prop}(hR:∀s σ',Ext F σ σ'->(∀b,lu s b->F b)->cR s 1 (Wv (YL A k)) σ' (lu s)->s.len<=s.cap->cX σ' (λb=>F b/\¬lu s b) Y (ZR A k) (cF (ZR A k) Y)->R s (Z6 A k) σ') :
 WB.c (aW Y.p) k σ R:=by
 refine WB.o ?_;unfold WB.v;refine Uk h k (λD=>?_) λx P J=>?_
 ·have g:Z6 A k=1:=by unfold Z6;rw[D];rfl
  have m:ZR A k=A:=by unfold ZR;rw[g];rfl
  have j:YL A k=[]:=by unfold YL;rw[g];rfl
  have:=hR ⟨none,0,0⟩ σ (Ext.refl _ _) (λb d=>by obtain⟨a,i,_⟩:=d;cases i) (by rw[j];exact cR.nil _ _ _ _) (zD _) (by rw[m];exact h.mono λb _ d=>⟨d,λ⟨a,i,_⟩=>by cases i⟩);rw[g]at this;exact cJ rfl this
 ·subst P;have D:A.ck (x:Int)=true:=by unfold AR.ck;simp;omega
  obtain⟨c,U,q,t,r,N,M,V,C,K,S⟩:=h.at_ J;obtain⟨G,H,L,w⟩:=h.tO K N C;refine cG rfl (aG (h.hd.rS rfl (h.pX K ?_)));by_cases d:t.bs=[]
  ·have g:Z6 A x=4:=by unfold Z6;rw[D,zB rfl];simp only[dC];rw[C];simp[d]
   have m:ZR A x=A:=by unfold ZR;rw[g];rfl
   have j:YL A x=[]:=by unfold YL;rw[g];rfl
   have:=hR ⟨none,0,0⟩ σ (Ext.refl _ _) (λb d=>by obtain⟨a,i,_⟩:=d;cases i) (by rw[j];exact cR.nil _ _ _ _) (zD _) (by rw[m];exact h.mono λb _ d=>⟨d,λ⟨a,i,_⟩=>by cases i⟩);rw[g]at this;exact NV L d this
  ·have g:Z6 A x=0:=by unfold Z6;rw[D,zB rfl];simp only[dC];rw[C];simp[d]
   have m:ZR A x = {A with cE:=A.cE.modify x fQ.rem}:=by unfold ZR;rw[g,zB rfl];rfl
   have j:YL A x=t.bs.getLast?.getD []:=by unfold YL;rw[g,zB rfl];simp only[dC];rw[C]
   refine Pm L d λs σ' e u y z E=>?_;have B:∀b,(F b/\b<σ.size/\¬G b\/G b/\¬lu s b)->F b/\¬lu s b:=λb d=>by
    rcases d with d|d
    ·exact⟨d.1,λQ=>d.2.2 (u b Q)⟩
    ·exact⟨H b d.1,d.2⟩
   have:=hR s σ' (e.sub H) (λb d=>H b (u b d)) (by rw[j];exact y) z (by rw[m];exact w σ' _ (λb=>G b/\¬lu s b) _ e (λb d=>.inl d.1) E B);rw[g]at this;exact this
theorem PD (h:cX σ F Y A (cF A Y))(k:Int){sl:Sl}{xs:List Int}{X:Rg}(hs:cR sl 1 (Wv xs) σ X)(hi:∀x∈xs,iL x){R:Bool->Int->Hp->Prop}(hR:∀σ',Ext F σ σ'->cX σ' (Grow F σ) Y (Q7 A k xs) (cF (Q7 A k xs) Y)->R (Vm A k xs) (Hx A k xs) σ') :
 WJ.c (aW Y.p) k sl σ R:=by
 refine WJ.o ?_;unfold WJ.v;have u:sl.len=xs.length:=by have:=hs.1;simp[Wv]at this;omega
 have no:∀e:Int,e≠0->Hx A k xs=e->R false e σ:=λe he D=>by
  have e3:Vm A k xs=false:=by unfold Vm;rw[zh O];rfl
  have L:Q7 A k xs=A:=by unfold Q7;rw[e3];rfl
  have:=hR σ (Ext.refl _ _) (by rw[L];exact h.mono λb _ g=>.inl g);rw[D,e3]at this;exact this
 refine Uk h k (λhk=>cJ rfl (no 1 aB (by unfold Hx;rw[hk];rfl))) λx Q aa=>?_;subst Q;have hk:A.ck (x:Int)=true:=by unfold AR.ck;simp;omega
 obtain⟨c,S,q,t,r,P,H,hq,ht,hr,ab⟩:=h.at_ aa;obtain⟨G1,ps,hG1,V⟩:=h.cC hq P H;obtain⟨G,hG,hC,M⟩:=h.tO hr P ht;have N:Hx A x xs=if xs.length=c.batch then(if xs.all (λx=>eI c S x==some true)then 0 else 8)else 1:=by unfold Hx;rw[hk,zB rfl];simp only[dC];rw[P,H]
 refine cG rfl (aG (h.hd.rS rfl (h.xh (d:=2) P O ?_)));simp only[zA (show ¬(2=0) by omega),zA (show ¬(2=1) by omega)];rw[tx];refine cU (λg=>?_) λg=>?_
 ·have:¬xs.length=c.batch:=by rw[←u];simpa using g
  exact no 1 aB (by rw[N,zA this])
 have E:xs.length=c.batch:=by rw[←u];simpa using g
 rw[zB E]at N;have h32:c.batch<=32:=ab.2.2.2.2.2.2.2;refine ZU (a:=bN) (λ(i:Int) v=>∃j:Nat,i=(j:Int)/\j<=xs.length/\v=σ/\∀y∈xs.take j,eI c S y=some true) (λi _=>xs.length-i.toNat) ⟨0,rfl,O,rfl,by simp⟩ ?_;rintro i v ⟨j,rfl,hj,rfl,s⟩;refine cI (λhlt2=>?_) λhge=>?_
 ·have J:j<xs.length:=by omega
  have Q:xs[j]?=some xs[j]:=cM J;have U:xs.take (j+1)=xs.take j++[xs[j]]:=by rw[zg,Q];rfl
  have w:=zc J;generalize xs[j]=y at *;have K:eI c S y≠some true->R false 8 v:=λW=>no 8 aB (by
   rw[N,zA];intro ha;rw[kN]at ha;exact W (by simpa using ha y w))
  refine hs.pK Q (aG (h.hd.rS rfl (h.kg hq (Jt V _ (hi y w) (λb g=>?_) λg=>?_))))
  ·refine bY.intro (cG rfl ?_);cases b
   ·exact cJ rfl (K (by rw[g];simp))
   ·refine cG rfl (cA (m:=j+1) O O ⟨⟨j+1,rfl,O,rfl,λz hz=>?_⟩,O⟩);rw[U]at hz;rcases zR.1 hz with D|D
    ·exact s z D
    ·simp at D;rw[D];exact g
  ·exact bY.intro (cJ rfl (cJ rfl (K (by rw[g];simp))))
 ·have:j=xs.length:=by omega
  subst this;rw[zn]at s;have B:Hx A x xs=0:=by
   rw[N,zB];rw[kN];intro y hy;simp[s y hy]
  have C:Vm A x xs=decide (t.bs.length<A.room):=by unfold Vm;rw[B];simp only[dC];rw[ht];simp
  refine aG (h.hd.rS rfl (h.pX hr (Rm hC hs O (λW=>absurd E W) (λ_ hf=>?_) λ_ hf σ' e Z=>?_)))
  ·rw[zh O]at C;have L:Q7 A x xs=A:=by unfold Q7;rw[C];rfl
   have:=hR v (Ext.refl _ _) (by rw[L];exact h.mono λb _ g=>.inl g);rw[B,C]at this;exact this
  ·rw[zW O]at C;have L:Q7 A x xs = {A with cE:=A.cE.modify x λt=>{t with bs:=t.bs++[xs]}}:=by unfold Q7;rw[C,zB rfl];rfl
   have:=hR σ' (e.sub hG) (by rw[L];exact M σ' (λt=>{t with bs:=t.bs++[xs]}) (Grow G v) _ e (λb g=>g) Z (Hb hG λb g=>g));rw[B,C]at this;exact this
theorem fB.IW {q:Nat}{c:bW}{ps:List (Nat×Nat)}{ss:List cH}{G:Rg}(h:fB σ G q c ps ss):∀s∈ss,s.st<=1024:=by
 intro s hs;obtain⟨i,a⟩:=zN hs;have b:=(cQ.1 a).1;have d:i<ps.length:=by rw[h.len];exact b
 have:=(h.sp _ _ _ (cM d) a).fit;omega
theorem GL (h:cX σ F Y A T)(k:Int){sl:Sl}{xs:List Int}(hi:∀x∈xs,iL x)(hl:xs.length<=1000000)(hcap:sl.len<=sl.cap)
 (hs:(∃X:Rg,cR sl 1 (Wv xs) σ X/\∀b,b<σ.size->X b->¬F b)\/∃j,∀H,T j σ H->cR sl 1 (Wv xs) σ H)
 {R:aN} (hR:∀σ',Ext F σ σ'->cX σ' (Grow F σ) Y (Zg A k xs) T->R (QW A k xs) σ') :
 WC.c (aW Y.p) k sl σ R:=by
 refine WC.o ?_;unfold WC.v;have no:∀e:Int,e≠0->QW A k xs=e->R e σ:=λe he V=>by
  have P:Zg A k xs=A:=by unfold Zg;rw[zA O]
  have:=hR σ (Ext.refl _ _) (by rw[P];exact h.mono λb _ d=>.inl d);rw[V]at this;exact this
 refine Uk h k (λhk=>cJ rfl (no 1 aB (by unfold QW;rw[hk];rfl))) λx hx Z=>?_;subst hx;have hk:A.ck (x:Int)=true:=by unfold AR.ck;simp;omega
 obtain⟨c,g,q,t,r,L,u,hq,_,_,hok⟩:=h.at_ Z;obtain⟨G,U,⟨ps,hC⟩,hd,C⟩:=h.qV hq L u;have hX:∃X:Rg,cR sl 1 (Wv xs) σ X/\∀b,X b->¬G b:=by
  rcases hs with⟨X,V,h2⟩|⟨j,hj⟩
  ·exact⟨Cut X σ,aH.cut V,λb d hg=>h2 b d.2 d.1 (U b hg)⟩
  ·obtain⟨H,_,D,hT⟩:=hd j;exact⟨H,hj H hT,D⟩
 obtain⟨X,W,M⟩:=hX;have K:QW A x xs=iS c g xs:=by unfold QW;rw[hk,zB rfl];simp only[dC];rw[L,u]
 refine cG rfl (aG (h.hd.rS rfl (h.kg hq (LO hC W M hi hl hcap (λD=>?_) λh0 o σ1 Q m N=>?_))))
 ·refine cJ (by simpa using D) (no _ D K)
 ·refine cG rfl ?_;have eS:Zg A x xs=VO {A with cC:=A.cC.set x (cK (xs.foldl (fM c) g))} ((Z7 (xs.foldl (fM c) g)).map λs=>(s,c.aF)):=by
   unfold Zg;rw[K,zB h0];simp only[dC];rw[L,u]
  have J:=C σ1 _ _ (Cut G σ) _ Q (λb d=>.inl d.1) N (BN U);rw[Ew]at m;have B:((Z7 (xs.foldl (fM c) g)).map λs=>(s,c.aF)).length<=1000000/\∀r∈((Z7 (xs.foldl (fM c) g)).map λs=>(s,c.aF)),r.1<=1000000:=by
   have i:∀(ys:List Int) (ls:List cH),((ys.foldl (fM c) ls).map (·.st))=ls.map (·.st):=by
    intro ys
    induction ys with
    | nil=>intro ls;rfl
    | cons y ys ih=>
     intro ls;rw[lg,ih];unfold fM;split
     ·rename_i j hj;split
      ·rename_i s a;split
       ·simp only[ue];apply zz;intro z;rw[oc];by_cases w:j=z
        ·subst w;rw[zB rfl];have:=(cQ.1 a).1;rw[zB (by simpa using this)];simp[a,cH.put]
        ·rw[zA w]
       ·rfl
      ·rfl
     ·rfl
   have E:∀s∈Z7 (xs.foldl (fM c) g),s∈g.map (·.st):=by
    intro s a;rw[←i xs g];unfold Z7 at a;simp only[zC,zH]at a ⊢;obtain⟨z,w,rfl⟩:=a;exact⟨z,w.1,rfl⟩
   have hfew:=hC.lr;refine⟨?_,λr hr=>?_⟩
   ·have:(Z7 (xs.foldl (fM c) g)).length<=(xs.foldl (fM c) g).length:=by
     unfold Z7;rw[za];exact nh _ _
    have h2:(xs.foldl (fM c) g).length=g.length:=by have:=congrArg List.length (i xs g);simpa using this
    rw[za];omega
   ·obtain⟨s,a,rfl⟩:=zC.1 hr;obtain⟨z,w,rfl⟩:=zC.1 (E s a);have:=hC.IW z w;simp only;omega
  refine Bh J m.gp (λb _ d hf=>by have:=hf.2;omega) B.1 B.2 λσ2 P S=>?_;have:=hR σ2 ((Q.sub U).trans (P.sub λb d=>d.1)) ?_
  ·rw[K,h0]at this;exact this
  ·rw[eS];exact S.mono λb _ d=>by
    rcases d with d|d
    ·exact .inl d.1
    ·exact .inr (zI Q.1 d)
theorem Wlx (l:List (Nat×Nat))(x:Int):bV (iz l) x=(l.find? λr=>(r.1:Int)==x).map λr=>(r.2:Int):=by
 induction l with
 | nil=>rfl
 | cons r l ih=>
  have:iz (r::l)=((r.1:Int),(r.2:Int))::iz l:=rfl;rw[this,Kh,uZ,ih];by_cases h:(r.1:Int)=x
  ·simp[h]
  ·have:((r.1:Int)==x)=false:=by simpa using h
   rw[this,zA h]
theorem Nx (l:List (Nat×Nat))(x:Int):cT (iz l) x=iz (l.filter λq=>!((q.1:Int)==x)):=by
 unfold cT iz;rw[List.filter_map];rfl
theorem NH (l:List (Nat×Nat))(x m:Nat):dF (iz l) (x:Int) (m:Int)=iz (cD.mset2 l x m):=by
 unfold dF cD.mset2 iz;have e:(l.map λr=>((r.1:Int),(r.2:Int))).any (λy=>y.1==(x:Int))=l.any λr=>r.1==x:=by
  rw[List.any_map]
  congr 1
  funext r
  exact j3 r.1 x
 rw[e];split
 ·rw[zm,zm];apply zw;intro r _;simp only[Function.comp_def];rw[j3];split<;>rfl
 ·simp
theorem cX.pG (h:cX σ F Y A T):F Y.rn/\dL σ Y.rn .i64 bN (iz A.runs)/\∀(σ':Hp) (rs:List (Nat×Nat)),QC σ σ' Y.rn->dL σ' Y.rn .i64 bN (iz rs)->cX σ' F Y {A with runs:=rs} T:=by
 obtain⟨G,g,⟨e,m⟩,_,a⟩:=h.step .runs;refine⟨g _ e,m,λσ' rs j p=>?_⟩;exact a σ' _ _ T G _ h.lay.rr h.tl OJ (j.ext.sub λb d=>by subst d;exact e) (λb d=>.inl d) ⟨e,p⟩ (yH g λb d=>d)
theorem Wc6 (h:cX σ F Y A T)(x:Int)(hf:∀r∈A.runs,r.1<=1000000){R:aN}(hR:∀σ',Ext F σ σ'->cX σ' (Grow F σ) Y (QE A x) T->R (KT A x) σ') :
 WR.c (aW Y.p) x σ R:=by
 refine WR.o ?_;unfold WR.v;obtain⟨S,K,e⟩:=h.pG;refine KU h (cG rfl (aG (h.hd.rM rfl ⟨_,K,?_⟩)));rw[Wlx];cases hr:(A.runs.find? λr=>(r.1:Int)==x)with
 | none=>
  have w:KT A x=8:=by unfold KT qz;rw[hr];rfl
  have E:QE A x=A:=by unfold QE qz;rw[hr]
  have:=hR σ (Ext.refl _ _) (by rw[E];exact h.mono λb _ a=>.inl a);rw[w]at this;exact cJ rfl this
 | some r=>
  have w:KT A x=0:=by unfold KT qz;rw[hr];rfl
  have E:QE A x=V3 {A with runs:=A.runs.filter λq=>!((q.1:Int)==x)} r:=by unfold QE qz;rw[hr]
  have s:=tZ hr;have C:(r.1:Int)=x:=by simpa using sI hr
  refine cG rfl (aG (h.hd.rM rfl ⟨_,K,λm D _ z=>?_⟩));have o1:=D _ rfl;have d:dL m Y.rn .i64 bN (cT (iz A.runs) x):=z;rw[Nx]at d;have u:=e m _ o1 d;simp only[zf,pN];refine nw (cs:=[.int .i64 x,.int .i64 (r.2:Int)]) λQ M g J=>?_;have y:=u.cut.bK g;have G:cR ⟨some ⟨m.size,0,none⟩,1,1⟩ 2 (rV [r]) Q (· = m.size):=by
   refine⟨rfl,.inr ⟨_,0,_,rfl,rfl,J.q,λj U=>?_⟩⟩;have:rV [r]=[.int .i64 (r.1:Int),.int .i64 (r.2:Int)]:=rfl;rw[this,C,zG]
  refine Bh y G (λb _ a N=>by have:=N.2;omega) aA (λq L=>by simp at L;subst L;exact hf _ s) λv3 P B=>?_;have H:Ext F σ v3:=(o1.ext.sub λb a=>by subst a;exact S).trans ((bO.to g).trans (P.sub λb a=>a.1));have:=hR v3 H (by
   rw[E];exact B.mono λb _ a=>by
    rcases a with a|a
    ·exact .inl a.1
    ·exact .inr (by have:=o1.1;omega))
  rw[w]at this;exact this
theorem Qh (rs:List (Nat×Nat)):∀A:AR,(VO A rs).tb=A.tb/\(VO A rs).room=A.room/\(VO A rs).cE=A.cE/\(VO A rs).cC=A.cC/\(VO A rs).runs=A.runs/\(VO A rs).n=A.n:=by
 induction rs with
 | nil=>intro A;exact⟨rfl,rfl,rfl,rfl,rfl,rfl⟩
 | cons r rs ih=>intro A;exact ih (V3 A r)
theorem VC (A:AR)(k:Int)(xs:List Int):(Zg A k xs).tb=A.tb/\(Zg A k xs).room=A.room/\(Zg A k xs).cE=A.cE/\(Zg A k xs).runs=A.runs/\(Zg A k xs).n=A.n:=by
 unfold Zg;split
 ·split
  ·exact⟨(Qh _ _).1,(Qh _ _).2.1,(Qh _ _).2.2.1,(Qh _ _).2.2.2.2.1,(Qh _ _).2.2.2.2.2⟩
  ·exact⟨rfl,rfl,rfl,rfl,rfl⟩
 ·exact⟨rfl,rfl,rfl,rfl,rfl⟩
theorem cX.On {T':Nat->Hp->Rg->Prop}(h:cX σ F Y A T)(hT:∀k,dR (T' k))(hi:∀k G,T k σ G->T' k σ G):cX σ F Y A T':=by
 refine⟨h.lay,hT,?_⟩;obtain⟨ρ,a⟩:=h.sep;refine⟨ρ,λi=>?_⟩;have:=a i;cases i<;>first|exact this|exact hi _ _ this
theorem SI (h:cX σ F Y A T){k:Nat}(hk:k<A.tb.length){q:Nat}(hq:Y.fI[k]?=some q){K:aP}(hK:∀σ',Ext F σ σ'->cX σ' (Grow F σ) Y (QM A k) T->K σ') :
 WW.c (aW q) σ λt34 v2=>Xg.c (aW Y.p) t34 v2 K:=by
 obtain⟨c,m,U,t,r,D,g,j,_,_,S⟩:=h.at_ hk;rw[hq]at j;cases j;obtain⟨G,E,⟨V,C⟩,hd,i⟩:=h.qV hq D g;refine Fb C λo R y d w=>?_;have u:=i R _ _ (Cut G σ) _ y (λb a=>.inl a.1) w (BN E);rw[Ew]at d;have J:QM A k=VO {A with cC:=A.cC.set k (cK m)} ((Z7 m).map λs=>(s,c.aF)):=by
  unfold QM;rw[D,g]
 have H:=C.lr;have x:=C.IW;refine Bh u d.gp (λb _ a N=>by have:=N.2;omega) ?_ (λr Q=>?_) λP L B=>?_
 ·have:(Z7 m).length<=m.length:=by unfold Z7;rw[za];exact nh _ _
  rw[za];omega
 ·obtain⟨s,e,rfl⟩:=zC.1 Q;unfold Z7 at e;simp only[zC,zH]at e;obtain⟨z,M,rfl⟩:=e;have:=x z M.1;simp only;omega
 ·refine hK P ((y.sub E).trans (L.sub λb a=>a.1)) ?_;rw[J];exact B.mono λb _ a=>by
   rcases a with a|a
   ·exact .inl a.1
   ·exact .inr (zI y.1 a)
theorem ι (A:AR)(k:Nat):(QM A k).tb=A.tb/\(QM A k).room=A.room/\(QM A k).cE=A.cE/\(QM A k).runs=A.runs/\(QM A k).n=A.n:=by
 unfold QM;split
 ·exact⟨(Qh _ _).1,(Qh _ _).2.1,(Qh _ _).2.2.1,(Qh _ _).2.2.2.2.1,(Qh _ _).2.2.2.2.2⟩
 ·exact⟨rfl,rfl,rfl,rfl,rfl⟩
theorem Vx (m:Nat)(A:AR):((List.range m).foldl QM A).tb=A.tb/\((List.range m).foldl QM A).room=A.room/\((List.range m).foldl QM A).cE=A.cE/\((List.range m).foldl QM A).runs=A.runs/\((List.range m).foldl QM A).n=A.n:=by
 induction m with
 | zero=>exact⟨rfl,rfl,rfl,rfl,rfl⟩
 | succ m ih=>
  rw[j7,mN];have:=ι ((List.range m).foldl QM A) m;exact⟨this.1.trans ih.1,this.2.1.trans ih.2.1,this.2.2.1.trans ih.2.2.1,this.2.2.2.1.trans ih.2.2.2.1,this.2.2.2.2.trans ih.2.2.2.2⟩
theorem LH (h:cX σ F Y A T){dH:Sl}(hcr:dH=Y.dH){K:aP}(hK:∀σ',Ext F σ σ'->cX σ' (Grow F σ) Y (YI A) T->K σ') :
 W7 [bN] (λI=>I 0 σ) λJ (t28:Int) v1=>If (decide (t28<((dH.len:Nat):Int))) (Ix dH.a dH.len t28 1 λa30=>fW a30 v1 λl=>WW.c l v1 λt34 v2=>
  Xg.c (aW Y.p) t34 v2 λv3=>Ar .i64 (t28+1) λt36=>J t36 v3) (K v1):=by
 subst hcr;have H:=h.wW;refine ZU (a:=bN) (λ(t:Int) v=>∃i:Nat,t=(i:Int)/\i<=A.tb.length/\Ext F σ v/\cX v (Grow F σ) Y ((List.range i).foldl QM A) T) (λt _=>A.tb.length-t.toNat) ⟨0,rfl,O,Ext.refl _ _,h.mono λb _ d=>.inl d⟩ ?_;rintro t v ⟨i,rfl,D,e,s⟩;refine cI (λB=>?_) λx=>?_
 ·have g:i<A.tb.length:=by omega
  have u:=Vx i A;obtain⟨c,E,q,t,r,G,y,w,_,_,C⟩:=h.at_ g;refine s.kg w (SI s.cut (by rw[u.1];exact g) w λv3 z j=>?_);refine cA (m:=i+1) O (by have:=h.lay.nP;omega) ⟨⟨i+1,rfl,O,e.iD (z.sub λb d=>d.1),?_⟩,O⟩;rw[j7,mN];exact j.mono λb _ d=>by
   rcases d with d|d
   ·exact d.1
   ·exact .inr (zI e.1 d)
 ·have:i=A.tb.length:=by omega
  subst this;exact hK v e s
def lP (A:AR):Prop:=∀t∈A.cE,∀xs∈t.bs,∀x∈xs,iL x
theorem fQ.mC (t:fQ):∀xs∈t.tick.bs,xs∈t.bs:=λxs h=>qi h
theorem fQ.qG (t:fQ):∀xs∈t.out,xs∈t.bs:=λxs h=>mK h
theorem K0 {α:Type}{l:List α}{k:Nat}{t:α}{f:α->α}(h:l[k]?=some t):l.modify k f=l.set k (f t):=by
 apply zz;intro i;rw[oc,s8];by_cases hi:k=i
 ·subst hi;have:=(cQ.1 h).1;rw[zB rfl,zB this,h];simp
 ·simp[hi]
theorem U9 (A:AR)(k:Nat):(Ks A k).tb=A.tb/\(Ks A k).room=A.room/\(Ks A k).cE=(match A.cE[k]? with|some t=>A.cE.set k t.tick|none=>A.cE)/\(Ks A k).runs=A.runs/\(Ks A k).n=A.n:=by
 have key:∀(l:List (List Int)) (B:AR),(l.foldl (λA' a=>Zg A' k a) B).tb=B.tb/\(l.foldl (λA' a=>Zg A' k a) B).room=B.room/\(l.foldl (λA' a=>Zg A' k a) B).cE=B.cE/\(l.foldl (λA' a=>Zg A' k a) B).runs=B.runs/\(l.foldl (λA' a=>Zg A' k a) B).n=B.n:=by
  intro l
  induction l with
  | nil=>intro B;exact⟨rfl,rfl,rfl,rfl,rfl⟩
  | cons x l ih=>
   intro B;have d:=ih (Zg B k x);have b:=VC B k x;exact⟨d.1.trans b.1,d.2.1.trans b.2.1,d.2.2.1.trans b.2.2.1,d.2.2.2.1.trans b.2.2.2.1,d.2.2.2.2.trans b.2.2.2.2⟩
 unfold Ks;cases A.cE[k]? with
 | none=>exact⟨rfl,rfl,rfl,rfl,rfl⟩
 | some t=>exact key _ _
theorem L9 {k:Nat}(h:lP A):lP (Ks A k):=by
 unfold lP;rw[(U9 A k).2.2.1];cases hk:A.cE[k]? with
 | none=>exact h
 | some t=>
  intro t' ht';rcases vR ht' with h1|h1
  ·exact h t' h1
  ·subst h1;exact λb a=>h t (zE hk) b (t.mC b a)
def GR (A:AR)(Y:Lay)(k r:Nat)(c:bW)(t:fQ)(out:Sl)(sls:List Sl)(j:Nat):Hp->Rg->Prop:=
 if j=k then λσ G=>iw σ G r c.batch A.room t.tick/\cR out 1 (sls.map nG) σ G/\oR sls t.out σ G else cF A Y j
theorem GR.loc {k r:Nat}{c:bW}{t:fQ}{out:Sl}{sls:List Sl}(j:Nat):dR (GR A Y k r c t out sls j):=by
 unfold GR;split
 ·exact λσ i F G ⟨e,d,g⟩ b a=>⟨iw.loc _ _ _ _ e b a,cR.loc _ _ _ _ _ _ _ d b a,oR.loc _ _ _ _ _ _ g b a⟩
 ·exact cF.loc j
theorem Po {k r:Nat}{c:bW}{t:fQ}{out:Sl}{sls:List Sl}{tr:List fQ}:∀j,j≠Lb.cE k->AC {A with cE:=tr} Y (GR A Y k r c t out sls) j=AC A Y (cF A Y) j:=by
 intro j hj;cases j<;>first|rfl|skip
 rename_i k';have a:¬k'=k:=λe=>hj (by rw[e]);simp only[AC,GR];rw[zA a]
theorem M7 (h:cX σ F Y A (cF A Y)){k r:Nat}(hk:k<A.tb.length)(hr:Y.gB[k]?=some r)(hI:lP A){K:aP}(hK:∀σ',Ext F σ σ'->cX σ' (Grow F σ) Y (Ks A k) (cF (Ks A k) Y)->K σ') :
 Xk.c (aW r) σ λt20 v2=>W7 [bN] (λI1=>I1 0 v2) λJ1 (t22:Int) v3=>If (decide (t22<((t20.len:Nat):Int))) (Ix t20.a t20.len t22 1 λa24=>jn a24 v3 λbatch=>
  WC.c (aW Y.p) (k:Int) batch v3 λt29 v4=>Ar .i64 (t22+1) λt30=>J1 t30 v4) (K v3):=by
 obtain⟨c,ss,q,t,r',hc,hss,hq,P,D,hok⟩:=h.at_ hk;rw[hr]at D;cases D;obtain⟨G,hG,U,hd,E⟩:=h.step (.cE k);have N:iw σ G r c.batch A.room t:=by
  simp only[AC,cF]at U;rw[hr,hc,P]at U;exact U
 refine RY N λout v2 e2 L R=>?_;obtain⟨d,M,J⟩:=L;have W:=e2.sub hG;have hOg:cR out 1 (d.map nG) v2 (Grow G σ):=aH.mono M λb _ g=>.inl g;have V:oR d t.out v2 (Grow G σ):=(oR.loc _ _).mono J λb _ g=>.inl g;have aa:cX v2 (Grow F σ) Y {A with cE:=A.cE.set k t.tick} (GR A Y k r c t out d):=by
  refine E v2 _ _ _ (Grow G σ) _ ?_ GR.loc Po e2 (λb g=>g) ?_ (Hb hG λb g=>g)
  ·exact⟨h.lay.c,h.lay.t,h.lay.cC,by simpa using h.lay.cE,h.lay.nM,h.lay.nP,h.lay.n1,h.lay.n2,h.lay.n3,h.lay.st,h.lay.room,h.lay.ok⟩
  ·simp only[AC,GR,zS];exact⟨R,hOg,V⟩
 have hol:out.len=t.out.length:=by
  have:=M.1;have:=J.1;simp at *;omega
 have hfew:t.out.length<=8:=by
  have h1:=N.lr;have h2:=N.r1;have:t.out.length<=t.bs.length:=by unfold fQ.out;rw[zO];omega
  omega
 refine ZU (a:=bN) (λ(i:Int) w=>∃j:Nat,i=(j:Int)/\j<=t.out.length/\Ext F σ w/\cX w (Grow F σ) Y ((t.out.take j).foldl (λA' xs=>Zg A' k xs) {A with cE:=A.cE.set k t.tick}) (GR A Y k r c t out d)) (λi _=>t.out.length-i.toNat) ⟨0,rfl,O,W,aa⟩ ?_;rintro i w ⟨j,rfl,hj,ew,s⟩;refine cI (λhlt=>?_) λhge=>?_
 ·have C:j<t.out.length:=by omega
  have S:t.out[j]?=some t.out[j]:=cM C;have Z:t.out.take (j+1)=t.out.take j++[t.out[j]]:=by rw[zg,S];rfl
  have z:=t.qG _ (zc C);generalize t.out[j]=xs at *;obtain⟨G2,hG2,u⟩:=s.sep.get (.cE k);simp only[AC,GR,zS]at u;have Q:j<d.length:=by rw[u.2.2.1];exact C
  have X:d[j]?=some d[j]:=cM Q;refine u.2.1.yP X (GL (xs:=xs) s k (hI t (zE P) xs z) (by have:=N.all xs z;have:=N.b1;omega) (u.2.2.2 j _ xs X S).2 (.inr ⟨k,λH B=>?_⟩) λw2 e3 hA3=>?_)
  ·unfold GR at B;rw[zB rfl]at B;exact(B.2.2.2 j _ xs X S).1
  ·refine cA (m:=j+1) O O ⟨⟨j+1,rfl,O,ew.iD e3,?_⟩,O⟩;rw[Z,mN];exact hA3.mono λb _ g=>by
    rcases g with g|g
    ·exact g
    ·exact .inr (zI ew.1 g)
 ·have:j=t.out.length:=by omega
  subst this;rw[zn]at s;have x:=U9 A k;rw[P]at x;have e1:Ks A k=t.out.foldl (λA' xs=>Zg A' k xs) {A with cE:=A.cE.set k t.tick}:=by unfold Ks;rw[P]
  rw[←e1]at s;refine hK w ew (s.On (λj=>cF.loc j) λj G3 y=>?_);unfold GR at y;unfold cF;rw[x.1,x.2.1,x.2.2.1];simp only;split at y
  ·rename_i hjk;subst hjk;rw[hr,hc,zM (by rw[h.lay.cE];exact hk)];exact y.1
  ·rename_i hjk;rw[zi (λe=>hjk e.symm)];exact y
theorem F6 (m:Nat)(A:AR)(hI:lP A):((List.range m).foldl Ks A).tb=A.tb/\((List.range m).foldl Ks A).cE.length=A.cE.length/\((List.range m).foldl Ks A).runs=A.runs/\((List.range m).foldl Ks A).n=A.n/\lP ((List.range m).foldl Ks A):=by
 induction m with
 | zero=>exact⟨rfl,rfl,rfl,rfl,hI⟩
 | succ m ih=>
  rw[j7,mN];have:=U9 ((List.range m).foldl Ks A) m;refine⟨this.1.trans ih.1,?_,this.2.2.2.1.trans ih.2.2.1,this.2.2.2.2.trans ih.2.2.2.1,L9 ih.2.2.2.2⟩;show(Ks ((List.range m).foldl Ks A) m).cE.length=_;rw[this.2.2.1];split
  ·rw[oP];exact ih.2.1
  ·exact ih.2.1
theorem Pv (h:cX σ F Y A (cF A Y))(hI:lP A){R:aP}(hR:∀σ',Ext F σ σ'->cX σ' (Grow F σ) Y (U7 A) (cF (U7 A) Y)->R σ'):Zc.c (aW Y.p) σ R:=by
 refine Zc.o ?_;unfold Zc.v;refine KU h (cG rfl (aG (h.hd.rS rfl ?_)));have J:=h.jf;refine ZU (a:=bN) (λ(t:Int) v=>∃i:Nat,t=(i:Int)/\i<=A.tb.length/\Ext F σ v/\cX v (Grow F σ) Y ((List.range i).foldl Ks A) (cF ((List.range i).foldl Ks A) Y)) (λt _=>A.tb.length-t.toNat) ⟨0,rfl,O,Ext.refl _ _,h.mono λb _ d=>.inl d⟩ ?_;rintro t v ⟨i,rfl,D,e,x⟩;refine cI (λw=>?_) λs=>?_
 ·have g:i<A.tb.length:=by simp only at w;omega
  have j:=F6 i A hI;obtain⟨c,E,q,t,r,G,z,H,_,y,C⟩:=h.at_ g;refine x.pX y (M7 x.cut (by rw[j.1];exact g) y j.2.2.2.2 λv3 B u=>?_);refine cA (m:=i+1) O (by have:=h.lay.nP;omega) ⟨⟨i+1,rfl,O,e.iD (B.sub λb d=>d.1),?_⟩,O⟩;rw[j7,mN];exact u.mono λb _ d=>by
   rcases d with d|d
   ·exact d.1
   ·exact .inr (zI e.1 d)
 ·have:i=A.tb.length:=by simp only at s;omega
  subst this;refine hR v e ?_;unfold U7;rw[h.lay.cE];exact x
end Go.Ar
namespace Go.Bu
variable {n:Nat}{S:Nat->Bool}
theorem VY {m a k x:Nat}(h:ZT n S m a k=some x):∃j,j<k/\m<=2^j/\a<=2^j/\(Kc n S j).head?=some x/\∀i,i<j->m<=2^i->a<=2^i->Kc n S i=[]:=by
 have xI:∀k,ZT n S m a k=none->∀i,i<k->m<=2^i->a<=2^i->Kc n S i=[]:=by
  intro k
  induction k with
  | zero=>intro _ i hi;omega
  | succ k ih=>
   intro hn i hi d b;rw[ZT]at hn;split at hn
   ·cases hn
   ·rename_i hn';by_cases e:i=k
    ·subst e;rw[zB ⟨d,b⟩]at hn;simpa using hn
    ·exact ih hn' i O d b
 induction k with
 | zero=>simp[ZT]at h
 | succ k ih=>
  rw[ZT]at h;split at h
  ·rename_i y hy;cases h;obtain⟨j,d,b⟩:=ih hy;exact⟨j,O,b⟩
  ·rename_i hn;split at h
   ·rename_i hc;exact⟨k,O,hc.1,hc.2,h,xI k hn⟩
   ·cases h
theorem U3 {m a:Nat}:∀{k},ZT n S m a k=none->∀i,i<k->m<=2^i->a<=2^i->Kc n S i=[]
 | 0,_,i,hi,_,_=>by omega
 | k+1,hn,i,hi,h1,h2=>by
  rw[ZT]at hn;split at hn
  ·cases hn
  ·rename_i hn';by_cases e:i=k
   ·subst e;rw[zB ⟨h1,h2⟩]at hn;simpa using hn
   ·exact U3 hn' i O h1 h2
theorem lD (hb:Bounded S n){m a x:Nat}(h:Zu n S m a=some x):x+m<=n/\∀y,x<=y->y<x+m->S y=true:=by
 obtain⟨j,_,g,_,e,_⟩:=VY h;have b:x∈Kc n S j:=List.mem_of_head? e;obtain⟨q,rfl,d⟩:=(QT hb).1 b;have:=ZQ hb (ZM.1 d).1;exact⟨O,λy p i=>KV d (Qb.2 O)⟩
end Go.Bu
namespace Go.Ar
open Go Go.Vc Go.Proofs
open Go.Bu (Zf QK Zu iR)
variable {σ:Hp}{F H:Rg}{p hs:Nat}{A:AR}{sp:Sp}{Y:Lay}{T:Nat->Hp->Rg->Prop}
structure W2 (σ:Hp) (F H:Rg) (Y:Lay) (A:AR) (T:Nat->Hp->Rg->Prop) (sp:Sp):Prop where
 a:cX σ F Y A T
 s:dE σ H Y.hs sp
 d:∀b,F b->¬H b
 g:Gl σ
 o:iW F
 o2:iW H
def gF (F H:Rg):Rg:=λb=>F b\/H b
theorem W2.jY (h:W2 σ F H Y A T sp){σ':Hp}{A':AR}(e:Ext F σ σ')(ha:cX σ' F Y A' T):W2 σ' F H Y A' T sp:=
 ⟨ha,dR.bU dE.loc h.s e λb _ i a=>h.d b a i,h.d,h.g.bU e h.o,h.o,h.o2⟩
theorem W2.space (h:W2 σ F H Y A T sp){σ':Hp}{sp':Sp}(e:Ext H σ σ')(hs:dE σ' H Y.hs sp'):W2 σ' F H Y A T sp':=
 ⟨dR.bU cX.loc h.a e λb _ j i=>h.d b j i,hs,h.d,h.g.bU e h.o2,h.o,h.o2⟩
theorem W2.bK (h:W2 σ F H Y A T sp){σ':Hp}(e:bO σ σ'):W2 σ' F H Y A T sp:=⟨h.a.bK e,h.s.bK e,h.d,h.g.bK e,h.o,h.o2⟩
theorem W2.cut (h:W2 σ F H Y A T sp):W2 σ (Cut F σ) (Cut H σ) Y A T sp:=⟨h.a.cut,dR.cut dE.loc h.s,λb e i=>h.d b e.1 i.1,h.g,h.o.sub λb e=>e.1,h.o2.sub λb e=>e.1⟩
theorem W2.mY (h:W2 σ F H Y A T sp){σ':Hp}{A':AR}(e:Ext F σ σ')(ha:cX σ' (Grow F σ) Y A' T):W2 σ' (Grow F σ) (Cut H σ) Y A' T sp:=
 ⟨ha,dR.bU dE.loc (dR.cut dE.loc h.s) e λb _ a j=>h.d b j a.1,λb a i=>by
  rcases a with a|a
  ·exact h.d b a i.1
  ·have:=i.2;omega,h.g.bU e h.o,h.o.grow h.g,h.o2.sub λb a=>a.1⟩
theorem W2.xO (h:W2 σ F H Y A T sp){K:Option Addr->Prop}(hK:K (some ⟨Y.hs,0,none⟩)):fW (Addr.add ⟨Y.p,0,none⟩ 1) σ K:=h.a.hd.rP rfl hK
theorem FL (st:List Nat)(a m:Nat):UR st a (m+1)=jo (UR st a m) ((a+m:Nat):Int):=by
 unfold UR;rw[j7,zr,mN];rfl
theorem SV {a m:Int}(h:fC sp a m≠0):gC sp a m=sp:=by unfold gC;rw[zA h]
theorem Wbt {size:Nat}(h1:1<=size)(h:∀j,1<=j->j*size+size<=sp.st.length->fC sp ((j*size:Nat):Int) (size:Int)≠0):cY sp size=none:=by
 unfold cY;rw[n4];intro x hx;obtain⟨j,b,rfl⟩:=zC.1 hx;rw[zU]at b;have d:(j+1)*size<=sp.st.length:=zI (lN size b) (xN _ _);rw[zl,Nat.one_mul]at d;by_cases h0:j=0
 ·subst h0;simp
 ·have:=h j O d;have a:(fC sp ((j*size:Nat):Int) (size:Int)==0)=false:=by simpa only[m8]using this
  rw[a,sA];simp
theorem OS {size j:Nat}(h1:1<=size)(h0:1<=j)(hf:j*size+size<=sp.st.length)(hm:fC sp ((j*size:Nat):Int) (size:Int)=0)(h:∀i,1<=i->i<j->fC sp ((i*size:Nat):Int) (size:Int)≠0):cY sp size=some (j*size):=by
 unfold cY;have m:j<sp.st.length/size:=by
  rw[Nat.lt_iff_add_one_le,Nat.le_div_iff_mul_le h1,zl,Nat.one_mul];exact hf
 have a:List.range (sp.st.length/size)=List.range j++(j::(List.range (sp.st.length/size-j-1)).map (j+1 + ·)):=by
  apply zz;intro i;rw[List.getElem?_append,oK];by_cases d:i<j
  ·rw[zB d,nR O,nR d]
  ·rw[zA d];by_cases hij:i=j
   ·subst hij;rw[pA,ve,nR m]
   ·rw[show i-j=(i-j-1)+1 by omega,Ap,ze];by_cases hl:i<sp.st.length/size
    ·rw[nR hl,nR O];simp only[zf]
     congr 1;omega
    ·rw[zY (by rw[oK];omega),zY (by rw[oK];omega)];rfl
 rw[a,zr,List.find?_append];have b:((List.range j).map (· * size)).find? (λ(s:Nat)=>s != 0&&fC sp s size==0)=none:=by
  rw[n4];intro x hx;obtain⟨i,d,rfl⟩:=zC.1 hx;rw[zU]at d;by_cases h0:i=0
  ·subst h0;simp
  ·have:=h i O d;have e:(fC sp ((i*size:Nat):Int) (size:Int)==0)=false:=by simpa only[m8]using this
   rw[e,sA];simp
 rw[b,zJ,uZ];have:(j*size != 0&&fC sp ((j*size:Nat):Int) (size:Int)==0)=true:=by
  rw[hm];have p:0<j*size:=Nat.mul_pos O O;have g:j*size≠0:=by omega
  simp[g]
 rw[this];rfl
theorem N6 (h:W2 σ F H Y A T sp){size:Nat}(h1:size=16\/size=32\/size=64){R:aO}(h0:UT A sp size=none->∀σ',Ext (gF F H) σ σ'->W2 σ' F H Y A T sp->R false σ')
 (hR:∀A' sp',UT A sp size=some (A',sp')->∀σ',Ext (gF F H) σ σ'->W2 σ' F H Y A' T sp'->R true σ'):Y4.c (aW Y.p) (size:Int) σ R:=by
 refine Y4.o ?_;unfold Y4.v;have hn2:sp.st.length<=1024:=by obtain⟨q,r,l,B,hh⟩:=h.s;exact hh.n2
 have es:∀{a b:Hp},Ext H a b->Ext (gF F H) a b:=λe=>e.sub λb P=>.inr P;have ea:∀{a b:Hp},Ext F a b->Ext (gF F H) a b:=λe=>e.sub λb P=>.inl P;have d:∀j,j*size+size=(j+1)*size:=λj=>by rw[zl,Nat.one_mul]
 refine ZU (a:=bN) (λ(t:Int) v=>∃j:Nat,t=((j*size:Nat):Int)/\1<=j/\j*size<=1024+64/\Ext (gF F H) σ v/\W2 v F H Y A T sp/\∀i,1<=i->i<j->i*size+size<=sp.st.length->fC sp ((i*size:Nat):Int) (size:Int)≠0) (λt _=>2000-t.toNat)
  ⟨1,O,zD _,O,Ext.refl _ _,h,λi h1 h2=>O⟩ ?_
 rintro t v ⟨j,rfl,hj,P,e,z,x⟩;refine cA (m:=j*size+size) O O (aG (z.xO (Be z.s (cI (λhlt=>?_) λhge=>?_))))
 ·have hf:j*size+size<=sp.st.length:=by omega
  refine aG (z.xO (RM z.s z.g z.o2 _ _ λv2 Q E=>?_));refine cU (λX=>?_) λX=>?_
  ·have M:fC sp ((j*size:Nat):Int) (size:Int)≠0:=by simpa using X
   rw[SV M]at E;refine cA (m:=(j+1)*size) (by rw[←d];omega) (by rw[←d];omega) ⟨⟨j+1,rfl,O,by rw[←d];omega,e.trans (es Q),z.space Q E,λi y D K=>?_⟩,by rw[←d];omega⟩;by_cases hij:i=j
   ·subst hij;exact M
   ·exact x i y O K
  ·have W:fC sp ((j*size:Nat):Int) (size:Int)=0:=by simpa using X
   have U:=z.space Q E;have N:∀i,i<j->i*size+size<=sp.st.length:=λi hi=>by
    have:(i+1)*size<=j*size:=lN _ hi;rw[d];omega
   have G:=OS (sp:=sp) O hj hf W λi y D=>x i y D (N i D);have C:UT A sp size=some ({A with st:=UR A.st (j*size/16) (size/16),S:=QK A.n A.S ((j*size:Nat):Int) size},gC sp ((j*size:Nat):Int) size):=by unfold UT;rw[G]
   have aa:(j*size)%16=0:=by
    rcases h1 with rfl|rfl|rfl
    ·omega
    ·omega
    ·omega
   refine nz aB (cA (m:=j*size/16) (by rw[YK O];simp) O ?_);refine ZU (a:=bN) (λ(t:Int) w=>∃i:Nat,t=((j*size/16+i:Nat):Int)/\i<=size/16/\Ext (gF F H) σ w/\W2 w F H Y {A with st:=UR A.st (j*size/16) i} T (gC sp ((j*size:Nat):Int) size)) (λt _=>200-t.toNat)
    ⟨0,O,O,e.trans (es Q),U⟩ ?_
   rintro t w ⟨i,rfl,hi,ew,u⟩;refine cA (m:=j*size+size) O O (nz aB (cA (m:=(j*size+size)/16) (by rw[YK O];simp) O (cI (λhlt2=>?_) λZ=>?_)))
   ·refine aG (u.a.hd.rP rfl (u.a.CB _ λw2 t2 L J=>?_));refine cA (m:=j*size/16+(i+1)) O O ⟨⟨i+1,rfl,O,ew.trans (ea L),?_⟩,O⟩;rw[FL];exact u.jY L J
   ·have V:i=size/16:=by omega
    subst V;refine aG (u.a.hd.rP rfl (u.a.vN _ _ λw2 t2 L J=>?_));exact hR _ _ C w2 (ew.trans (ea L)) (u.jY L J)
 ·have G:=Wbt (sp:=sp) (size:=size) O λi y K=>by
   by_cases hij:i<j
   ·exact x i y hij K
   ·have:j*size<=i*size:=lN _ O;omega
  have C:UT A sp size=none:=by unfold UT;rw[G]
  exact h0 C v e z
theorem Ti {m a:Nat}(h1:1<=m)(h2:m<=64)(ha:a=1\/a=2\/a=4\/a=8\/a=16):Go.Bu.fP (m:Int) (a:Int)=true:=by
 have b:Go.Bu.gE (a:Int)=true:=by rcases ha with rfl|rfl|rfl|rfl|rfl<;>decide
 unfold Go.Bu.fP;rw[b];simp only[uq,zF,zT];omega
theorem W2.take (h:W2 σ F H Y A T sp){m a:Nat}(hok:Go.Bu.fP (m:Int) (a:Int)=true){R:Int->Int->Hp->Prop}(h0:Zu A.n A.S m a=none->∀σ',Ext F σ σ'->W2 σ' F H Y A T sp->R 0 6 σ')
 (h1:∀x,Zu A.n A.S m a=some x->x+m<=A.n->∀σ',Ext F σ σ'->W2 σ' F H Y {A with S:=Go.Bu.take A.S x (x+m)} T sp->R (x:Int) 0 σ'):XY.c (aW Y.fr) (m:Int) (a:Int) σ R:=by
 have b:Go.Bu.Bounded A.S A.n:=by obtain⟨u,s,r,_⟩:=h.a.free;exact r.jC
 refine h.a.xd _ _ λσ' e p=>?_;have d:=h.jY e p;cases ht:Zu A.n A.S m a with
 | none=>
  have j:Go.Bu.jt A.n A.S (m:Int) (a:Int)=6:=by unfold Go.Bu.jt;rw[hok,zB rfl];simp only[dC];rw[ht]
  have g:Go.Bu.ju A.n A.S (m:Int) (a:Int)=0:=by unfold Go.Bu.ju;rw[hok,zB rfl];simp only[dC];rw[ht]
  have i:Go.Bu.jz A.n A.S (m:Int) (a:Int)=A.S:=by unfold Go.Bu.jz;rw[hok,zB rfl];simp only[dC];rw[ht]
  rw[j,g];rw[i]at d;exact h0 ht σ' e d
 | some x=>
  have j:Go.Bu.jt A.n A.S (m:Int) (a:Int)=0:=by unfold Go.Bu.jt;rw[hok,zB rfl];simp only[dC];rw[ht]
  have g:Go.Bu.ju A.n A.S (m:Int) (a:Int)=x:=by unfold Go.Bu.ju;rw[hok,zB rfl];simp only[dC];rw[ht]
  have i:Go.Bu.jz A.n A.S (m:Int) (a:Int)=Go.Bu.take A.S x (x+m):=by unfold Go.Bu.jz;rw[hok,zB rfl];simp only[dC];rw[ht]
  rw[j,g];rw[i]at d;exact h1 x ht (Go.Bu.lD b ht).1 σ' e d
theorem Oc {size:Nat}{A':AR}{sp':Sp}(h:UT A sp size=some (A',sp')):A'.n=A.n:=by
 unfold UT at h;split at h
 ·cases h
 ·cases h;rfl
def Fits (σ:Hp)(F H F' H':Rg):Prop:=(∀b,F' b->Grow F σ b)/\∀b,H' b->H b
theorem Iz (h:W2 σ F H Y A T sp){m a no:Nat}(h1:1<=m)(h2:m<=64)(ha:a=1\/a=2\/a=4\/a=8\/a=16)(hn1:1<=no)(hn2:no<=1000){R:Int->Int->Hp->Prop}
 (h0:(cZ A sp m a no).1=none->∀σ',Ext (gF F H) σ σ'->W2 σ' F H Y (cZ A sp m a no).2.1 T (cZ A sp m a no).2.2->R 0 6 σ')
 (hR:∀x,(cZ A sp m a no).1=some x->x+m<=A.n->∀σ' F' H',Fits σ F H F' H'->Ext (gF F H) σ σ'->W2 σ' F' H' Y (cZ A sp m a no).2.1 T (cZ A sp m a no).2.2->R (x:Int) 0 σ') :
 YR.c (aW Y.p) (m:Int) (a:Int) (no:Int) σ R:=by
 refine YR.o ?_;unfold YR.v;have J:=Ti h1 h2 ha;have es:∀{a b:Hp},Ext H a b->Ext (gF F H) a b:=λe=>e.sub λb j=>.inr j;have r:∀{a b:Hp},Ext F a b->Ext (gF F H) a b:=λe=>e.sub λb j=>.inl j;have fin:∀(v:Hp) (x:Nat) (A1:AR) (sp1:Sp),Ext (gF F H) σ v->x+m<=A.n->W2 v F H Y {A1 with S:=Go.Bu.take A1.S x (x+m)} T sp1->cZ A sp m a no=(some x,dV A1 x m no,sp1) →
  bS (some ⟨Y.p,0,none⟩) λZ=>fW (Z.add 3) v λP=>XN.c P (x:Int) (m:Int) v λt55 s=>bS (some ⟨Y.p,0,none⟩) λaa=>fW (aa.add 4) s λV=>Yc.c V (x:Int) (m:Int) (no:Int) s λt63 v3=>R (x:Int) 0 v3:=by
  intro v x A1 sp1 e hxm E y;have N:x<=1000000:=by have:=h.a.lay.n2;omega
  refine aG (E.a.hd.rP rfl (E.a.Tq _ _ λs t2 B U=>?_));have g:=E.jY B U;refine aG (g.a.hd.rP rfl (g.a.Set x m N hn1 hn2 λv3 t3 e3 X=>?_));have Q:=g.mY e3 X;refine hR x (by rw[y]) hxm v3 (Grow F s) (Cut H s) ⟨λb j=>?_,λb j=>j.1⟩ ((e.trans (r B)).trans (r e3)) (by rw[y];exact Q);rcases j with j|j
  ·exact .inl j
  ·exact .inr (zI (e.trans (r B)).1 j)
 refine aG (h.a.hd.rP rfl (h.take J (λG v e E=>?_) λx G D v e E=>?_))
 ·refine Jn.intro (cJ rfl ?_);have L:(if(a:Int)>(m:Int)then(a:Int)else(m:Int))=((max m a:Nat):Int):=by
   by_cases hgt:(a:Int)>(m:Int)
   ·rw[zB hgt];omega
   ·rw[zA hgt];omega
  rw[L];refine ZU (a:=bN) (λ(t:Int) w=>w=v/\(t=16\/t=32/\16<max m a\/t=64/\32<max m a)) (λt _=>100-t.toNat) ⟨rfl,.inl rfl⟩ ?_;rintro(t:Int) w ⟨rfl,hcase⟩;have ha16:a<=16:=by omega
  refine cI (λhlt=>?_) λhge=>?_
  ·have:t=16\/t=32:=by omega
   rcases this with rfl|rfl
   ·exact ar O O ⟨⟨rfl,O⟩,by decide⟩
   ·exact ar O O ⟨⟨rfl,O⟩,by decide⟩
  ·have W:t=((Q4 (max m a):Nat):Int):=by
    unfold Q4;by_cases c1:max m a<=16
    ·rw[zB c1];omega
    ·rw[zA c1];by_cases c2:max m a<=32
     ·rw[zB c2];omega
     ·rw[zA c2];omega
   subst W;have M:Q4 (max m a)=16\/Q4 (max m a)=32\/Q4 (max m a)=64:=by omega
   refine N6 E M (λy σ' K u=>?_) λA' C y σ' K u=>?_
   ·have d:cZ A sp m a no=(none,A,sp):=by unfold cZ;rw[G];simp only;rw[y]
    exact cJ rfl (h0 (by rw[d]) σ' ((r e).trans K) (by rw[d];exact u))
   ·refine cG rfl (aG (u.a.hd.rP rfl (u.take J (λz s B g=>?_) λx z D s B g=>?_)))
    ·have d:cZ A sp m a no=(none,A',C):=by unfold cZ;rw[G];simp only;rw[y];simp only;rw[z]
     exact cJ rfl (h0 (by rw[d]) s (((r e).trans K).trans (r B)) (by rw[d];exact g))
    ·have d:cZ A sp m a no=(some x,dV A' x m no,C):=by unfold cZ;rw[G];simp only;rw[y];simp only;rw[z]
     exact cG rfl (fin s x A' C (((r e).trans K).trans (r B)) (by rw[←Oc y];exact D) g d)
 ·have d:cZ A sp m a no=(some x,dV A x m no,sp):=by unfold cZ;rw[G]
  refine Jn.intro (cG rfl (cG rfl (fin v x A sp (r e) D E d)))
theorem Fits.refl:Fits σ F H F H:=⟨λb a=>.inl a,λb a=>a⟩
theorem TF (h:W2 σ F H Y A T sp)(k:Int){R:aN}(hR:∀σ' F' H',Fits σ F H F' H'->Ext (gF F H) σ σ'->W2 σ' F' H' Y (cP A sp k).1 T (cP A sp k).2->R (KQ A sp k) σ') :
 Yk.c (aW Y.p) k σ R:=by
 refine Yk.o ?_;unfold Yk.v;refine Uk h.a k (λJ=>?_) λx hx U=>?_
 ·have e1:KQ A sp k=1:=by unfold KQ;rw[J];rfl
  have z:cP A sp k=(A,sp):=by unfold cP;rw[J];rfl
  have:=hR σ F H Fits.refl (Ext.refl _ _) (by rw[z];exact h);rw[e1]at this;exact cJ rfl this
 ·subst hx;have J:A.ck (x:Int)=true:=by unfold AR.ck;simp;omega
  obtain⟨c,M,q,t,r,K,B,Z,_,_,V⟩:=h.a.at_ U;have ht2:=h.a.lay.nP;obtain⟨_,_,_,N,hp4,_⟩:=V;refine cG rfl (aG (h.a.hd.rS rfl (h.a.xh (d:=1) K O ?_)));simp only[zA (show ¬(1=0) by omega),zS];refine cA (m:=x+1) O O ?_;have X:KQ A sp x=match (cZ A sp c.aF 1 (x+1)).1 with
   | some y=>GW c M y
   | none=>6:=by unfold KQ;rw[J,zB rfl];simp only[dC];rw[K,B];rfl
  have eS:cP A sp x=match cZ A sp c.aF 1 (x+1)with
   | (some y,A',u)=>(if GW c M y=0 then{A' with cC:=A'.cC.set x (iy c M y)}else A',u)
   | (none,A',u)=>(A',u):=by unfold cP;rw[J,zB rfl];simp only[dC];rw[K,B];rfl
  refine Iz (a:=1) h N O (.inl rfl) O O (λD σ' e w=>?_) λy D hyn σ' F' H' i e w=>?_
  ·have:=hR σ' F H Fits.refl e;rw[X,eS,D]at this;generalize cZ A sp c.aF 1 (x+1)=g at *;obtain⟨g1,g2,g3⟩:=g;simp only at D;subst D;exact cJ rfl (this w)
  ·have C:(cZ A sp c.aF 1 (x+1)).2.1.tb=A.tb/\(cZ A sp c.aF 1 (x+1)).2.1.cC=A.cC:=by
    unfold cZ;split
    ·exact⟨rfl,rfl⟩
    ·split
     ·exact⟨rfl,rfl⟩
     ·rename_i A1 sp1 hga;have:A1.tb=A.tb/\A1.cC=A.cC:=by
       unfold UT at hga;split at hga
       ·cases hga
       ·cases hga;exact⟨rfl,rfl⟩
      split
      ·exact this
      ·exact this
   have s:=λσ' F' H'=>hR σ' F' H';rw[X,eS]at s;generalize cZ A sp c.aF 1 (x+1)=g at *;obtain⟨g1,A',u⟩:=g;simp only at D w C s;subst D;simp only at s;have hWc:=w;obtain⟨G,Q,⟨ps,hC⟩,_,E⟩:=w.a.qV Z (by rw[C.1];exact K) (by rw[C.2];exact B);have hn2:=h.a.lay.n2;refine cG rfl (aG (w.a.hd.rS rfl (w.a.kg Z (Sv hC O (λh9 v z=>?_) λW v ps' z L=>?_))))
   ·have:=s v F' H' i (e.lx z) (by rw[h9];exact w.bK z);rw[h9]at this;exact this
   ·have P:=E v _ _ (Grow G σ') _ z (λb j=>j) L (Hb Q λb j=>j);have S:=w.mY (z.sub Q) P;have:=s v (Grow F' σ') (Cut H' σ') ⟨λb j=>?_,λb j=>i.2 b j.1⟩ (e.fF (z.sub Q) λb j=>?_) (by rw[W];exact S)
    ·rw[W]at this;exact this
    ·rcases j with j|j
     ·exact i.1 b j
     ·exact .inr (zI e.1 j)
    ·rcases i.1 b j with h1|h1
     ·exact .inl (.inl h1)
     ·exact .inr h1
theorem Gz (A:AR)(sp:Sp)(m a no:Nat):(cZ A sp m a no).2.1.tb=A.tb/\(cZ A sp m a no).2.1.cC=A.cC/\(cZ A sp m a no).2.1.cE=A.cE/\(cZ A sp m a no).2.1.room=A.room/\(cZ A sp m a no).2.1.runs=A.runs/\(cZ A sp m a no).2.1.n=A.n:=by
 unfold cZ;split
 ·exact⟨rfl,rfl,rfl,rfl,rfl,rfl⟩
 ·split
  ·exact⟨rfl,rfl,rfl,rfl,rfl,rfl⟩
  ·rename_i A1 sp1 hga;have:A1.tb=A.tb/\A1.cC=A.cC/\A1.cE=A.cE/\A1.room=A.room/\A1.runs=A.runs/\A1.n=A.n:=by
    unfold UT at hga;split at hga
    ·cases hga
    ·cases hga;exact⟨rfl,rfl,rfl,rfl,rfl,rfl⟩
   split
   ·exact this
   ·exact this
theorem RK:∀a:Nat,a<17->1<=a->((bits .and .i64 (a:Int) ((a:Int)-1) != 0) = !(a==1||(a==2||(a==4||(a==8||a==16))))):=by decide
theorem Ζ (h:W2 σ F H Y A T sp)(m a:Int){R:Int->Int->Hp->Prop}(hR:∀σ' F' H',Fits σ F H F' H'->Ext (gF F H) σ σ'->W2 σ' F' H' Y (cD A sp m a).1 T (cD A sp m a).2->R ((Z5 A sp m a:Nat):Int) (Qz A sp m a) σ') :
 WT.c (aW Y.p) m a σ R:=by
 refine WT.o ?_;unfold WT.v;have G:Kl m a=false->R 0 1 σ:=λu=>by
  have e1:Qz A sp m a=1:=by unfold Qz;rw[u];rfl
  have E:cD A sp m a=(A,sp):=by unfold cD;rw[u];rfl
  have Z:Z5 A sp m a=0:=by unfold Z5;rw[u];rfl
  have:=hR σ F H Fits.refl (Ext.refl _ _) (by rw[E];exact h);rw[e1,Z]at this;exact this
 have d:¬(1<=m/\m<=64/\(a=1\/a=2\/a=4\/a=8\/a=16))->R 0 1 σ:=λhn=>G (by
  rw[←rm];intro hp;unfold Kl at hp;simp at hp;omega)
 refine KU h.a (cG rfl (bY.intro (cI (λc1=>bY.intro (cJ rfl (bY.intro (cJ rfl (bY.intro (cJ rfl (cJ rfl (d O)))))))) λc1=>?_)));refine bY.intro (cI (λW=>bY.intro (cJ rfl (bY.intro (cJ rfl (cJ rfl (d O)))))) λW=>?_);refine bY.intro (cI (λc3=>bY.intro (cJ rfl (cJ rfl (d O)))) λc3=>?_);refine bY.intro (cI (λc4=>cJ rfl (d O)) λc4=>ar O O ?_);obtain⟨y,rfl⟩:=zk (show 0<=m by omega);obtain⟨z,rfl⟩:=zk (show 0<=a by omega);rw[RK z O O];refine cU (λM=>?_) λM=>?_
 ·refine d (λhh=>?_);simp at M;omega
 ·have hz:z=1\/z=2\/z=4\/z=8\/z=16:=by
   simp at M;omega
  have u:Kl (y:Int) (z:Int)=true:=by
   unfold Kl;simp;omega
  have P:Qz A sp y z=if(cZ A sp y z 41).1.isSome then 0 else 6:=by unfold Qz;rw[u,zB rfl];rfl
  have S:Z5 A sp y z=(cZ A sp y z 41).1.getD 0:=by unfold Z5;rw[u,zB rfl];rfl
  have Q:cD A sp y z=match cZ A sp y z 41 with
   | (some x,A',j)=>({A' with runs:=cD.mset2 A'.runs x y},j)
   | (none,A',j)=>(A',j):=by unfold cD;rw[u,zB rfl];rfl
  refine Iz (no:=41) h O O hz O O (λB σ' e w=>?_) λx B X σ' F' H' s e w=>?_
  ·have:=hR σ' F H Fits.refl e;rw[P,Q,S,B]at this;generalize cZ A sp y z 41=g at *;obtain⟨g1,g2,g3⟩:=g;simp only at B;subst B;exact cJ rfl (this w)
  ·have r:=λσ' F' H'=>hR σ' F' H';rw[P,Q,S]at r;generalize cZ A sp y z 41=g at *;obtain⟨g1,A',j⟩:=g;simp only at B w r;subst B;simp only at r;obtain⟨gr,V,C⟩:=w.a.pG;refine cG rfl (aG (w.a.hd.rM rfl ⟨_,_,rfl,V,λv U N=>?_⟩));have D:dL v Y.rn .i64 bN (dF (iz A'.runs) (x:Int) (y:Int)):=N;rw[NH]at D;have K:=C v _ U D;have E:Ext F' σ' v:=U.ext.sub λb J=>by subst J;exact gr
   have L:=w.jY E K;exact r v F' H' s (e.fF E λb J=>by
    rcases s.1 b J with h1|h1
    ·exact .inl (.inl h1)
    ·exact .inr h1) L
theorem RP (h:W2 σ F H Y A T sp){R:aN}(hR:∀σ',Ext (gF F H) σ σ'->W2 σ' (Cut F σ) (Cut H σ) Y (eJ A sp).1 T (eJ A sp).2->R ((vu A:Nat):Int) σ') :
 Ys.c (aW Y.p) σ R:=by
 refine Ys.o ?_;unfold Ys.v;have es:∀{a b:Hp},Ext (Cut H σ) a b->Ext (gF F H) a b:=λe=>e.sub λb u=>.inr u.1;have X:∀{a b:Hp},Ext (Cut F σ) a b->Ext (gF F H) a b:=λe=>e.sub λb u=>.inl u.1;obtain⟨G,hG,q,hT,_⟩:=h.a.mR;refine KU h.a (cG rfl (aG (h.a.hd.rP rfl (SQ hT λs v1 e1 j=>?_))));have hn2:=h.a.lay.n2;have W:=h.a.lay.st;have z:=j.jO;have V:(Kf A.st 0).length<=64:=by
  unfold Kf;refine zI (nh _ _) ?_;rw[oK];omega
 have y:∀k∈Kf A.st 0,k<=64:=λk L=>by
  unfold Kf at L;have:=(zH.1 L).1;rw[zU]at this;omega
 have hsl:=aH.cut j.gp;refine ZU (a:=bN) (λ(t:Int) w=>∃i:Nat,t=(i:Int)/\i<=(Kf A.st 0).length/\Ext (gF F H) σ w/\W2 w (Cut F σ) (Cut H σ) Y (((Kf A.st 0).take i).foldl Vn (A,sp)).1 T (((Kf A.st 0).take i).foldl Vn (A,sp)).2/\cR s 1 (ints (Kf A.st 0)) w (λb=>σ.size<=b)) (λt _=>(Kf A.st 0).length-t.toNat)
  ⟨0,rfl,O,bO.to e1,h.cut.bK e1,j.gp⟩ ?_
 rintro t w ⟨i,rfl,hi,e,C,Z⟩;refine cI (λhlt=>?_) λhge=>?_
 ·have x:i<(Kf A.st 0).length:=by omega
  have U:(Kf A.st 0)[i]?=some (Kf A.st 0)[i]:=cM x;have N:(Kf A.st 0).take (i+1)=(Kf A.st 0).take i++[(Kf A.st 0)[i]]:=by rw[zg,U];rfl
  have L:=y _ (zc x);generalize (Kf A.st 0)[i]=k at *;refine Z.oH U (aG (C.a.hd.rP rfl (C.a.BP _ λw2 t2 P Q=>?_)));have r:=C.jY P Q;refine aG (r.a.hd.rP rfl (cA (m:=k*16) O O (r.a.q9 _ _ λw3 t3 D S=>?_)));have d:=r.jY D S;refine aG (d.xO (cA (m:=k*16) O O (Pq d.s d.g d.o2 _ _ λw4 M E=>?_)));have J:=d.space M E;have K:cR s 1 (ints (Kf A.st 0)) w4 (λb=>σ.size<=b):=aH.bU (aH.bU (aH.bU Z P λb _ u B=>by have:=B.2;omega) D λb _ u B=>by have:=B.2;omega) M λb _ u B=>by have:=B.2;omega
  refine cA (m:=i+1) O O ⟨⟨i+1,rfl,O,((e.trans (X P)).trans (X D)).trans (es M),?_,K⟩,O⟩;rw[N,mN];exact J
 ·have:i=(Kf A.st 0).length:=by omega
  subst this;rw[zn]at C;rw[z];exact hR w e C
end Go.Ar
namespace Go.Proofs
open Go.Vc
set_option maxRecDepth 100000
def WM.wM:Hn:=.seq (.o 1) (.seq (.o 1) (.block (.loop [(1,.one bN),(2,.one bN),(3,.one bN),(10,.one .b),(11,.one .b)] (.block (.seq (.o 4) (.seq (.seq (.o 2) (.cond (.seq (.o 5) (.leaf)) (.leaf))) .leaf))))))
def WM.FG (data:Sl)(a:Int)(b:Int)(limit:Int)(cmp:Fv)(σ:Hp)(R:aP):Prop:=
 W7 [bN,bN,bN,.b,.b] (λI=>I a b limit true true σ) λJ (a1:Int) (b1:Int) (limit1:Int) (wasBalanced:Bool) (wasPartitioned:Bool) v=>
 Ar .i64 (b1-a1) λlength=>
 If (decide (length<=12)) (Wr.c data a1 b1 cmp v λv1=>
  R v1)
  False
theorem WM.sX {data:Sl}{a:Int}{b:Int}{limit:Int}{cmp:Fv}{σ:Hp}{R:aP}(hv:WM.FG data a b limit cmp σ R):WM.c data a b limit cmp σ R:=
 Wa Tryz.func267 (x:=WM.wM) (args:=[.slice data.a data.len data.cap,.int .i64 a,.int .i64 b,.int .i64 limit,.func (.func cmp.f) cmp.first cmp.captured]) (rs:=[]) (R:=R) (R0 hv)
end Go.Proofs
namespace Go.Ar
open Go Go.Vc Go.Proofs
variable {σ:Hp}{Q:Rg}{key:Nat->Nat}
def jx (key:Nat->Nat)(l:List Nat)(h:Nat):List Nat:=l.takeWhile (λg=>decide (key g<key h))++h::l.dropWhile (λg=>decide (key g<key h))
def UP (key:Nat->Nat)(l:List Nat):List Nat:=l.foldl (jx key) []
theorem DU (l:List Nat)(h:Nat):(jx key l h).Perm (h::l):=by
 unfold jx;refine List.perm_middle.trans ?_;rw[Ck]
theorem OZ {l:List Nat}{h:Nat}(hs:l.Pairwise (λa b=>key a<key b))(hne:∀g∈l,key g≠key h):(jx key l h).Pairwise (λa b=>key a<key b):=by
 induction l with
 | nil=>simp[jx]
 | cons g l ih=>
  rw[mM]at hs;unfold jx;by_cases hg:key g<key h
  ·rw[List.takeWhile_cons_of_pos (by simpa using hg),List.dropWhile_cons_of_pos (by simpa using hg),lQ,mM];refine⟨λb d=>?_,ih hs.2 λx i=>hne x (kM _ i)⟩;have:=(DU l h).mem_iff.1 d;rcases zQ.1 this with h1|h1
   ·subst h1;exact hg
   ·exact hs.1 b h1
  ·have e:key h<key g:=by have:=hne g (lf);omega
   rw[CA (by simpa using hg),List.dropWhile_cons_of_neg (by simpa using hg),pU,mM];refine⟨λb d=>?_,mM.2 hs⟩;rcases zQ.1 d with h1|h1
   ·subst h1;exact e
   ·have:=hs.1 b h1;omega
theorem Ic {s:List Nat}{h j:Nat}(hs:s.Pairwise (λa b=>key a<key b))(hj:j<=s.length)(h1:∀g∈s.drop j,key h<key g)(h2:∀g,j≠0->s[j-1]?=some g->key g<key h):jx key s h=s.take j++h::s.drop j:=by
 have x:∀g∈s.take j,key g<key h:=by
  intro g hg;obtain⟨i,p⟩:=zN hg;have u:=(cQ.1 p).1;rw[zO]at u;rw[zX,zB O]at p;have r:s[j-1]?=some (s[j-1]' O):=cM _;have m:=h2 _ O r;by_cases hij:i=j-1
  ·subst hij;rw[r]at p;cases p;exact m
  ·have:=kj.1 hs i (j-1) O O O;have w:s[i]' O=g:=by
    have:=cM (l:=s) (i:=i) O;rw[this]at p;exact Option.some.inj p
   rw[w]at this;omega
 have e:jx key (s.take j++s.drop j) h=s.take j++h::s.drop j:=by
  unfold jx;rw[List.takeWhile_append_of_pos (by intro g hg;simpa using x g hg),List.dropWhile_append_of_pos (by intro g hg;simpa using x g hg)];cases hd:s.drop j with
  | nil=>simp
  | cons g d=>
   have:=h1 g (by rw[hd];exact lf);rw[CA aE,List.dropWhile_cons_of_neg aE,j8]
 rw[mZ]at e;exact e
theorem Kq (l:List Nat):(UP key l).Perm l:=by
 have:∀(m acc:List Nat),(m.foldl (jx key) acc).Perm (m++acc):=by
  intro m
  induction m with
  | nil=>intro acc;exact List.Perm.refl _
  | cons h m ih=>
   intro acc;rw[lg];refine(ih _).trans ?_;refine((DU acc h).append_left m).trans ?_;exact List.perm_middle
 have:=this l []
 rwa [j8]at this
theorem FA (l:List Nat){i h:Nat}(hh:l[i]?=some h):UP key (l.take (i+1))=jx key (UP key (l.take i)) h:=by
 unfold UP;rw[zg,hh,tf,mN];rfl
theorem GH {l:List Nat}(hn:l.Pairwise (λa b=>key a≠key b)):∀i,(UP key (l.take i)).Pairwise (λa b=>key a<key b)
 | 0=>by simp[UP]
 | i+1=>by
  have ih:=GH hn i;cases hh:l[i]? with
  | none=>
   have:l.take (i+1)=l.take i:=by rw[zg,hh];simp
   rw[this];exact ih
  | some h=>
   rw[FA l hh];refine OZ ih λg m=>?_;have:=(Kq (l.take i)).mem_iff.1 m;obtain⟨a,d⟩:=zN this;have e:=(cQ.1 d).1;rw[zO]at e;rw[zX,zB O]at d;have j:=(cQ.1 hh).1;have:=kj.1 hn a i O j O;rw[(cQ.1 d).2,(cQ.1 hh).2]at this;exact this
theorem RV (l:List Nat)(i x:Nat):(ints l).set i (.int .i64 (x:Int))=ints (l.set i x):=by simp[ints,ue]
theorem _root_.Go.Vc.bR.Aq {s:Sl}{l:List Nat}(h:bR s 1 (ints l) σ Q){i x:Nat}(hx:l[i]?=some x){K:Int->Prop}(hK:K (x:Int)):Ix s.a s.len (i:Int) 1 λa=>gP (· = σ) bN a K:=by
 have j:=(cQ.1 hx).1;obtain⟨b,o,e,g⟩:=h.gp.cell (JF hx);have p:=h.jO;rw[e];refine ix O O ?_;refine⟨(x:Int),λm d=>?_,hK⟩;rw[d,add_lit,show o+(i:Int).toNat*1=o+i by omega];exact g
theorem _root_.Go.Vc.bR.wC {s:Sl}{l:List Nat}(h:bR s 1 (ints l) σ Q){i x:Nat}(hi:i<l.length){K:aP}(hK:∀σ',Ext Q σ σ'->bR s 1 (ints (l.set i x)) σ' Q->K σ'):Ix s.a s.len (i:Int) 1 λa=>dG a (.int .i64 (x:Int)) σ K:=by
 have m:=h.jO;rcases h.2 with⟨h0,_⟩|⟨b,cs,hq,ha,hb,hle,hcl,ht⟩
 ·omega
 rw[ha];refine ix O O ?_;refine h.st (j:=i) (by rw[QH];exact hi) (λp d=>?_) λσ' e g=>hK σ' e (by rw[←RV];exact g);rw[ha]at d;cases d;rw[add_lit];congr 1;omega
def tL (f:Fv)(key:Nat->Nat)(l:List Nat)(Q:Rg)(σ:Hp):Prop:=∀x∈l,∀y∈l,∀(σ':Hp) (R:aN),Ext Q σ σ'->(∀(d:Int) σ'',bO σ' σ''->(d<0↔key x<key y)->R d σ'') →
 VN Tryz.prog f [.int .i64 (x:Int),.int .i64 (y:Int)] [.one bN] σ' R
theorem Mx (P D:List Nat)(g h:Nat):((P++g::h::D).set (P.length+1) g).set P.length h=P++h::g::D:=by
 rw[xX _ _ O,show P.length+1-P.length=1 by omega,xX _ _ (zD _),pA];rfl
set_option maxRecDepth 4000 in
theorem Mt {s:Sl}{l:List Nat}{f:Fv}(h:bR s 1 (ints l) σ Q)(hl:l.length<=1000)(hn:l.Pairwise (λa b=>key a≠key b))(hc:tL f key l Q σ){R:aP}
 (hR:∀σ',Ext Q σ σ'->bR s 1 (ints (UP key l)) σ' Q->R σ'):Wr.c s 0 (l.length:Int) f σ R:=by
 refine Wr.o ?_;unfold Wr.v;rcases wk l.length with h0|hpos
 ·have V:l=[]:=yX.1 h0;subst V;refine ar O O (ZU (a:=bN) (λ(t:Int) v=>t=1/\v=σ) (λ_ _=>0) ⟨rfl,rfl⟩ ?_);rintro t v ⟨rfl,rfl⟩;refine fG aA (hR v (Ext.refl _ _) h)
 refine cA (m:=1) O O (ZU (a:=bN) (λ(t:Int) v=>∃i:Nat,t=(i:Int)/\1<=i/\i<=l.length/\Ext Q σ v/\bR s 1 (ints (UP key (l.take i)++l.drop i)) v Q) (λt _=>l.length-t.toNat) ⟨1,rfl,zD _,hpos,Ext.refl _ _,?_⟩ ?_)
 ·have:UP key (l.take 1)=l.take 1:=by
   cases l with
   | nil=>rfl
   | cons x l=>rfl
  rw[this,mZ];exact h
 rintro t v ⟨i,rfl,hi1,hi,e,S⟩;refine cI (λhlt=>?_) λhge=>?_
 ·have u:i<l.length:=by omega
  have hx:l[i]?=some l[i]:=cM u;have B:l.drop i=l[i]::l.drop (i+1):=qw u;have W:=zc u;rw[B]at S;generalize l[i]=x at *;have hsl:(UP key (l.take i)).length=i:=by rw[(Kq _).length_eq,zO];omega
  have G:=GH hn i;have hsm:∀g∈UP key (l.take i),g∈l/\key g≠key x:=by
   intro g C;have:=(Kq (l.take i)).mem_iff.1 C;refine⟨mK this,?_⟩;obtain⟨a,Z⟩:=zN this;have aa:=(cQ.1 Z).1;rw[zO]at aa;rw[zX,zB O]at Z;have:=kj.1 hn a i O u O;rw[(cQ.1 Z).2,(cQ.1 hx).2]at this;exact this
  have N:=FA (key:=key) l hx;generalize UP key (l.take i)=S0 at *;refine ZU (a:=bN) (λ(t:Int) w=>∃j:Nat,t=(j:Int)/\j<=i/\Ext Q σ w/\bR s 1 (ints (S0.take j++x::(S0.drop j++l.drop (i+1)))) w Q/\∀g∈S0.drop j,key x<key g) (λt _=>t.toNat)
   ⟨i,rfl,zD _,e,?_,λg C=>by rw[AA O]at C;simp at C⟩ ?_
  ·rw[mV O,AA O,pU];exact S
  rintro t w ⟨j,rfl,hj,ew,p,E⟩;have fin:(∀g,j≠0->S0[j-1]?=some g->key g<key x)->Ar .i64 ((i:Int)+1) λi2=>(∃i':Nat,i2=(i':Int)/\1<=i'/\i'<=l.length/\Ext Q σ w/\bR s 1 (ints (UP key (l.take i')++l.drop i')) w Q)/\l.length-i2.toNat<l.length-(i:Int).toNat:=by
   intro h2;refine cA (m:=i+1) O O ⟨⟨i+1,rfl,O,O,ew,?_⟩,O⟩;rw[N,Ic G O E h2,km,lQ];exact p
  refine Jn.intro ⟨(· = w),rfl,cI (λc1=>?_) λc1=>cG rfl (fin λg hj0=>O)⟩;have A:j-1<S0.length:=by omega
  have C:S0[j-1]?=some S0[j-1]:=cM A;have X:S0.take j=S0.take (j-1)++[S0[j-1]]:=by
   have:=zg (l:=S0) (i:=j-1);rw[show j-1+1=j by omega,C]at this;exact this
  have oT:S0.drop (j-1)=S0[j-1]::S0.drop j:=by
   have:=qw (l:=S0) A;rw[show j-1+1=j by omega]at this;exact this
  have K:=hsm _ (zc A);generalize S0[j-1]=g at *;have y:S0.take j++x::(S0.drop j++l.drop (i+1))=S0.take (j-1)++g::x::(S0.drop j++l.drop (i+1)):=by rw[X];simp
  have D:(S0.take (j-1)).length=j-1:=by rw[zO];omega
  rw[y]at p;have F:(S0.take (j-1)++g::x::(S0.drop j++l.drop (i+1)))[j]?=some x:=by
   rw[zo O,D,show j-(j-1)=1 by omega];rfl
  have L:(S0.take (j-1)++g::x::(S0.drop j++l.drop (i+1)))[j-1]?=some g:=by
   rw[zo O,D,pA];rfl
  refine p.Aq F (cA (m:=j-1) O O (p.Aq L (hc x W g K.1 w _ ew λd w2 e2 hd=>?_)));have r:=aI.bK p e2;have P:=ew.trans (bO.to e2);by_cases hlt2:key x<key g
  ·refine cJ (zW (hd.2 hlt2)) ⟨(· = w2),rfl,cA (m:=j-1) O O (cA (m:=j-1) O O (r.Aq L (r.Aq F ?_)))⟩;refine r.wC (i:=j) aE λw3 e3 U=>U.wC (i:=j-1) aE λw4 e4 H=>?_;have M:=Mx (S0.take (j-1)) (S0.drop j++l.drop (i+1)) g x;rw[D,show j-1+1=j by omega]at M;rw[M]at H;refine cA (m:=j-1) O O ⟨⟨j-1,rfl,O,(P.trans e3).trans e4,?_,λz J=>?_⟩,O⟩
   ·rw[oT];exact H
   ·rw[oT]at J;rcases zQ.1 J with h1|h1
    ·subst h1;exact hlt2
    ·exact E z h1
  ·refine cG (zh λhh=>hlt2 (hd.1 hh)) ?_;have Y:key g<key x:=by have:=K.2;omega
   refine cA (m:=i+1) O O ⟨⟨i+1,rfl,O,O,P,?_⟩,O⟩;rw[N,Ic G (j:=j) O E λz _ J=>by rw[C]at J;cases J;exact Y];rw[km,lQ,y];exact r
 ·have:i=l.length:=by omega
  subst this;rw[zn,List.drop_length,j8]at S;exact hR v e S
theorem ME {e:Int}{K:Int->Prop}(h0:0<=e)(h1:e<256)(hK:K e):Ar .u8 e K:=by
 have a:IntKind.u8.wrap e=e:=by
  unfold IntKind.wrap;simp[IntKind.bits,IntKind.signed];omega
 unfold Ar;rw[a];exact hK
set_option maxRecDepth 100000 in
theorem Wo1 {n:Nat}(hn:n<=12){R:aN}(hR:∀t,R t σ):ZS.c (n:Int) σ R:=by
 refine ZS.o ?_;unfold ZS.v;refine ZE.o ?_;unfold ZE.v;refine Jn.intro (fG O (Jn.intro (fG O (Jn.intro (fG O ?_)))));refine ME O O ?_;have a:n=0\/n=1\/n=2\/n=3\/n=4\/n=5\/n=6\/n=7\/n=8\/n=9\/n=10\/n=11\/n=12:=by omega
 rcases a with rfl|rfl|rfl|rfl|rfl|rfl|rfl|rfl|rfl|rfl|rfl|rfl|rfl<;>exact⟨_,O,rfl,hR _⟩
theorem R5 {s:Sl}{l:List Nat}{f:Fv}(h:bR s 1 (ints l) σ Q)(hl:l.length<=12)(hn:l.Pairwise (λa b=>key a≠key b))(hc:tL f key l Q σ){R:aP}
 (hR:∀σ',Ext Q σ σ'->bR s 1 (ints (UP key l)) σ' Q->R σ'):WN.c s f σ R:=by
 refine WN.o ?_;unfold WN.v;have g:=h.jO;rw[g];have j:IntKind.u64.wrap (l.length:Int)=(l.length:Int):=by
  unfold IntKind.wrap;simp[IntKind.bits,IntKind.signed];omega
 unfold Ar;rw[j];refine Wo1 hl λt=>WM.sX ?_;unfold WM.FG;refine JC (a:=bN) (bb:=bN) (c:=bN) (d:=.b) (e:=.b) (λ(x:Int) (y:Int) _ _ _ v=>x=0/\y=(l.length:Int)/\v=σ) (λ_ _ _ _ _ _=>0) ⟨rfl,rfl,rfl⟩ ?_;rintro x y z u w v ⟨rfl,rfl,rfl⟩;refine ar O O (lU O ?_);exact Mt h O hn hc hR
end Go.Ar
namespace Go.Ar
open Go Go.Vc Go.Proofs
variable {σ:Hp}{F:Rg}{p q:Nat}{st:List Nat}
def jq (st:List Nat)(h:Nat):Nat:=KP st h*100000+used st h*1000+(999-h)
def VA (st:List Nat):List Nat:=(List.range (st.length/16)).filter λh=>0<gA st (16*h) (16*h+16) 2
theorem Gk (st:List Nat)(h:Nat):used st h<=16:=by
 unfold used gA;refine zI vq ?_;rw[zO];omega
theorem yq (st:List Nat)(h:Nat):KP st h<=2:=by
 unfold KP;split
 ·omega
 ·split<;>omega
theorem LB {g h:Nat}(hg:g<=64)(hh:h<=64):yY st g h=decide (jq st g<jq st h):=by
 have b:=Gk st g;have a:=Gk st h;have d:=yq st g;have e:=yq st h;unfold yY jq;rw[nL];simp only[ot,zF,zT,zZ];omega
theorem Uy {α:Type}{P Q:α->Bool}:∀{l:List α},(∀x∈l,P x=Q x)->l.takeWhile P=l.takeWhile Q
 | [],_=>rfl
 | x::l,h=>by
  rw[xr,xr,h x lf,Uy λy hy=>h y (kM _ hy)]
theorem Ul {α:Type}{P Q:α->Bool}:∀{l:List α},(∀x∈l,P x=Q x)->l.dropWhile P=l.dropWhile Q
 | [],_=>rfl
 | x::l,h=>by
  rw[Bz,Bz,h x lf,Ul λy hy=>h y (kM _ hy)]
theorem VR (hl:st.length<=1024):∀h∈VA st,16*h+16<=st.length/\h<=64:=by
 intro h hh;unfold VA at hh;have:=(zH.1 hh).1;rw[zU]at this;omega
theorem Uo (hl:st.length<=1024):eO st=UP (jq st) (VA st):=by
 have key:∀(l acc:List Nat),(∀x∈l,x<=64)->(∀x∈acc,x<=64)->l.foldl (ng st) acc=l.foldl (jx (jq st)) acc:=by
  intro l
  induction l with
  | nil=>intro acc _ _;rfl
  | cons h l ih=>
   intro acc h1 h2;have b:=h1 h lf;have e:ng st acc h=jx (jq st) acc h:=by
    unfold ng jx;rw[Uy λg d=>LB (h2 g d) b,Ul λg d=>LB (h2 g d) b]
   rw[lg,lg,e];refine ih _ (λx a=>h1 x (kM _ a)) λx a=>?_;rcases zQ.1 ((DU acc h).mem_iff.1 a)with h3|h3
   ·rw[h3];exact b
   ·exact h2 x h3
 exact key _ [] (λx a=>(VR hl x a).2) aA
theorem T1 (hl:st.length<=1024):(VA st).Pairwise λa b=>jq st a≠jq st b:=by
 have e:(VA st).Pairwise (· ≠ ·):=List.Pairwise.sublist rO xf;refine List.Pairwise.imp_of_mem (λ{a b} g d i=>?_) e;have m:=(VR hl a g).2;have j:=(VR hl b d).2;have:=Gk st a;have:=Gk st b;unfold jq;omega
theorem D9:∀{n m p:Nat},n<=m->(∀j,j<n->st[p+j]?=some 2)->(n=m\/st[p+n]?≠some 2)->gg st p m=n
 | 0,m,p,_,_,he=>by
  unfold gg;rcases he with h|h
  ·rw[←h];simp
  ·cases m with
   | zero=>simp
   | succ m=>
    cases hd:st[p]? with
    | none=>
     have:=List.getElem?_eq_none_iff.1 hd;rw[AA this];simp
    | some x=>
     have b:=(cQ.1 hd).1;rw[qw b,sx,CA]
     ·rfl
     ·have d:=(cQ.1 hd).2;rw[d];intro h2;rw[zt,hd]at h;exact h (by simpa using h2)
 | n+1,m,p,hm,ha,he=>by
  have a:=ha 0 O;rw[zt]at a;have b:=(cQ.1 a).1;have d:=(cQ.1 a).2;have e:=D9 (n:=n) (m:=m-1) (p:=p+1) O (λj g=>by rw[show p+1+j=p+(j+1) by omega];exact ha _ O) (by
   rcases he with h|h
   ·left;omega
   ·right;rw[show p+1+n=p+(n+1) by omega];exact h)
  unfold gg at *;obtain⟨k,rfl⟩:∃k,m=k+1:=⟨m-1,O⟩;rw[qw b,sx,List.takeWhile_cons_of_pos (by rw[d];rfl),zP];rw[C9]at e;rw[e]
theorem LA (e:Nat):∀(f f' x:Nat),e-x<f->e-x<f'->QX st e f x=QX st e f' x:=by
 intro f
 induction f with
 | zero=>intro f' x h;omega
 | succ f ih=>
  intro f' x h1 h2;obtain⟨g,rfl⟩:∃g,f'=g+1:=⟨f'-1,O⟩;unfold QX;by_cases hc:e<=x
  ·rw[zB hc,zB hc]
  ·rw[zA hc,zA hc];split
   ·exact ih g _ O O
   ·rw[ih g (x+gg st x (e-x)+1) O O]
theorem Pb {want:Int}{x:Nat}(h:want<=(x:Int)):∀l,gM want x l=[]
 | []=>rfl
 | r::l=>by unfold gM;rw[zB h]
theorem RF {want:Int}{x:Nat}(h:¬want<=(x:Int))(r:Nat×Nat)(l:List (Nat×Nat)):gM want x (r::l)=r::gM want (x+r.2) l:=by
 show(if want<=(x:Int)then[]else r::gM want (x+r.2) l)=_
 rw[zA h]
theorem Sb {e x f:Nat}(hx:x<e)(hf:e-x<f):QX st e f x=if gg st x (e-x)=0 then QX st e f (x+1)else(x,gg st x (e-x))::QX st e f (x+gg st x (e-x)+1):=by
 obtain⟨g,rfl⟩:∃g,f=g+1:=⟨f-1,O⟩;rw[QX,zA O];split
 ·exact LA e _ _ _ O O
 ·rw[LA e g (g+1) _ O O]
theorem TH {e x f:Nat}(hx:e<=x):QX st e f x=[]:=by
 cases f with
 | zero=>rfl
 | succ f=>rw[QX,zB hx]
theorem Sq (h:gG σ p q st){n2:Nat}(hb:bX σ n2 [.pointer (some ⟨p,0,none⟩)]){Q:Rg}(hq:¬Q p/\¬Q q/\¬Q n2)(hl:st.length<=1024){l:List Nat}(hm:∀x∈l,16*x+16<=st.length) :
 tL ⟨233,#[],#[.pointer (some ⟨n2,0,none⟩)]⟩ (jq st) l Q σ:=by
 intro x hx y hy σ' R e hR;refine GF (all := #[.int .i64 (x:Int),.int .i64 (y:Int),.pointer (some ⟨n2,0,none⟩)]) (by kernel_rfl) aA ?_;show XM.c (x:Int) (y:Int) ⟨n2,0,none⟩ σ' R;refine XM.o ?_;unfold XM.v;have g:=h.bU e hq.1 hq.2.1;have i:=e.bZ hb hq.2.2;have d:=hm x hx;have a:=hm y hy;have C:=Gk st x;have B:=Gk st y;have F:=yq st x;have E:=yq st y;refine⟨(· = σ'),rfl,⟨_,λm hm=>by rw[hm,i.cell];rfl,⟨_,λm hm=>by rw[hm,i.cell];rfl,?_⟩⟩⟩;refine vC g d λD=>⟨rfl,vC g a λA=>⟨rfl,BU g d (BU g a (ar O O ?_))⟩⟩;refine cU (λj=>?_) λj=>?_
 ·have r:((KP st x:Nat):Int)-((KP st y:Nat):Int)≠0:=by simpa using j
  refine hR _ σ' (Ext.refl _ _) ?_;unfold jq;omega
 ·have z:((KP st x:Nat):Int)-((KP st y:Nat):Int)=0:=by simpa using j
  refine g.iR (v:=1) d (g.iR (v:=1) a ?_);have s:gA st (16*x) (16*x+16) 1=used st x:=rfl;have u:gA st (16*y) (16*y+16) 1=used st y:=rfl;rw[s,u];refine ar O O (cU (λb=>?_) λb=>?_)
  ·have r:((used st x:Nat):Int)-((used st y:Nat):Int)≠0:=by simpa using b
   refine hR _ σ' (Ext.refl _ _) ?_;unfold jq;omega
  ·have w:((used st x:Nat):Int)-((used st y:Nat):Int)=0:=by simpa using b
   refine ar O O (hR _ σ' (Ext.refl _ _) ?_);unfold jq;omega
theorem OV (l:List (Nat×Nat))(r:Nat×Nat):rV (l++[r])=rV l++[.int .i64 (r.1:Int),.int .i64 (r.2:Int)]:=by simp[rV]
theorem VP (n:Nat)(P:Nat->Bool):(List.range (n+1)).filter P=(List.range n).filter P++(if P n then[n]else[]):=by
 rw[j7,uI]
 congr 1
 cases h:P n<;>simp[h]
set_option maxRecDepth 4000 in
theorem Rz (h:gG σ p q st)(want:Int)(h12:(VA st).length<=12){R:Sl->Int->Hp->Prop}(h0:want<0->∀σ',bO σ σ'->R ⟨none,0,0⟩ 1 σ')
 (h1:¬want<0->∀s σ',bO σ σ'->bR s 2 (rV (Hq st want)) σ' (λb=>σ.size<=b)->R s 0 σ'):Yv.c (aW p) want σ R:=by
 refine Yv.o ?_;unfold Yv.v;have n2:=h.n2;refine nw (cs:=[.pointer (some ⟨p,0,none⟩)]) λu hz e L=>L.vG rfl (He (h.bK e) (cG rfl (cI (λhw=>h0 hw u e) λhw=>?_)));have hu:=h.bK e;refine L.vG rfl (Dm hu ?_);refine Ko (a:=.s) (bb:=bN) (λ(A:Sl) (t:Int) v=>∃k:Nat,t=(k:Int)/\k<=st.length/16/\bO u v/\bR A 1 (ints ((List.range k).filter λh=>0<gA st (16*h) (16*h+16) 2)) v (λb=>u.size<=b)) (λ_ t _=>st.length/16-t.toNat)
  ⟨0,rfl,O,Ext.refl _ _,bR.nil _ _ _ _⟩ ?_
 rintro A t v ⟨k,rfl,hk,ev,C⟩;have hv:=hu.bK ev;have hbv:=ev.bZ L id;refine cI (λhlt=>?_) λhge=>?_
 ·have E:16*k+16<=st.length:=by omega
  have hlen:=C.jO;have hfl:((List.range k).filter λh=>0<gA st (16*h) (16*h+16) 2).length<=k:=zI (nh _ _) (by rw[oK];omega);refine hbv.vG rfl (vC hv E λc=>hv.iR (v:=2) E (cI (λhc=>?_) λhc=>?_))
  ·have P:0<gA st (16*k) (16*k+16) 2:=by omega
   refine C.push (vs:=[.int .i64 (k:Int)]) (λb L=>zI ev.1 L) rfl rfl (by simp[dN]) O O λs' v' hl' e' S=>?_;refine cA (m:=k+1) O O ⟨⟨k+1,rfl,O,Ext.fresh ev e' λi hi=>hi,?_⟩,O⟩;rw[VP,zB (by simpa using P),Vd];exact S
  ·refine cA (m:=k+1) O O ⟨⟨k+1,rfl,O,ev,?_⟩,O⟩;rw[VP,zA aE,j8];exact C
 have hkk:k=st.length/16:=by omega
 subst hkk;have hplt:=h.lt;have hcmp:=Sq hv hbv (Q:=λb=>u.size<=b) ⟨O,O,O⟩ n2 (l:=VA st) λx hx=>(VR n2 x hx).1;refine R5 C h12 (T1 n2) hcmp λw ew H=>?_;have H:bR A 1 (ints (UP (jq st) (VA st))) w (λb=>u.size<=b):=H;rw[←Uo n2]at H;have F:bO u w:=Ext.fresh ev ew λi hi=>hi;have hT:=hu.bK F;have hbw:=F.bZ L id;have hol:=H.jO;have hmem:∀x∈eO st,16*x+16<=st.length:=λx hx=>by
  rw[Uo n2]at hx;exact(VR n2 x ((Kq _).mem_iff.1 hx)).1
 have hlen12:(eO st).length<=12:=by rw[Uo n2,(Kq _).length_eq];exact h12
 have hslo:=aH.cut H.gp;refine ET (a:=.s) (bb:=bN) (c:=bN) (λ(out:Sl) (d:Int) (t:Int) v=>∃(k:Nat) (D:List (Nat×Nat)) (m:Nat),t=(k:Int)/\k<=(eO st).length/\d=(m:Int)/\m<=16*k/\D.length<=16*k/\bO w v/\bR out 2 (rV D) v (λb=>w.size<=b)/\D++gM want m (((eO st).drop k).flatMap (KM st))=Hq st want) (λ_ _ t _=>(eO st).length-t.toNat)
  ⟨0,[],0,rfl,O,rfl,O,by simp,Ext.refl _ _,bR.nil _ _ _ _,by simp[Hq]⟩ ?_
 rintro out d t v ⟨k,D,m,rfl,hk,rfl,hm,hD,J,U,K⟩;have hTv:=hT.bK J;have hbv2:=J.bZ hbw id;refine cI (λhlt=>?_) λhge=>?_
 ·have E:k<(eO st).length:=by omega
  have hx:(eO st)[k]?=some (eO st)[k]:=cM E;have hxm:=hmem _ (zc E);have oT:(eO st).drop k=(eO st)[k]::(eO st).drop (k+1):=qw E;rw[oT,mS]at K;generalize (eO st)[k]=x at *;have hsl2:=aH.bK hslo J;refine hsl2.oH hx ?_;refine ET (a:=.s) (bb:=bN) (c:=bN) (λ(out:Sl) (d:Int) (t:Int) z=>∃(i:Nat) (D:List (Nat×Nat)) (m:Nat),t=(i:Int)/\i<=17/\d=(m:Int)/\m<=16*k+i/\m<=16*k+16/\D.length<=16*k+i/\D.length<=16*k+16/\bO w z/\bR out 2 (rV D) z (λb=>w.size<=b)/\D++gM want m (QX st (16*x+16) 17 (16*x+i)++((eO st).drop (k+1)).flatMap (KM st))=Hq st want) (λ_ _ t _=>20-t.toNat)
   ⟨0,D,m,rfl,O,rfl,O,O,O,O,J,U,by simpa[KM]using K⟩ ?_
  rintro B g t2 z ⟨i,D2,m2,rfl,hi,rfl,hm1,hm2,hD1,hD2,X,G,r⟩;have hTz:=hT.bK X;have hbz:=X.bZ hbw id;have hlz:B.len=D2.length:=by have:=G.1;rw[yM]at this;omega
  refine cI (λhlt3=>?_) λhge3=>?_
  ·have hi':i<16:=by omega
   refine cI (λhdone=>?_) λhgo=>?_
   ·rw[Pb O,j8]at r;rw[r]at G;exact h1 hw B z ((Ext.trans e F).trans X) (aI.mono G λb _ L=>by have:=(Ext.trans e F).1;omega)
   ·refine ZU (a:=bN) (λ(t:Int) y=>y=z/\∃n:Nat,t=(n:Int)/\i+n<=16/\∀j,j<n->st[16*x+i+j]?=some 2) (λt _=>20-t.toNat) ⟨rfl,0,rfl,O,λj hj=>O⟩ ?_;rintro t3 y ⟨rfl,n,rfl,hn,N⟩;have M:(i+n=16\/st[16*x+i+n]?≠some 2)->If (decide ((n:Int)>0)) (Ar .i64 ((x:Int)*16) λt73=>Ar .i64 (t73+(i:Int)) λt75=>Nw (.cells #[.int .i64 t75,.int .i64 (n:Int)] 92 (0,0)) y λn78 v13=>
     App B 2 16 92 [.int .i64 0,.int .i64 0] ⟨some n78,1,1⟩ v13 λZ v14=>Ar .i64 ((m2:Int)+(n:Int)) λg=>Ar .i64 ((i:Int)+(n:Int)) λi1=>Ar .i64 (i1+1) λi2=>
     (∃(i:Nat) (D:List (Nat×Nat)) (m:Nat),i2=(i:Int)/\i<=17/\g=(m:Int)/\m<=16*k+i/\m<=16*k+16/\D.length<=16*k+i/\D.length<=16*k+16/\bO w v14/\bR Z 2 (rV D) v14 (λb=>w.size<=b)/\D++gM want m (QX st (16*x+16) 17 (16*x+i)++((eO st).drop (k+1)).flatMap (KM st))=Hq st want)/\20-i2.toNat<20-(i:Int).toNat)
     (Ar .i64 ((i:Int)+1) λi3=>(∃(i:Nat) (D:List (Nat×Nat)) (m:Nat),i3=(i:Int)/\i<=17/\(m2:Int)=(m:Int)/\m<=16*k+i/\m<=16*k+16/\D.length<=16*k+i/\D.length<=16*k+16/\bO w y/\bR B 2 (rV D) y (λb=>w.size<=b)/\D++gM want m (QX st (16*x+16) 17 (16*x+i)++((eO st).drop (k+1)).flatMap (KM st))=Hq st want)/\20-i3.toNat<20-(i:Int).toNat):=by
     intro hst;have hrl:gg st (16*x+i) (16*x+16-(16*x+i))=n:=D9 O N (by
      rcases hst with h|h
      ·left;omega
      ·right;exact h)
     rw[Sb O O,hrl]at r;refine cI (λP=>?_) λhz0=>?_
     ·rw[zA O,lQ,RF O]at r;refine cA (m:=x*16) O O (cA (m:=16*x+i) O O ?_);refine G.push (vs:=[.int .i64 ((16*x+i:Nat):Int),.int .i64 (n:Int)]) (λb L=>zI X.1 L) rfl rfl (by simp[dN]) O O λs' v' hl' e' S=>?_;refine cA (m:=m2+n) O O (cA (m:=i+n) O O (cA (m:=i+n+1) O O ⟨⟨i+n+1,D2++[(16*x+i,n)],m2+n,rfl,O,rfl,O,O,by simp;omega,?_,Ext.fresh X e' λi hi=>hi,?_,?_⟩,O⟩))
      ·simp;have:D2.length<16*k+16:=by omega
       omega
      ·rw[OV];exact S
      ·rw[←r,km,show 16*x+(i+n+1)=16*x+i+n+1 by omega];rfl
     ·rw[zB O]at r;exact cA (m:=i+1) O O ⟨⟨i+1,D2,m2,rfl,O,rfl,O,O,O,O,X,G,r⟩,O⟩
    refine cA (m:=i+n) O O (bY.intro (cI (λhc4=>?_) λhc4=>cG rfl (M (.inl O))));refine hbz.vG rfl (vC hTz hxm λc=>cA (m:=i+n) O O ?_);have hidx:16*x+i+n<st.length:=by omega
    have W:st[16*x+i+n]?=some st[16*x+i+n]:=cM hidx;have V:=hTz.part (s:=⟨some ⟨q,16*x,none⟩,16,c⟩) (n:=16) rfl rfl hxm;refine V.oH (i:=i+n) (x:=st[16*x+i+n]) ?_ ?_
    ·rw[zX,zB O,zp,show 16*x+(i+n)=16*x+i+n by omega];exact W
    have e2:(((st[16*x+i+n]:Nat):Int)==2)=(st[16*x+i+n]==2):=j3 _ 2;rw[e2];refine cU (λY=>?_) λY=>?_
    ·have h2:st[16*x+i+n]=2:=by simpa using Y
     refine cA (m:=n+1) O O ⟨⟨rfl,n+1,rfl,O,λj hj=>?_⟩,O⟩;by_cases hjn:j=n
     ·subst hjn;rw[W,h2]
     ·exact N j O
    ·have h2:st[16*x+i+n]≠2:=by simpa using Y
     refine M (.inr ?_);rw[W];intro e5;exact h2 (Option.some.inj e5)
  ·rw[TH O,pU]at r;exact cA (m:=k+1) O O ⟨⟨k+1,D2,m2,rfl,O,rfl,O,O,X,G,r⟩,O⟩
 ·have:k=(eO st).length:=by omega
  subst this;rw[List.drop_length,List.flatMap_nil]at K;have:gM want m []=[]:=rfl;rw[this,j8]at K;rw[K]at U;exact h1 hw out v ((Ext.trans e F).trans J) (aI.mono U λb _ L=>by have:=(Ext.trans e F).1;omega)
end Go.Ar
namespace Go.Ar
open Go Go.Vc Go.Proofs
open Go.Bu (Zf QK Zu iR)
variable {σ:Hp}{F H:Rg}{p hs:Nat}{A:AR}{sp:Sp}{Y:Lay}{T:Nat->Hp->Rg->Prop}
theorem Jc {want:Int}:∀(x:Nat) (l:List (Nat×Nat)),(gM want x l).length<=l.length/\∀r∈gM want x l,r∈l
 | _,[]=>⟨zD _,λr h=>h⟩
 | x,r::l=>by
  have ih:=Jc (want:=want) (x+r.2) l;show(if want<=(x:Int)then[]else r::gM want (x+r.2) l).length<=_/\∀q∈(if want<=(x:Int)then[]else r::gM want (x+r.2) l),_
  split
  ·exact⟨Nat.zero_le _,λq h=>by simp at h⟩
  ·refine⟨by simp only[zP];omega,λq a=>?_⟩;rcases zQ.1 a with h|h
   ·subst h;exact lf
   ·exact kM _ (ih.2 q h)
theorem V4 {st:List Nat}{e:Nat}:∀(f x:Nat),(QX st e f x).length<=f/\∀r∈QX st e f x,r.1+r.2<=e
 | 0,x=>⟨zD _,λr h=>by simp[QX]at h⟩
 | f+1,x=>by
  have h1:=V4 (st:=st) (e:=e) f (x+1);have a:=V4 (st:=st) (e:=e) f (x+gg st x (e-x)+1);have d:gg st x (e-x)<=e-x:=by
   unfold gg;refine zI (List.takeWhile_sublist _).length_le ?_;rw[zO];omega
  unfold QX;split
  ·exact⟨Nat.zero_le _,λr h=>by simp at h⟩
  ·split
   ·exact⟨by have:=h1.1;omega,h1.2⟩
   ·refine⟨by simp only[zP];have:=a.1;omega,λr b=>?_⟩;rcases zQ.1 b with h|h
    ·subst h;simp only;omega
    ·exact a.2 r h
theorem MA {st:List Nat}(hl:st.length<=1024)(want:Int):(Hq st want).length<=2000/\∀r∈Hq st want,r.1+r.2<=st.length:=by
 have i:∀x∈eO st,16*x+16<=st.length:=λx a=>by
  rw[Uo hl]at a;exact(VR hl x ((Kq _).mem_iff.1 a)).1
 have m:(eO st).length<=64:=by
  rw[Uo hl,(Kq _).length_eq];refine zI (nh _ _) ?_;rw[oK];omega
 have b:∀l:List Nat,(l.flatMap (KM st)).length<=17*l.length:=by
  intro l
  induction l with
  | nil=>simp
  | cons x l ih=>
   rw[mS,zK,zP];have:=(V4 (st:=st) (e:=16*x+16) 17 (16*x)).1;have e:KM st x=QX st (16*x+16) 17 (16*x):=rfl;rw[e];omega
 have g:=Jc (want:=want) 0 ((eO st).flatMap (KM st));refine⟨?_,λr j=>?_⟩
 ·have:=b (eO st);have:=g.1;unfold Hq;omega
 ·have:=g.2 r j;rw[qX]at this;obtain⟨x,a,d⟩:=this;have s:=(V4 (st:=st) (e:=16*x+16) 17 (16*x)).2 r d;have p:=i x a;omega
def nQ (want:Int):Int:=if want<0 then 1 else 0
theorem TC (h:W2 σ F H Y A T sp)(want:Int)(h12:(VA (YI A).st).length<=12){R:Int->Int->Hp->Prop}(hR:∀σ' F' H',Fits σ F H F' H'->Ext (gF F H) σ σ'->W2 σ' F' H' Y (dT A sp want).1 T (dT A sp want).2->R ((kC A want:Nat):Int) (nQ want) σ') :
 Xl.c (aW Y.p) want σ R:=by
 refine Xl.o ?_;unfold Xl.v;refine KU h.a (cG rfl (cI (λG=>?_) λG=>aG (h.a.hd.rS rfl (LH h.a rfl λv e hA=>?_))))
 ·have e1:dT A sp want=(A,sp):=by unfold dT;rw[zB G]
  have e2:kC A want=0:=by unfold kC;rw[zB G]
  have e3:nQ want=1:=by unfold nQ;rw[zB G]
  have:=hR σ F H Fits.refl (Ext.refl _ _) (by rw[e1];exact h);rw[e2,e3]at this;exact this
 have e1:dT A sp want=(Hq (YI A).st want).foldl fE (YI A,sp):=by unfold dT;rw[zA G];rfl
 have e2:kC A want=((Hq (YI A).st want).map (·.2)).sum:=by unfold kC;rw[zA G];rfl
 have e3:nQ want=0:=by unfold nQ;rw[zA G]
 rw[e1,e2,e3]at hR;have hW:=h.mY e hA;have V:(YI A).st.length<=1024:=by have:=hA.lay.st;have:=hA.lay.n2;omega
 obtain⟨_,_,q,hT,_⟩:=hW.a.mR;refine aG (hW.a.hd.rP rfl (Rz hT want h12 (λac=>absurd ac G) λ_ s v1 C J=>?_));have d:=MA V want;generalize Hq (YI A).st want=P at *;have hlen:s.len=P.length:=by have:=J.1;rw[yM]at this;omega
 have N:=hW.cut.bK C;refine cG rfl (aG (N.a.hd.rP rfl (aG (N.xO ?_))));refine nw (cs:=[.func (.func 192) #[.pointer (some ⟨Y.tr,0,none⟩)] #[],.func (.func 193) #[.pointer (some ⟨Y.hs,0,none⟩)] #[]]) λv2 hz2 M hb2=>?_;have hW2:=N.bK M;have esz1:=C.1;have es:∀{a b:Hp},Ext (Cut (Cut H σ) v) a b->Ext (gF F H) a b:=λe=>e.sub λb d=>.inr d.1.1;have ea:∀{a b:Hp},Ext (Cut (Grow F σ) v) a b->Ext (gF (Grow F σ) H) a b:=λe=>e.sub λb d=>.inl d.1;have es':∀{a b:Hp},Ext (Cut (Cut H σ) v) a b->Ext (gF (Grow F σ) H) a b:=λe=>e.sub λb d=>.inr d.1.1;have nF:∀b,v.size<=b->¬Cut (Grow F σ) v b:=λb d hc=>by have:=hc.2;omega
 have nH:∀b,v.size<=b->¬Cut (Cut H σ) v b:=λb d hc=>by have:=hc.2;omega
 have ad:cR s 2 (rV P) v2 (λb=>v.size<=b):=aH.bK J.gp M;refine Ko (a:=bN) (bb:=bN) (λ(ab:Int) (t:Int) w=>∃i:Nat,t=(i:Int)/\i<=P.length/\ab=(((P.take i).map (·.2)).sum:Nat)/\((P.take i).map (·.2)).sum<=1024*i/\Ext (gF (Grow F σ) H) v w/\W2 w (Cut (Grow F σ) v) (Cut (Cut H σ) v) Y ((P.take i).foldl fE (YI A,sp)).1 T ((P.take i).foldl fE (YI A,sp)).2/\cR s 2 (rV P) w (λb=>v.size<=b)/\bX w v1.size [.func (.func 192) #[.pointer (some ⟨Y.tr,0,none⟩)] #[],.func (.func 193) #[.pointer (some ⟨Y.hs,0,none⟩)] #[]]) (λ_ t _=>P.length-t.toNat)
  ⟨0,rfl,O,rfl,by simp,(bO.to C).lx M,hW2,ad,hb2⟩ ?_
 rintro ab t w ⟨i,rfl,hi,rfl,hsum,ew,Q,W,af⟩;refine cI (λac=>?_) λhge=>?_
 ·have S:i<P.length:=by omega
  have hx:P[i]?=some P[i]:=cM S;have X:P.take (i+1)=P.take i++[P[i]]:=by rw[zg,hx];rfl
  have hbr:=d.2 _ (zc S);generalize P[i]=r at *;refine Em W hx ?_;refine nw (cs:=[.int .i64 0,.int .i64 0]) λv4 hz4 e4 hb4=>hb4.s1 aA λv5 o5 b5=>b5.s1 aA λv6 o6 b6=>?_;have D:bO w v6:=Ext.fresh (Ext.fresh e4 o5.ext λi hi=>O) o6.ext λi hi=>by omega
  have ae:bX v6 w.size [.int .i64 (r.1:Int),.int .i64 (r.2:Int)]:=b6;have hW6:=Q.bK D;have aa:=D.bZ af id;have Z:=aH.bK W D;have U:v.size<=w.size:=ew.1;have E:v.size<=v1.size:=C.1;refine ZU (a:=bN) (λ(t:Int) z=>∃j:Nat,t=(j:Int)/\j<=2/\Ext (gF (Grow F σ) H) v z/\W2 z (Cut (Grow F σ) v) (Cut (Cut H σ) v) Y (if j=0 then((P.take i).foldl fE (YI A,sp)).1 else(fE ((P.take i).foldl fE (YI A,sp)) r).1) T (if j<=1 then((P.take i).foldl fE (YI A,sp)).2 else(fE ((P.take i).foldl fE (YI A,sp)) r).2)/\cR s 2 (rV P) z (λb=>v.size<=b)/\bX z v1.size [.func (.func 192) #[.pointer (some ⟨Y.tr,0,none⟩)] #[],.func (.func 193) #[.pointer (some ⟨Y.hs,0,none⟩)] #[]]/\bX z w.size [.int .i64 (r.1:Int),.int .i64 (r.2:Int)]) (λt _=>2-t.toNat)
   ⟨0,rfl,O,ew.lx D,hW6,Z,aa,ae⟩ ?_
  rintro t z ⟨j,rfl,hj,ez,u,L,x,K⟩;refine cI (λhlt2=>?_) λhge2=>?_
  ·have hj2:j=0\/j=1:=by omega
   rcases hj2 with rfl|rfl
   ·refine ix O O ?_;refine⟨⟨192,#[.pointer (some ⟨Y.tr,0,none⟩)],#[]⟩,by rw[add_lit,x.cell];rfl,K.rI rfl (K.rI rfl ?_)⟩;refine GF (all := #[.pointer (some ⟨Y.tr,0,none⟩),.int .i64 (r.1:Int),.int .i64 (r.2:Int)]) (by kernel_rfl) aA ?_;rw[zB rfl,zB O]at u;show W8.c (aW Y.tr) (r.1:Int) (r.2:Int) z _;refine u.a.Rel _ _ λz2 t2 y ag=>?_;refine cA (m:=1) O O ⟨⟨1,rfl,O,ez.trans (ea y),?_,aH.bU L y λb _ d=>nF b d,y.bZ x (nF _ E),y.bZ K (nF _ U)⟩,O⟩;rw[zA O,zB O];exact u.jY y ag
   ·refine ix O O ?_;refine⟨⟨193,#[.pointer (some ⟨Y.hs,0,none⟩)],#[]⟩,by rw[add_lit,x.cell];rfl,K.rI rfl (K.rI rfl ?_)⟩;refine GF (all := #[.pointer (some ⟨Y.hs,0,none⟩),.int .i64 (r.1:Int),.int .i64 (r.2:Int)]) (by kernel_rfl) aA ?_;rw[zA O,zB O]at u;show XH.c (aW Y.hs) (r.1:Int) (r.2:Int) z _;refine PX u.s u.g u.o2 _ _ λz2 y hS5=>?_;refine cA (m:=2) O O ⟨⟨2,rfl,O,ez.trans (es' y),?_,aH.bU L y λb _ d=>nH b d,y.bZ x (nH _ E),y.bZ K (nH _ U)⟩,O⟩;rw[zA O,zA O];exact u.space y hS5
  ·have hjj:j=2:=by omega
   subst hjj;rw[zA O,zA O]at u;have B:((P.take (i+1)).map (·.2)).sum=((P.take i).map (·.2)).sum+r.2:=by rw[X];simp
   refine K.rI rfl (cA (m:=((P.take i).map (·.2)).sum+r.2) O O (cA (m:=i+1) O O ⟨⟨i+1,rfl,O,by rw[B],by rw[B];omega,ez,?_,L,x⟩,O⟩));rw[X,mN];exact u
 ·have:i=P.length:=by omega
  subst this;rw[zn]at Q ⊢;refine hR w (Cut (Grow F σ) v) (Cut (Cut H σ) v) ⟨λb d=>d.1,λb d=>d.1.1⟩ ((e.sub λb d=>.inl d).fF ew λb d=>?_) Q;rcases d with(d|d)|d
  ·exact .inl (.inl d)
  ·exact .inr d
  ·exact .inl (.inr d)
theorem Fz {s:Sl}{l:List Nat}(h:cR s 1 (eW l) σ F){k q:Nat}(hq:l[k]?=some q){K:Option Addr->Prop}(hK:K (some ⟨q,0,none⟩)):Ix s.a s.len (k:Int) 1 λa=>gP (λm=>bO σ m) .p a K:=by
 have r:=(cQ.1 hq).1;obtain⟨b,o,i,d⟩:=h.cell (j:=k) (v:=.pointer (some ⟨q,0,none⟩)) (by simp[eW,hq]);have e:=h.1;simp[eW]at e;rw[i];refine ix O O ⟨_,λm g=>?_,hK⟩;rw[add_lit,show o+(k:Int).toNat*1=o+k by omega,QN g (QQ d) id];exact d
theorem cX.xy (h:cX σ F Y A T){k q:Nat}(hq:Y.fI[k]?=some q){K:Option Addr->Prop}(hK:K (some ⟨q,0,none⟩)):Ix Y.dH.a Y.dH.len (k:Int) 1 λa=>gP (λm=>bO σ m) .p a K:=by
 obtain⟨G,d,b⟩:=h.sep.get .dH;exact Fz (bR.gp b) hq hK
theorem cX.vY (h:cX σ F Y A T){k q:Nat}(hq:Y.gB[k]?=some q){K:Option Addr->Prop}(hK:K (some ⟨q,0,none⟩)):Ix Y.cL.a Y.cL.len (k:Int) 1 λa=>gP (λm=>bO σ m) .p a K:=by
 obtain⟨G,d,b⟩:=h.sep.get .cL;exact Fz (bR.gp b) hq hK
theorem cX.sZ (h:cX σ F Y A T){i:Nat}{c:CK}{x:c.T}(hx:(k6 Y)[i]?=some (c.v x)){K:c.T->Prop}(hK:K x):gP (λm=>bO σ m) c (Addr.add ⟨Y.p,0,none⟩ i) K:=by
 refine⟨x,λm a=>?_,hK⟩;rw[add_lit,(Ext.bZ a h.hd id).cell,zG];exact hx
theorem cX.cE (h:cX σ F Y A (cF A Y)){k q:Nat}{c:bW}{t:fQ}(h1:Y.gB[k]?=some q)(h2:A.tb[k]?=some c)(h3:A.cE[k]?=some t):∃G:Rg,(∀b,G b->F b)/\iw σ G q c.batch A.room t:=by
 obtain⟨G,a,d,_⟩:=h.tO h1 h2 h3;exact⟨G,a,d⟩
theorem Rn {c:bW}{s:Sl}{tb:List bW}(h:cR s 3 (fZ tb) σ F){k ty:Nat}(hc:tb[k]?=some c){K:Addr->Hp->Prop}(hK:∀v,bO σ v->bX v σ.size [.int .i64 (c.size:Int),.int .i64 (c.aF:Int),.int .i64 (c.batch:Int)]->K ⟨σ.size,0,none⟩ v) :
 Ix s.a s.len (k:Int) 3 λa31=>fJ .i64 (a31.add 0) σ λt32=>fJ .i64 (a31.add 1) σ λt321=>fJ .i64 (a31.add 2) σ λt322=>
  Nw (.cells #[.int .i64 0,.int .i64 0,.int .i64 0] ty (0,0)) σ λn14 v2=>dG (n14.add 0) (.int .i64 t32) v2 λv3=>dG (n14.add 1) (.int .i64 t321) v3 λv4=>dG (n14.add 2) (.int .i64 t322) v4 λv5=>K n14 v5:=by
 have g:=Hu hc;have E:=(cQ.1 hc).1;obtain⟨b,o,m,z⟩:=h.cell g.1;obtain⟨D,o1,d,A⟩:=h.cell g.2.1;obtain⟨p,o2,e,u⟩:=h.cell g.2.2;rw[m]at d e;cases d;cases e;have y:=h.1;rw[KD]at y;rw[m];refine ix O O ?_;rw[add_lit,show o+(k:Int).toNat*3=o+3*k by omega];refine dP (by simpa using z) (dP (by rw[qn];exact A) (dP (by rw[qn];exact u) ?_));refine nw (cs:=[.int .i64 0,.int .i64 0,.int .i64 0]) λv2 r x p=>p.s1 aA λv3 o3 w=>w.s1 aA λv4 o4 B=>B.s1 aA λv5 o5 C=>?_;exact hK v5 (Ext.fresh (Ext.fresh (Ext.fresh x o3.ext λi j=>O) o4.ext λi j=>O) o5.ext λi j=>O) C
def part {α:Type}(f:bW->α->Nat)(tb:List bW)(l:List α)(i:Nat):Nat:=(((tb.zip l).take i).map λx=>f x.1 x.2).sum
theorem HF {α:Type}{f:bW->α->Nat}{tb:List bW}{l:List α}{i:Nat}{c:bW}{x:α}(hc:tb[i]?=some c)(hx:l[i]?=some x):part f tb l (i+1)=part f tb l i+f c x:=by
 unfold part;have:(tb.zip l)[i]?=some (c,x):=by rw[List.getElem?_zip_eq_some];exact⟨hc,hx⟩
 rw[zg,this];simp
theorem yp {α:Type}{f:bW->α->Nat}{tb:List bW}{l:List α}(h:l.length=tb.length):part f tb l tb.length=((tb.zip l).map λx=>f x.1 x.2).sum:=by
 unfold part;rw[mV (by rw[List.length_zip];omega)]
theorem BZ:∀{l:List (Int×Int)} {n x:Int},(l.map (·.1)).Nodup->(n,x)∈l->(l.map (·.2)).sum=x+((l.filter λy=>!(y.1==n)).map (·.2)).sum
 | [],_,_,_,h=>by simp at h
 | y::l,n,x,hn,h=>by
  simp only[zJ,zq]at hn;rcases zQ.1 h with h1|h1
  ·subst h1;have:l.filter (λy=>!(y.1==n))=l:=by
    rw[nT];intro z hz;have:z.1≠n:=λe=>hn.1 (zC.2 ⟨z,hz,e⟩);simpa using this
   rw[uo aA,this];simp
  ·have a:y.1≠n:=λe=>hn.1 (zC.2 ⟨_,h1,e.symm⟩);rw[tj (by simpa using a)];simp only[zJ,zj];rw[BZ hn.2 h1];omega
theorem Pw (l:List (Nat×Nat)):((iz l).map (·.2)).sum=(((l.map (·.2)).sum:Nat):Int):=by
 induction l with
 | nil=>rfl
 | cons x l ih=>
  have:iz (x::l)=((x.1:Int),(x.2:Int))::iz l:=rfl;rw[this];simp only[zJ,zj];rw[ih];omega
theorem WeI (h:cX σ F Y A (cF A Y))(hr:Ug A<=1000000){R:Int->Int->Int->Int->Int->Int->Hp->Prop}
 (hR:∀σ',bO σ σ'->Ub A<=40000000000/\qc A<=40000000000/\Ur A<=40000000000/\Uc A<=40000000000->R (Ub A:Nat) (qc A:Nat) (Ur A:Nat) (Uc A:Nat) (Ug A:Nat) (iR A.n A.S:Nat) σ'):X2.c (aW Y.p) σ R:=by
 refine X2.o ?_;unfold X2.v;have htl:=h.nS;have ht2:=h.lay.nP;refine KU h (cG rfl (aG (h.hd.rS rfl ?_)));refine JC (a:=bN) (bb:=bN) (c:=bN) (d:=bN) (e:=bN) (λ(B room C D t:Int) v=>∃i:Nat,t=(i:Int)/\i<=A.tb.length/\bO σ v/\B=(part (λc (t:fQ)=>t.bs.flatten.length*c.size) A.tb A.cE i:Nat)/\room=(part (λc b=>Kt b*c.size) A.tb A.cC i:Nat)/\C=(part (λc (b:List cH)=>b.length*c.tail) A.tb A.cC i:Nat)/\D=(part (λc (b:List cH)=>b.length*c.aF) A.tb A.cC i:Nat) ∧
  part (λc (t:fQ)=>t.bs.flatten.length*c.size) A.tb A.cE i<=i*1000000000/\part (λc b=>Kt b*c.size) A.tb A.cC i<=i*1000000000/\part (λc (b:List cH)=>b.length*c.tail) A.tb A.cC i<=i*1000000000/\part (λc (b:List cH)=>b.length*c.aF) A.tb A.cC i<=i*1000000000) (λ_ _ _ _ t _=>A.tb.length-t.toNat)
  ⟨0,rfl,O,Ext.refl _ _,by simp[part],by simp[part],by simp[part],by simp[part],by simp[part],by simp[part],by simp[part],by simp[part]⟩ ?_
 rintro B room C D t v ⟨i,rfl,hi,e,rfl,rfl,rfl,rfl,b1,b2,b3,b4⟩;have X:=h.bK e;refine cI (λhlt=>?_) λhge=>?_
 ·have hi':i<A.tb.length:=by simp only at hlt;omega
  obtain⟨c,b,q,t,r,L,j,hq,ht,af,ab⟩:=h.at_ hi';obtain⟨G,hG,htab⟩:=X.sep.get .dD;refine Rn htab L λv5 e5 b5=>?_;have h5:=X.bK e5;refine b5.rI rfl (b5.rI rfl (b5.rI rfl (FR ab λv6 e6=>?_)));have h6:=h5.bK e6;have b6:=e6.bZ b5 id;obtain⟨G1,ps,_,hC⟩:=h6.cC hq L j;refine aG (h6.hd.rS rfl (h6.kg hq (RE hC λs v7 e7 hrow=>?_)));have h7:=h6.bK e7;have b7:=e7.bZ b6 id;have Z:s.len=b.length:=by have:=hrow.1;rw[Bl,za]at this;omega
  refine⟨λm=>bO v7 m,Ext.refl _ _,aG (h7.sZ (c:=.s) (x:=Y.cL) rfl (h7.vY af ⟨(c.size:Int),λm V=>by rw[add_lit,(Ext.bZ V b7 id).cell];rfl,?_⟩))⟩;obtain⟨G2,_,ae⟩:=h7.cE af L ht;refine SS ae λs2 v8 e8 hl8 hrow8=>⟨e8,?_⟩;have h8:=h7.bK e8;have b8:=e8.bZ b7 id;have Q:=ae.flat;have N:=hC.room;have K:=hC.lr;obtain⟨hz1,E,_,hp1,ke,_⟩:=ab;have hm1:t.bs.flatten.length*c.size<=1000000000:=zI (kL Q E) O;have hm2:Kt b*c.size<=1000000000:=zI (kL N E) O;have U:c.tail<=1024:=by unfold bW.tail;omega
  have hm3:b.length*c.tail<=1000000000:=zI (kL K U) O;have hm4:b.length*c.aF<=1000000000:=zI (kL K ke) O;have s1:=HF (f:=λc (t:fQ)=>t.bs.flatten.length*c.size) L ht;have M:=HF (f:=λc b=>Kt b*c.size) L j;have s3:=HF (f:=λc (b:List cH)=>b.length*c.tail) L j;have s4:=HF (f:=λc (b:List cH)=>b.length*c.aF) L j;refine cA (m:=t.bs.flatten.length*c.size) (by rw[hl8];simp) O (cA (m:=part (λc (t:fQ)=>t.bs.flatten.length*c.size) A.tb A.cE (i+1)) (by rw[s1];simp) (by rw[s1];omega) ?_);refine⟨λm=>bO v8 m,Ext.refl _ _,aG (h8.sZ (c:=.s) (x:=Y.dH) rfl (h8.xy hq ⟨(c.size:Int),λm V=>by rw[add_lit,(Ext.bZ V b8 id).cell];rfl,?_⟩))⟩;obtain⟨G3,ps3,_,hC8⟩:=h8.cC hq L j;refine MQ hC8 λv9 e9=>⟨e9,?_⟩;have b9:=e9.bZ b8 id;refine cA (m:=Kt b*c.size) aA O (cA (m:=part (λc b=>Kt b*c.size) A.tb A.cC (i+1)) (by rw[M];simp) (by rw[M];omega) ?_);refine cA (m:=b.length*c.tail) (by rw[Z];simp) O (cA (m:=part (λc (b:List cH)=>b.length*c.tail) A.tb A.cC (i+1)) (by rw[s3];simp) (by rw[s3];omega) ?_);refine b9.rI rfl (cA (m:=b.length*c.aF) (by rw[Z];simp) O (cA (m:=part (λc (b:List cH)=>b.length*c.aF) A.tb A.cC (i+1)) (by rw[s4];simp) (by rw[s4];omega) ?_));refine cA (m:=i+1) O O ⟨⟨i+1,rfl,O,((((Ext.trans e e5).trans e6).trans e7).trans e8).trans e9,rfl,rfl,rfl,rfl,by rw[s1];omega,by rw[M];omega,by rw[s3];omega,by rw[s4];omega⟩,O⟩
 ·have:i=A.tb.length:=by simp only at hge;omega
  subst this;obtain⟨_,V,_⟩:=X.pG;have aa:=Pw A.runs;refine aG (X.hd.rM rfl (sK (c:=bN) (a:=bN) (x0:=(0:Int)) V (λg (z:Int) w=>bO v w/\(g.map (·.1)).Nodup/\(∀y∈g,0<=(y.2:Int))/\0<=z/\z+(g.map (·.2)).sum=((Ug A:Nat):Int)) (λw hz W=>⟨W,V.nodup,λy hy=>?_,O,?_⟩) (λz w hI=>?_) ?_))
  ·obtain⟨r,_,rfl⟩:=zC.1 hy;show(0:Int)<=(r.2:Int);omega
  ·rw[Int.zero_add];exact aa
  ·obtain⟨W,_,_,_,hz⟩:=hI;have hz':z=((Ug A:Nat):Int):=by simpa using hz
   subst hz';have hw:=X.bK W;obtain⟨sb,ms,hB,_⟩:=hw.free;refine aG (hw.hd.rP rfl (Go.Bu.rD hB ?_));rw[yp h.lay.cE]at b1 ⊢;rw[yp h.lay.cC]at b2 b3 b4 ⊢;rw[yp h.lay.cC,yp h.lay.cC];have hcM:Ub A<=A.tb.length*1000000000:=b1;have hcR:qc A<=A.tb.length*1000000000:=b2;have hcT:Ur A<=A.tb.length*1000000000:=b3;have hcS:Uc A<=A.tb.length*1000000000:=b4;exact hR w (Ext.trans e W) ⟨O,O,O,O⟩
  ·rintro g n (x:Int) (z:Int) w w' J ⟨W,hn,H,ad,hz⟩ hx ho hlt hJ;have hd:=BZ hn hx;have hxp:0<=x:=H _ hx;have P:0<=((g.filter λy=>!(y.1==n)).map (·.2)).sum:=by
    have:∀l:List (Int×Int),(∀y∈l,0<=y.2)->0<=(l.map (·.2)).sum:=by
     intro l
     induction l with
     | nil=>intro _;simp
     | cons y l ih=>
      intro hl;have:=ih λu hu=>hl u (kM _ hu);have:=hl y lf;simp only[zJ,zj];omega
    exact this _ λy hy=>H y (zH.1 hy).1
   have E:z+x+((g.filter λy=>!(y.1==n)).map (·.2)).sum=((Ug A:Nat):Int):=by
    exact(Int.add_assoc z x _).trans ((congrArg (λ(u:Int)=>z+u) hd.symm).trans hz)
   have ac:(0:Int)<=x:=hxp;have hup:z+x<=((Ug A:Nat):Int):=Int.le_trans (Int.le_add_of_nonneg_right P) (Int.le_of_eq E);have hlo:(0:Int)<=z+x:=Int.add_nonneg ad ac;refine ar ?_ ?_ (hJ (z+x) w' rfl rfl ⟨Ext.fresh W ho.ext λi hi=>O,?_,λy hy=>H y (zH.1 hy).1,?_,E⟩)
   ·show -9223372036854775808<=(z:Int)+(x:Int);omega
   ·show(z:Int)+(x:Int)<=9223372036854775807;omega
   ·exact List.Nodup.sublist (List.filter_sublist.map _) hn
   ·exact Int.add_nonneg ad ac
end Go.Ar