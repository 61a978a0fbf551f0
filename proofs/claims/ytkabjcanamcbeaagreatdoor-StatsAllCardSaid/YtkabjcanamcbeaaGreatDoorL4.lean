/- Texts joined. -/
import Derived.Test.YtkabjcanamcbeaaGreatDoorL3
set_option linter.unusedVariables false
set_option linter.unusedSimpArgs false
namespace Go.Ar
open Go Go.Vc Go.Proofs
open Go.Bu (Zg)
variable {σ:Hp}{F:Rg}{p q r:Nat}{sp:Sp}{l:List (Int×Sl)}{B:Nat->Nat}
theorem WhR (h:dI σ F p sp)(g:Gl σ)(x:Int)(hx:x<=9223372036854775807){R:aN}(hR:∀σ',bO σ σ'->R (lR sp x) σ') :
 X3.c (aW p) x 1 σ R:=by
 refine X3.o ?_;have H:=h;obtain⟨q,r,l,B,h⟩:=h;have n2:=h.n2;have i:(x<0\/x%8≠0)->R 7 σ:=λj=>by
  have:=hR σ (Ext.refl _ _);unfold lR at this;rw[zB j]at this;exact this
 refine HF H (cG rfl (cG rfl (bZ.intro (cI (λA=>cJ rfl (i (.inl A))) λA=>nz aB ?_))));obtain⟨y,rfl⟩:=zn (show 0<=x by omega);refine cU (λd=>?_) λd=>?_
 ·refine i (.inr ?_);rw[Kj O]at d;simpa using d
 have K:y%8=0:=by
  rw[Kj O]at d;have:((y:Int)%8)=0:=by simpa using d
  omega
 have ok:¬((y:Int)<0\/(y:Int)%8≠0):=by omega
 refine nz aB (cA (m:=y/256) (by rw[Yb O];simp) O (nz aB (cA (m:=y/8) (by rw[Yb O];simp) O ?_)));refine cA (m:=y/8+1) O O (cA (m:=y/8) O O (nz aB (cA (m:=y/256) (by rw[Yb O];simp;omega) O ?_)));have fin:∀(b:Bool) σ',bO σ σ'->(b=true↔sp.st.getD (y/256) 0=0)->If b (R 7 σ') (R 0 σ'):=λb σ' e j=>by
  have:=hR σ' e;unfold lR at this;rw[zA ok]at this;refine cU (λh=>?_) λh=>?_
  ·rw[zB (by simpa using j.1 h)]at this;exact this
  ·rw[zA (λG=>by rw[j.2 (by simpa using G)]at h;cases h)]at this;exact this
 obtain⟨c,J,hd⟩:=h.hd;refine Jn.intro ⟨λm=>bX m p [.slice (some ⟨q,0,none⟩) sp.st.length c,.map (some r),.int .i64 (sp.pk:Int)]/\Gl m,⟨hd,g⟩,?_⟩;refine aG ⟨⟨some ⟨q,0,none⟩,sp.st.length,c⟩,λm a=>by rw[add_lit,a.1.cell];rfl,?_⟩;refine cI (λw=>?_) λw=>?_
 ·simp only at w;refine fin _ σ (Ext.refl _ _) ⟨λ_=>?_,λ_=>rfl⟩;rw[zL,za O];rfl
 simp only at w;refine aG ⟨⟨some ⟨q,0,none⟩,sp.st.length,c⟩,λm a=>by rw[add_lit,a.1.cell];rfl,?_⟩;refine cA (m:=y/256+1) O O (jV O aC (zD _) ?_);simp only;rw[zA O];refine⟨false,λm a=>a.2.u0,⟨false,λm a=>a.2.u1,?_⟩⟩;have e:(Option.map (λ(u:Addr)=>u.add (y/256*2)) (some (⟨q,0,none⟩:Addr)))=some ⟨q,2*(y/256),none⟩:=by
  simp only[zj,add_lit];congr 2;omega
 rw[e,EV];have E:=h.part (x:=y/256) (y:=1) (c:=c-y/256) O;refine GT (v:=0) E (by rw[zP,zu];omega) (λz D=>h.ux z (uV (qt D))) O λσ' s=>?_;refine⟨⟨s.bV hd id,g.bK s⟩,fin _ σ' s ?_⟩;have C:y/256<sp.st.length:=by omega
 rw[zL,cM C,ur C,vK,Cs];simp[eq_comm]
theorem fO.F8 (h:fO σ F p q r l B sp){k:Nat}(hk:k<sp.st.length)(hn:sp.st[k]?≠some 2){σ':Hp}{b:Nat}{s:Sl}{T:Rg}(e:Ext T σ σ')(hT:∀i,i<σ.size->T i->i=q\/i=r)(hz:σ.size<=b){rest:List Value}
 (hb:bX σ' q (iD (sp.st.set k 2)++rest)) (hm:dN σ' r .i64 .s (dG l (k:Int) s)) (ha:s.a=some ⟨b,0,none⟩) (hl:s.len=32) (hc:s.cap=32) (hw:bX σ' b (List.replicate 32 (.int .i64 0))) :
 fO σ' (Grow F σ) p q r (dG l (k:Int) s) (λj=>if j=k then b else B j) {sp with st:=sp.st.set k 2}:=by
 have u:∀j:Nat,(sp.st.set k 2)[j]?=some 2↔j=k\/sp.st[j]?=some 2:=λj=>by
  rw[sj];by_cases hjk:k=j
  ·subst hjk;rw[zB rfl,zB hk];simp
  ·rw[zA hjk];exact⟨λh=>.inr h,λh=>h.resolve_left λe=>hjk e.symm⟩
 obtain⟨c,G,hd⟩:=h.hd;obtain⟨_,z⟩:=h.row;have U:=hd.lt;have S:=z.lt;have V:=h.map.lt;have W:=e.1;have g:=h.fs;have A:∀{j:Nat},sp.st[j]?=some 2->B j<σ.size:=λ{j} d=>by
  obtain⟨t,_,_,_,_,cs,J,_⟩:=h.entry d;exact J.lt
 have cW:∀{i:Nat} {cs:List Value},bX σ i cs->i≠q->i≠r->bX σ' i cs:=λ{i cs} D E y=>e.bV D λM=>by
  rcases hT i D.lt M with h|h
  ·exact E h
  ·exact y h
 refine⟨⟨c,by simpa using G,by simpa using cW hd g.2.2.2.1 g.2.2.2.2.1⟩,⟨rest,hb⟩,hm,λx=>?_,λj t d=>?_,λj C E y m=>?_,λj d=>?_,⟨.inl g.1,.inl g.2.1,.inl g.2.2.1,g.2.2.2⟩,λw H=>?_,by simpa using h.n1,by simpa using h.n2,J7 h.ux O,h.pk⟩
 ·rw[Eg];by_cases hx:x=(k:Int)
  ·rw[zB hx];subst hx;simp only[Option.isSome_some,true_iff];exact⟨k,rfl,(u k).2 (.inl rfl)⟩
  ·rw[zA hx,h.keys];constructor
   ·rintro⟨j,rfl,d⟩;exact⟨j,rfl,(u j).2 (.inr d)⟩
   ·rintro⟨j,rfl,d⟩;exact⟨j,rfl,((u j).1 d).resolve_left O⟩
 ·rw[Eg]at d;by_cases hx:(j:Int)=(k:Int)
  ·have:j=k:=by omega
   subst this;rw[zB rfl]at d;cases d;rw[zB rfl];refine⟨ha,hl,O,_,hw,by simp,λi D=>?_⟩;rw[qy,zB D];simp only;rw[h.zero _ (by rw[show(32*j+i)/32=j by omega];exact hn)]
  ·rw[zA hx]at d;obtain⟨R,Q,N,cs,J,P,L⟩:=h.wd j t d;have K:=h.out j (h.dL d);rw[zA O];exact⟨R,Q,N,cs,cW J K.2.2.1 K.2.2.2,P,L⟩
 ·by_cases e1:j=k
  ·by_cases e2:C=k
   ·omega
   ·rw[zB e1,zA e2]at m;have:=A (((u C).1 y).resolve_left e2);omega
  ·rw[zA e1]at m;by_cases e2:C=k
   ·rw[zB e2]at m;have:=A (((u j).1 E).resolve_left e1);omega
   ·rw[zA e2]at m;exact h.inj j C (((u j).1 E).resolve_left e1) (((u C).1 y).resolve_left e2) m
 ·by_cases e1:j=k
  ·rw[zB e1];exact⟨.inr hz,O,O,O⟩
  ·rw[zA e1];have:=h.out j (((u j).1 d).resolve_left e1);exact⟨.inl this.1,this.2⟩
 ·refine h.zero w λy=>H ((u _).2 (.inr y))
theorem fO.dM (h:fO σ F p q r l B sp){σ':Hp}{n c:Nat}(hn:n<=1024)(ho:QJ σ σ' p)(hc:sp.st.length<=c)(hb:bX σ' p [.slice (some ⟨q,0,none⟩) sp.st.length c,.map (some r),.int .i64 (n:Int)]):fO σ' F p q r l B {sp with pk:=n}:=by
 have b:=h.fs;obtain⟨rest,a⟩:=h.row;refine⟨⟨c,hc,hb⟩,⟨rest,Ws ho a O⟩,HW ho h.map O,h.keys,λj t d=>?_,h.inj,h.out,b,h.zero,h.n1,h.n2,h.ux,hn⟩;obtain⟨u,m,e,i,s,g,w⟩:=h.wd j t d;exact⟨u,m,e,i,Ws ho s (h.out j (h.dL d)).2.1,g,w⟩
theorem fO.word (h:fO σ F p q r l B sp){w:Nat}{v:Int}(hk:sp.st[w/32]?=some 2){σ':Hp}{cs:List Value}(h32:32<=cs.length)(ho:QJ σ σ' (B (w/32)))(hcs:∀j,j<32->cs[j]?=some (.int .i64 (sp.wd (32*(w/32)+j))))
 (hb:bX σ' (B (w/32)) (cs.set (w%32) (.int .i64 v))):fO σ' F p q r l B {sp with wd:=λu=>if u=w then v else sp.wd u}:=by
 have m:=h.out _ hk;obtain⟨c,C,hd⟩:=h.hd;obtain⟨rest,a⟩:=h.row;refine⟨⟨c,C,Ws ho hd O⟩,⟨rest,Ws ho a O⟩,HW ho h.map O,h.keys,λj t y=>?_,h.inj,h.out,h.fs,λu s=>?_,h.n1,h.n2,h.ux,h.pk⟩
 ·obtain⟨A,z,x,b,D,G,E⟩:=h.wd j t y;by_cases hjk:j=w/32
  ·subst hjk;refine⟨A,z,x,_,hb,by simpa using h32,λi d=>?_⟩;rw[sj];by_cases hiw:w%32=i
   ·rw[zB hiw,zB O];simp only;rw[zB O]
   ·rw[zA hiw];simp only;rw[zA O];exact hcs i d
  ·have g:B j≠B (w/32):=λe=>hjk (h.inj _ _ (h.dL y) hk e);refine⟨A,z,x,b,Ws ho D g,G,λi d=>?_⟩;rw[E i d];simp only;rw[zA O]
 ·have:u≠w:=λe=>by subst e;exact s hk
  simp only;rw[zA this];exact h.zero u s
theorem Wnr (h:dI σ F p sp)(g:Gc σ){w:Nat}(hw:w/32<sp.st.length)(v:Int){R:aP}(hR:∀σ',Ext F σ σ'->dI σ' (Grow F σ) p (r8 sp w v)->R σ') :
 Zn.c (aW p) (w:Int) v σ R:=by
 refine Zn.o ?_;obtain⟨q,r,l,B,h⟩:=h;have W:=h.n2;have j:sp.st[w/32]?=some sp.st[w/32]:=cM hw;have tm:((w:Int).tmod 32)=((w%32:Nat):Int):=by rw[Kj O];simp
 have word:∀(u:Hp) (s':Sp) (l':List (Int×Sl)) (B':Nat->Nat),Ext F σ u->fO u (Grow F σ) p q r l' B' s'->s'.st[w/32]?=some 2->({s' with wd:=λz=>if z=w then v else s'.wd z}:Sp)=r8 sp w v →
  bQ (some ⟨p,0,none⟩) λV=>qc (V.add 1) u λS=>Lk .i64 .s S ((w/32:Nat):Int) u λE=>Nz 32<|Ix (E.getD ⟨none,0,0⟩).a (E.getD ⟨none,0,0⟩).len ((w:Int).tmod 32) 1 λU=>cY U (.int .i64 v) u λv1=>R v1:=by
  intro u s' l' B' eu hu A he;refine aG (hu.rM ⟨l',hu.map,nz aB ?_⟩);obtain⟨s,hs,w1,w2,w3,cs,w4,w5,w6⟩:=hu.entry A;rw[hs,tm];simp only[sS];rw[w1];refine ix O O ?_;rw[add_lit,show 0+((w%32:Nat):Int).toNat*1=w%32 by omega];refine w4.s0 O λu2 o2 M=>?_;have h2:=hu.word (v:=v) A w5 o2 w6 M;rw[he]at h2;exact hR u2 (eu.fH o2.ext λb d=>by subst d;exact(hu.out _ A).1) ⟨_,_,_,_,h2⟩
 refine nz aB (cA (m:=w/32) (by rw[Yb O];simp) O (Jn.intro (aG (h.rS λcap G=>ix O aC ?_))));rw[add_lit,show 0+((w/32:Nat):Int).toNat*2=2*(w/32) by omega];refine h.Cj j (oH (n:=true) g.d0 (oH (n:=true) g.d1 ?_));have e0:(((fP sp.st[w/32]).1==true)&&(((fP sp.st[w/32]).2==true)&&true))=(sp.st[w/32]==2):=Fm (h.ux _ (zf hw)) (y:=2) O;rw[e0];refine cU (λhd=>?_) λhd=>?_
 ·have J:sp.st[w/32]≠2:=by simpa using hd
  refine aG (h.rS λcap G=>oH (n:=true) g.d0 (oH (n:=true) g.d1 (ix O aC ?_)));rw[add_lit,show 0+((w/32:Nat):Int).toNat*2=2*(w/32) by omega];obtain⟨rest,D⟩:=h.row;refine D.s1 (by rw[zK,Vw];omega) λu1 o1 b1=>b1.s1 (by rw[sx,zK,Vw];omega) λu2 o2 M=>?_;rw[zt]at M;have Q:bX u2 q (iD (sp.st.set (w/32) 2)++rest):=by rw[←LX hw];exact M
  have e2:Ext (· = q) σ u2:=o1.ext.trans o2.ext;obtain⟨c,hc,C⟩:=h.hd;have H:=e2.bV C h.fs.2.2.2.1;refine⟨λm=>bX m p [.slice (some ⟨q,0,none⟩) sp.st.length c,.map (some r),.int .i64 (sp.pk:Int)],H,aG ⟨some r,λm hm=>by rw[add_lit,hm.cell];rfl,?_⟩⟩;refine mk (n:=32) O O λu3 hz3 K b3=>⟨Ext.bV K H id,?_⟩;have b3':bX u3 u2.size (List.replicate 32 (.int .i64 0)):=b3;have q3:=Ext.bV K Q id;have P:=e2.gS h.map (λe=>h.fs.2.2.2.2.2 e.symm);refine⟨r,l,rfl,Ext.gS K P id,λu4 o4 hm4=>?_⟩;have sz2:u2.size=σ.size:=by rw[o2.1,o1.1]
  have hrlt:=h.map.lt;have hplt:=C.lt;have e4:Ext (λb=>b=q\/b=r) σ u4:=((e2.sub λb d=>.inl d).trans (bO.to K)).trans (o4.ext.sub λb d=>.inr d);have L:=h.F8 hw (by rw[j];simpa using J) (s:=⟨some ⟨u2.size,0,none⟩,32,32⟩) (b:=u2.size) e4 (λi _ N=>N) O (Ws o4 q3 h.fs.2.2.2.2.2) hm4 rfl rfl rfl (Ws o4 b3' O);obtain⟨c4,Z,x⟩:=L.hd;refine aG (x.rI rfl (aG (x.rM rfl ⟨_,L.map,aG ?_⟩)));rw[L.vS];have hcl:(sp.st.set (w/32) 2).count 2<=1024:=zJ y9 (by simpa using W);have hpk:=h.pk;have hv:(if((List.count 2 (sp.st.set (w/32) 2):Nat):Int)>(sp.pk:Int)then((List.count 2 (sp.st.set (w/32) 2):Nat):Int)else(sp.pk:Int))=((max sp.pk ((sp.st.set (w/32) 2).count 2):Nat):Int):=by
   by_cases hgt:((List.count 2 (sp.st.set (w/32) 2):Nat):Int)>(sp.pk:Int)
   ·rw[zB hgt];omega
   ·rw[zA hgt];omega
  simp only;rw[hv];refine x.s1 aA λu5 o5 b5=>?_;have h5:=L.dM O o5 Z b5;have e5:Ext F σ u5:=(e4.sub λb d=>by
   rcases d with rfl|rfl
   ·exact h.fs.2.1
   ·exact h.fs.2.2.1).trans (o5.ext.sub λb d=>by subst d;exact h.fs.1)
  refine word u5 _ _ _ e5 h5 (by simp only;rw[sj,zB rfl,zB hw]) ?_;unfold r8;rw[zA (by rw[zL,j];exact J)]
 ·have Y:sp.st[w/32]=2:=by simpa using hd
  rw[Y]at j;have X:fO σ (Grow F σ) p q r l B sp:={h with out:=λk A=>⟨.inl (h.out k A).1,(h.out k A).2⟩,fs:=⟨.inl h.fs.1,.inl h.fs.2.1,.inl h.fs.2.2.1,h.fs.2.2.2⟩};refine word σ sp l B (Ext.refl _ _) X j ?_;unfold r8;rw[zB (by rw[zL,j];rfl)];have:sp.st.set (w/32) 2=sp.st:=by
   apply lX;intro i;rw[sj];by_cases N:w/32=i
   ·subst N;rw[zB rfl,zB hw,j]
   ·rw[zA N]
  rw[this]
theorem Sb (h:dI σ F p sp)(g:Gl σ)(gd:Gc σ)(x:Int)(hx:x<=9223372036854775807)(v:Int){R:aN}(hR:∀σ',Ext F σ σ'->dI σ' (Grow F σ) p (U5 sp x v)->R (lR sp x) σ') :
 Yx.c (aW p) x v σ R:=by
 refine Yx.o ?_;have j:dI σ (Cut F σ) p sp:=dS.cut dI.loc h;refine WhR h g x hx λB e=>?_;have w:=j.bK e;have D:=g.bK e;refine cU (λu=>?_) λu=>?_
 ·have s:¬lR sp x=0:=by simpa using u
  refine hR B (bO.to e) ?_;unfold U5;rw[zA s];exact dS.mono dI.loc w λb _ a=>.inl a.1
 ·have d:lR sp x=0:=by simpa using u
  have i:0<=x/\sp.st.getD (x.toNat/256) 0≠0:=by
   unfold lR at d;by_cases a:x<0\/x%8≠0
   ·rw[zB a]at d;cases d
   ·rw[zA a]at d;by_cases hz:sp.st.getD (x.toNat/256) 0=0
    ·rw[zB hz]at d;cases d
    ·exact⟨O,hz⟩
  obtain⟨y,rfl⟩:=zn i.1;have r:y/8/32<sp.st.length:=by
   rcases pA (y/256) sp.st.length with h|h
   ·omega
   ·exact absurd (by rw[zL,za (by simpa using h)];rfl) i.2
  refine nz aB (cA (m:=y/8) (by rw[Yb O];simp) O (Wnr w (gd.bK e) r v λC A z=>?_));have:=hR C (Ext.cut ((bO.to e).trans A)) ?_
  ·rw[d]at this;exact this
  ·unfold U5;rw[zB d];exact dS.mono dI.loc z λb _ a=>by
    rcases a with a|a
    ·exact .inl a.1
    ·exact .inr (zJ e.1 a)
def VC (n:Nat):Sp:=⟨List.replicate n 0,λ_=>0,0⟩
theorem Wm4 {σ:Hp}{F:Rg}{p q r n c:Nat}(h1:1<=n)(h2:n<=1024)(hc:n<=c)(hd:bX σ p [.slice (some ⟨q,0,none⟩) n c,.map (some r),.int .i64 0])(hq:bX σ q (iD (List.replicate n 0)))(hr:dN σ r .i64 .s [])
 (hF:F p/\F q/\F r) (hne:p≠q/\p≠r/\q≠r):fO σ F p q r [] (λ_=>0) (VC n):=by
 have b:∀k:Nat,(List.replicate n 0)[k]?≠some 2:=λk a=>by
  rw[qy]at a;split at a<;>cases a
 refine⟨⟨c,by simpa[VC]using hc,by simpa[VC]using hd⟩,⟨[],by simpa[VC]using hq⟩,hr,λx=>?_,λk s d=>(by cases d),λk g h1=>absurd h1 (b k),λk a=>absurd a (b k),⟨hF.1,hF.2.1,hF.2.2,hne⟩,λw _=>rfl,by simpa[VC]using h1,by simpa[VC]using h2,λx e=>?_,by simp[VC]⟩
 ·constructor
  ·intro h;cases h
  ·rintro⟨k,_,a⟩;exact absurd a (b k)
 ·have:=Ei e;omega
theorem WjF {n:Nat}(h1:1<=n)(h2:n<=1024){R:Option Addr->Int->Hp->Prop}(hR:∀σ' p',bO σ σ'->σ.size<=p'->dI σ' (λb=>σ.size<=b) p' (VC n)->R (some ⟨p',0,none⟩) 0 σ'):Q8.c (n:Int) σ R:=by
 refine Q8.o ?_;refine bZ.intro (fJ O ?_);rw[zg O];refine cG rfl (mk O O λd z r m=>xo λw y e u=>nw (cs:=[.slice (some ⟨σ.size,0,none⟩) n n,.map (some d.size),.int .i64 0]) λj x a g=>?_);have p:=Ext.bV a (Ext.bV e m id) id;have i:=Ext.gS a (u .i64 .s) id;refine hR j _ (Ext.trans (Ext.trans r e) a) O ⟨σ.size,d.size,[],_,Wm4 h1 h2 (zD _) g ?_ i ⟨O,O,O⟩ O⟩;rw[Woy];exact p
end Go.Ar
namespace Go.Vc
open Go
def BG (h:Hp)(it r:Nat):Nat:=
 match h[it]?,h[r]? with
 | some (.mapIter _ _ seen _),some (.map es _)=>(es.toList.filter λe=>!seen.contains e.born).length
 | _,_=>0
variable {σ:Hp}{k:IntKind}{c:CK}{l todo:List (Int×c.T)}{cur:Option (Int×c.T)}{r it:Nat}
theorem It.num {h:Hp}(hi:It h it k c (some r) l todo cur):BG h it r=todo.length:=by
 obtain⟨m,g,a,e,d,p,s,u,j,b,i⟩:=hi;unfold BG;rw[e,d];have:=congrArg List.length b;simpa using this
theorem It.bU {h h':Hp}(hi:It h it k c (some r) l todo cur)(h1:h'[it]?=h[it]?)(h2:h'[r]?=h[r]?):It h' it k c (some r) l todo cur:=by
 obtain⟨g,b,a,d,e,rest⟩:=hi;exact⟨g,b,a,h1.trans d,h2.trans e,rest⟩
theorem Az {A:aP}{body:Int->c.T->Hp->(Hp->Prop)->Prop}(hm:dN σ r k c l)(I:List (Int×c.T)->Hp->Prop)
 (h0:∀v,v.size=σ.size+1->bO σ v->I l v)
 (hend:∀v,I [] v->A v)
 (hstep:∀todo n x v v' (J:aP),I todo v->(n,x)∈todo->QJ v v' σ.size->σ.size<v.size->(∀w,w[σ.size]?=v'[σ.size]?->w[r]?=v'[r]?->I (todo.filter λy=>!(y.1==n)) w->J w)->body n x v' J) :
 wu k c (some r) σ λit v3=>Xb [] (λI=>I v3) λJ1 v4=>wB k c it v4 (A v4) λ_ _ v5=>wo k c it v5 λkey1 val1=>body key1 val1 v5 J1:=by
 refine⟨l,hm,λv D N G=>?_⟩;have L:bO σ v:=⟨O,λb p _=>N b p⟩;refine Jv (λw=>∃todo a,It w σ.size k c (some r) l todo a/\I todo w/\σ.size<w.size) (λw=>BG w σ.size r) ⟨l,none,G,h0 v D L,O⟩ ?_;rintro w ⟨todo,a,g,B,i⟩;refine⟨rfl,some r,l,todo,a,g,λK=>?_,λn x z F E e=>?_⟩
 ·subst K;exact hend w B
 ·refine⟨rfl,some r,l,_,n,x,e,hstep todo n x w F _ B z E i λu j m s=>?_⟩;have d:=e.bU j m;refine⟨⟨_,_,d,s,?_⟩,?_⟩
  ·obtain⟨P,M,C,H,_⟩:=d;exact(pJ.1 H).1
  ·rw[d.num,g.num];exact List.length_filter_lt_length_iff_exists.2 ⟨(n,x),z,by simp⟩
theorem xI {a:CK}{x0:a.T}{A:a.T->Hp->Prop}{body:Int->c.T->a.T->Hp->(a.T->Hp->Prop)->Prop}(hm:dN σ r k c l)(I:List (Int×c.T)->a.T->Hp->Prop)
 (h0:∀v,v.size=σ.size+1->bO σ v->I l x0 v)
 (hend:∀z v,I [] z v->A z v)
 (hstep:∀todo n x z v v' (J:a.T->Hp->Prop),I todo z v->(n,x)∈todo->QJ v v' σ.size->σ.size<v.size->(∀z' w,w[σ.size]?=v'[σ.size]?->w[r]?=v'[r]?->I (todo.filter λy=>!(y.1==n)) z' w->J z' w)->body n x z v' J) :
 wu k c (some r) σ λit v3=>Xb [a] (λI=>I x0 v3) λJ1 z v4=>wB k c it v4 (A z v4) λ_ _ v5=>wo k c it v5 λkey1 val1=>body key1 val1 z v5 J1:=by
 refine⟨l,hm,λv F Q K=>?_⟩;have N:bO σ v:=⟨O,λb s _=>Q b s⟩;refine ZV (a:=a) (λz w=>∃todo d,It w σ.size k c (some r) l todo d/\I todo z w/\σ.size<w.size) (λ_ w=>BG w σ.size r) ⟨l,none,K,h0 v F N,O⟩ ?_;rintro z w ⟨todo,d,i,D,m⟩;refine⟨rfl,some r,l,todo,d,i,λM=>?_,λn x C H G g=>?_⟩
 ·subst M;exact hend z w D
 ·refine⟨rfl,some r,l,_,n,x,g,hstep todo n x z w H _ D C G m λz' u j p B=>?_⟩;have e:=g.bU j p;refine⟨⟨_,_,e,B,?_⟩,?_⟩
  ·obtain⟨R,P,E,L,_⟩:=e;exact(pJ.1 L).1
  ·rw[e.num,i.num];exact List.length_filter_lt_length_iff_exists.2 ⟨(n,x),C,by simp⟩
end Go.Vc
namespace Go.Ar
open Go Go.Vc Go.Proofs
open Go.Bu (Zg)
variable {σ:Hp}{F:Rg}{p q r:Nat}{sp:Sp}{l:List (Int×Sl)}{B:Nat->Nat}
theorem Ug {α:Type}{l:List (Int×α)}(hn:(l.map (·.1)).Nodup){n:Int}{x:α}(h:(n,x)∈l):bW l n=some x:=by
 induction l with
 | nil=>simp at h
 | cons y l ih=>
  rw[Ks];simp only[zH,zr]at hn;rcases zR.1 h with h1|h1
  ·subst h1;rw[zB rfl]
  ·have:¬y.1=n:=λe=>hn.1 (zC.2 ⟨_,h1,e.symm⟩);rw[zA this];exact ih hn.2 h1
end Go.Ar
namespace Go.Bu
open Go Go.Vc Go.Proofs
variable {σ:Hp}{p n sb:Nat}{S:Nat->Bool}{ms:List Nat}
def nS (ms:List Nat):List Value:=ms.map λm=>Value.map (some m)
structure Part (B:Nat) (h:Hp) (p n:Nat) (j:Nat) (s:Sl) (ms:List Nat):Prop where
 len:ms.length=j
 sl:s.len=j
 hd:bX h p [.int .i64 n,.slice s.a s.len s.cap]
 own:Own (λb=>B<=b/\b≠p/\b∉ms) h s 1 (nS ms)
 new:∀m∈ms,B<=m/\m≠p/\m<h.size
 nd:ms.Nodup
theorem Part.done {B:Nat}{h:Hp}{j:Nat}{s:Sl}(hp:Part B h p n j s ms)(hB:B<=p)(hj:0<j)(n1:1<=n)(n2:n<=1024)(lo:2^j<=2*n)(hi:n<2^j)(kU:Bounded S n)
 (maps:∀k m,ms[k]?=some m->∃B:List (Int×Bool),dN h m .i64 .b B/\Keys S k B):∃sb,BH h p n S sb ms/\∀b,fp p sb ms b->B<=b:=by
 rcases hp.own.2 with⟨_,hl,_⟩|⟨sb,cs,⟨hq,hqp,hqm⟩,ha,hb,hle,hcl,ht⟩
 ·have:=hp.sl;omega
 ·refine⟨sb,⟨?_,?_,maps,?_,n1,n2,?_,?_,kU⟩,?_⟩
  ·refine⟨s.cap,?_⟩;have:=hp.hd;rw[ha,hp.sl,←hp.len]at this;exact this
  ·refine⟨cs.drop (nS ms).length,?_⟩;have:nS ms++cs.drop (nS ms).length=cs:=by
    conv=>lhs;lhs;rw[←ht]
    exact qL _ _
   show bX h sb (nS ms++_);rw[this];exact hb
  ·simp only[zr,zR,not_or];exact⟨⟨λe=>hqp e.symm,λa=>(hp.new p a).2.1 rfl⟩,hqm,hp.nd⟩
  ·rw[hp.len];exact lo
  ·rw[hp.len];exact hi
  ·intro b hb;simp only[fp,zR]at hb;rcases hb with rfl|rfl|h
   ·exact hB
   ·exact hq
   ·exact(hp.new b h).1
theorem Part.hdS {B:Nat}{h:Hp}{j:Nat}{s:Sl}(hp:Part B h p n j s ms):cell h ⟨p,1,none⟩=some (.slice s.a s.len s.cap):=by rw[hp.hd.cell];rfl
theorem Part.bK {B:Nat}{h h':Hp}{j:Nat}{s:Sl}(hp:Part B h p n j s ms)(e:bO h h'):Part B h' p n j s ms:=
 ⟨hp.len,hp.sl,e.bV hp.hd id,hp.own.bK e,λm a=>⟨(hp.new m a).1,(hp.new m a).2.1,yR (hp.new m a).2.2 e.1⟩,hp.nd⟩
theorem Part.step {B:Nat}{h:Hp}{j m e t bytes:Nat}{s:Sl}{zs:List Value}{K:Sl->Hp->Prop}(hp:Part B h p n j s ms)(hj:j<=1000)(hbt:bytes<=1000)(hz:zs.length=1)(hm:B<=m)(hmp:m≠p)(hml:m<h.size)(hmn:m∉ms)(hms:¬Hu s m)
 (hpB:p<h.size) (hBh:B<=h.size)
 (hgo:∀s' h',Ext (Hu s) h h'->s'.len=j+1->bX h' p [.int .i64 n,.slice s.a s.len s.cap] →
  (∀h2,QJ h' h2 p->bX h2 p [.int .i64 n,.slice s'.a s'.len s'.cap]->Part B h2 p n (j+1) s' (ms++[m]))->K s' h') :
 App s 1 bytes e zs ⟨some ⟨h.size,0,none⟩,1,1⟩ (h.push (.cells #[.map (some m)] t (0,0))) K:=by
 have J:=hp.sl;have w:Own (λb=>B<=b/\b≠p/\b∉ms++[m]) (h.push (.cells #[.map (some m)] t (0,0))) s 1 (nS ms):=by
  have g:=hp.own;have h2:Own (λb=>B<=b/\b≠p/\b∉ms++[m]) h s 1 (nS ms):=by
   refine⟨g.1,g.2.imp id ?_⟩;rintro⟨b,cs,⟨q1,q2,q3⟩,ha,r⟩;refine⟨b,cs,⟨q1,q2,?_⟩,ha,r⟩;simp only[zU,zZ,not_or];exact⟨q3,λe=>hms ⟨0,by rw[ha,e]⟩⟩
  exact h2.bK (HE _ _)
 have z:(h.push (.cells #[.map (some m)] t (0,0))).size=h.size+1:=by simp
 refine w.app (ys:=[.map (some m)]) ?_ hz rfl O9 (by simp[dP]) ?_ ?_ qW λs' h' A L E H=>?_
 ·intro b i;rw[z]at i;refine⟨O,O,?_⟩;simp only[zU,zZ,not_or];exact⟨λu=>by have:=(hp.new b u).2.2;omega,O⟩
 ·simp only;have:(s.len+1)*bytes<=1001*1000:=nC O hbt;omega
 ·simp only;omega
 ·simp only at A;have d:Ext (Hu s) h h':=(HE h _).to.trans L;have C:¬Hu s p:=λi=>(hp.own.kY i).1.2.1 rfl;refine hgo s' h' d O (d.bV hp.hd C) λh2 y D=>⟨by simp[hp.len],O,D,?_,?_,?_⟩
  ·have:nS (ms++[m])=nS ms++[.map (some m)]:=by simp[nS]
   rw[this];exact E.bU (Ext.eR (F:=(· = p)) y rfl) (λb G _ M=>G.2.1 M)
  ·intro x hx;have N:h2.size=h'.size:=y.1;have:=d.1;rcases zU.1 hx with g|g
   ·have:=hp.new x g;exact⟨this.1,this.2.1,O⟩
   ·simp at g;subst g;exact⟨hm,hmp,O⟩
  ·rw[qQ];refine⟨hp.nd,by simp,?_⟩;intro a ha b i;simp at i;subst i;rintro rfl;exact hmn ha
def jB:Nat->Bool:=λ_=>false
theorem WgE (k:Nat):Keys jB k []:=by
 refine⟨by simp,λq a=>?_⟩;have:=Vh a (KV k q);simp[jB]at this
theorem xu (aF:Int){R:Option Addr->Int->Hp->Prop}(hbad:¬(1<=aF/\aF<=1024)->R none 1 σ)
 (hR:∀(n:Nat),aF=(n:Int)->1<=n->n<=1024->∀σ' sb ms,bO σ σ'->BH σ' σ.size n jB sb ms->(∀b,fp σ.size sb ms b->σ.size<=b)->R (some ⟨σ.size,0,none⟩) 0 σ'):Q9.c aF σ R:=by
 refine Q9.o ?_;refine bZ.intro (cI (λg=>cJ rfl (hbad O)) λg=>?_);refine cI (λh2=>hbad O) λh2=>?_;obtain⟨n,rfl⟩:=zn (show 0<=aF by omega);have M:1<=n:=by omega
 have P:n<=1024:=by omega
 unfold Nw;have e0:=HE σ (.cells #[.int .i64 (n:Int),.slice none 0 0] 52 (0,0));refine ZV (a:=bN) (λt h=>∃(j:Nat) (s:Sl) (ms:List Nat),t=((2^j:Nat):Int)/\2^j<=2*n/\bO σ h/\σ.size<h.size/\Part σ.size h σ.size n j s ms/\∀m∈ms,dN h m .i64 .b []) (λt _=>2*n+1-t.toNat)
  ⟨0,⟨none,0,0⟩,[],rfl,by simp;omega,Ext.push _ _ _,by simp,⟨rfl,rfl,bX.push _ _ _,Own.nil _ _ _,by simp,by simp⟩,by simp⟩ ?_
 rintro t h ⟨j,s,ms,rfl,K,N,U,d,w⟩;have hj:j<=11:=by
  apply Classical.byContradiction;intro hc;have:2^12<=2^j:=sC aB O;omega
 have W:=nM j;refine cI (λaa=>?_) (λG=>?_)
 ·refine aG ?_;rw[add_lit,zI];refine rm d.hdS ?_;have C:=HE h (.map #[] 0);have Y:(h.push (.map #[] 0)).size=h.size+1:=by simp
  have D:=d.bK C;refine D.step (m:=h.size) O O rfl O O O (λy=>by have:=(d.new _ y).2.2;omega) (λu=>by have:=(d.own.kY u).2;omega) O O λs' h' H hl u r=>?_;refine aG (u.Rk aA λh2 z L=>?_);have J:=r h2 z L;have A:bO σ h2:=by
   refine Ext.fresh (Ext.fresh (N.trans C) H λi B=>(d.own.kY B).1.1) (Ext.eR (F:=(· = σ.size)) z rfl) λi B=>?_;rw[B];exact zD _
  refine cA (m:=2^(j+1)) (by rw[qg];omega) (by rw[qg];omega) ⟨⟨j+1,s',ms++[h.size],rfl,by rw[qg];omega,A,?_,J,?_⟩,by rw[qg];omega⟩
  ·have:=z.1;have:=H.1;omega
  ·intro m y;have tn:∀{m:Nat},dN (h.push (.map #[] 0)) m .i64 .b []->¬Hu s m->m≠σ.size->dN h2 m .i64 .b []:=λhM V E=>HW z (H.gS hM V) E;rcases zU.1 y with g|g
   ·exact tn (C.gS (w m g) id) (λu=>(d.own.kY u).1.2.2 g) (d.new m g).2.1
   ·simp at g;subst g;exact tn (dN.push _ _ _) (λu=>by have:=(d.own.kY u).2;omega) O
 ·have p:0<j:=by
   rcases AF j with e|e
   ·subst e;simp at G;omega
   ·exact e
  obtain⟨sb,X,Q⟩:=d.done (S:=jB) (zD _) p M P K O (λx Z=>by simp[jB]at Z) λk m y=>⟨[],w m (zE y),WgE k⟩;exact hR n rfl M P h sb ms N X Q
end Go.Bu
namespace Go.Proofs
open Go.Vc
set_option maxRecDepth 100000
def X9.h:Hn:=.q .o6 (.q (.q .o3 (.c (.q .o6 .l) .l)) (.q .o5 (.q (.q .o6 (.k (.loop [(8,.I),(9,.I),(10,.I),(11,.I),(28,.I)] (.q .o1 (.q (.c .l .l) (.q (.k (.q .o6 (.q .o7 (.q .fR (.q (.cV (.held true [] (.tk [0,1,2,3,4,5,6,7,10,11] (.all [(8,.tk [9,12,13,14] (.done))])))) (.q (.cV (.held true [] (.tk [0,1,2,3,4,5,6,7,9,10] (.all [(8,.tk [11,12,13] (.done))])))) (.q .o6 .o7))))))) .o2)))))) (.q (.q .o5 (.k (.loop [(12,.I)] (.q (.cV (.seq [.it .i64 bN,.op])) (.q (.c .l .l) (.k (.q (.cV (.seq [.it .i64 bN,.op,.op])) .o4))))))) (.q (.o 16) .l)))))
theorem X9.o {a:R2}{b:Hp}{c:Int->Int->Int->Int->Int->Int->Hp->Prop}(d:WF.c a b λd e=>If (!d) (c 0 0 0 0 0 0 e) (bE a 0 e λg=>Xb [bN,bN,bN,bN,bN] (λh=>h 0 0 0 0 0 e) λi (j:Int) (k:Int) (l:Int) (m:Int) (n:Int) o=>If (n<((g.len:Nat):Int)) (Ix g.a g.len n 3 λp=>aQ p 0 o λq=>aQ p 1 o λr=>aQ p 2 o λs=>aV #[.I 0,.I 0,.I 0] 31 o λt u=>aR t 0 (.I q) u λv=>aR t 1 (.I r) v λw=>aR t 2 (.I s) w λx=>aQ t 0 x λy=>aQ t 1 x λz=>aQ t 2 x λaa=>Qr.c y z aa x λab ac ad=>bE a 5 ad λaf=>Ix af.a af.len n 1 λag=>fY ag ad λah=>X6.c ah ad λai aj=>dT aj λak=>bQ a λal=>aT ak al 6 λam=>Ix am.a am.len n 1 λan=>gW ak .p an λ(ao:R2)=>aS ak t 0 λap=>W4.c ao aj λaq ar=>And (ak ar) <| bL (((aq.len:Nat):Int)*ap) λau=>bL (j+au) λav=>dT ar λaw=>bQ a λax=>aT aw ax 5 λay=>Ix ay.a ay.len n 1 λaz=>gW aw .p az λ(a0:R2)=>aS aw t 0 λa1=>YD.c a0 ar λa2 a3=>And (aw a3) <| bL (a2*a1) λa4=>bL (k+a4) λa5=>bL (((ai.len:Nat):Int)*ab) λa6=>bL (l+a6) λa7=>aQ t 1 a3 λa8=>bL (((ai.len:Nat):Int)*a8) λa9=>bL (m+a9) λba=>bL (n+1) λbb=>i av a5 a7 ba bb a3) (bI a 7 o λbd=>wu .i64 bN bd o λbe bf=>
 Xb [bN] (λbg=>bg 0 bf) λbh (bi:Int) bj=>wB .i64 bN be bj (bF a 2 bj λbl=>Zk.c bl bj λbm bn=>c j k l m bi bm bn) (λbo bp bq=>wo .i64 bN be bq λbr bs=>bL (bi+bs) λbt=>bh bt bq)))):X9.c a b c:=Wa Tryz.func74 (x:=X9.h) (R0 d)
def Y7.h:Hn:=.q .o3 (.q (.q .o3 (.c (.q .o3 .l) .l)) (.q (.q .o2 (.c (.q .o3 .l) .l)) (.q .o8 (.q (.q .o2 (.c (.q .o3 .l) .l)) (.kX [] (.q .o2 (.c (.q .o5 (.k (.loop [] (.q (.cV (.seq [.it .i64 bN,.op])) (.q (.c .l .l) (.k (.q (.cV (.seq [.it .i64 bN,.op,.op,.op,.op])) (.q .o3 (.q (.cV (.seq [.op,.op,.op,.op,.dB true 5 (RI.ops 5)])) (.c (.q .o5 .l) .l)))))))))) .l)) (.q (.o 15) (.q (.q .o2 (.c (.q .o4 .l) .l)) (.q .o6 .l))))))))
theorem Y7.o {a:R2}{b:Int}{c:Hp}{d:Int->Int->Int->Hp->Prop}(e:WF.c a c λe f=>If (!e) (d 0 0 5 f) (If (b<0) (d 0 0 8 f) (bF a 4 f λh=>Nz 256<|bL (b.tdiv 256) λi=>Zm.c h i f λj k=>If (j==0) (d 0 0 8 k) (Jn [] (λl=>bE a 5 l λn=>bL (j-1) λo=>Ix n.a n.len o 1 λp=>fY p l λq=>YB.c q b l λr s t=>If (s != 0) (d 0 0 s t) (bL (j-1) λu=>d u r 0 t)) λv=>If (j==41) (bI a 7 k λx=>wu .i64 bN x k λy z=>Xb [] (λaa=>aa z) λab ac=>wB .i64 bN y ac (v ac) (λad ae af=>wo .i64 bN y af λag ah=>Nz 256<|bL (b.tdiv 256) λai=>bZ (λaj ak=>If aj (bL (ag*256) λal=>d (-1) al 0 ak) (ab ak)) λam=>If (ag<=ai) (bL (ag+ah) λan=>am (decide (ai<an)) af) (am false af))) (v k))))):Y7.c a b c d:=Wa Tryz.func76 (x:=Y7.h) (R0 e)
def WF.h:Hn:=.q .o1 (.q (.cV (.seq [.op,.op,.op,.dB true 5 (RI.ops 5),.op])) .l)
theorem WF.o {a:R2}{b:Hp}{c:aO}(d:bZ (λd e=>c d e) λf=>If (!a.isNone) (bF a 1 b λh=>f (!h.isNone) b) (f false b)):WF.c a b c:=Wa Tryz.func106 (x:=WF.h) (R0 d)
def Zb.h:Hn:=.q .o1 (.q (.cV (.seq [.op,.op,.op,.dB true 7 (RI.ops 7),.op])) .l)
theorem Zb.o {a:R2}{b:Int}{c:Hp}{d:aO}(e:WF.c a c λe f=>bZ (λg h=>d g h) λi=>If e (bF a 3 f λk=>X8.c k b f λl m=>i (decide (l>0)) m) (i false f)):Zb.c a b c d:=Wa Tryz.func113 (x:=Zb.h) (R0 e)
def Ka.h:Hn:=.q .o2 (.q (.q .o3 .aJ) (.q .o3 (.q (.q (.cV (.seq [.op,.op,.op,.dB false 3 (RI.ops 3),.op,.dB false 2 [.op,.op],.op,.dB false 2 [.op,.op]])) .aJ) (.q .o8 (.q .o9 (.q .o9 (.q (.q .o3 (.k (.loop [(61,.I)] (.q .o1 (.q (.c .l .l) (.q (.k (.q .o4 (.q .o7 (.q .o9 (.cV (.iH true [18,21] [] (.tk [0,1,2,3,4,5,6,9,10,11,12,13] (.all [(7,.all [(8,.all [(14,.all [(15,.take 16 (.take 17 (.all [(18,.take 19 (.take 20 (.all [(21,.done)])))])))])]),(14,.all [(8,.all [(15,.take 16 (.take 17 (.all [(18,.take 19 (.take 20 (.all [(21,.done)])))])))])])]),(14,.all [(7,.all [(8,.all [(15,.take 16 (.take 17 (.all [(18,.take 19 (.take 20 (.all [(21,.done)])))])))])])])])))))))) .o2)))))) (.q .o3 .l))))))))
theorem Ka.o {a:Sl}{b:R2}{c:Int}{d:Hp}{e:Option Addr->Int->Hp->Prop}(f:ZH.c a d λf g=>If (!f) (e none 2 g) (Xt.c b g λh i=>bZ (λj k=>bZ (λl m=>bZ (λn o=>If n (e none 1 o) (Wc.c a o λp q=>Qj.c q λr s=>Nw (.map #[] 0) s λt u=>aV #[.slice p.a p.len p.cap,.pointer b,.pointer none,.pointer none,.pointer r,.slice none 0 0,.slice none 0 0,.map (some t.block)] 177 u λv w=>Q9.c h w λx y z=>bQ (some v) λaa=>aR aa 2 (.pointer x) z λab=>KJ.c h ab λac ad ae=>bQ (some v) λaf=>aR af 3 (.pointer ac) ae λag=>Xb [bN] (λah=>ah 0 ag) λai (aj:Int) ak=>If (aj<((a.len:Nat):Int)) (Ix a.a a.len aj 3 λal=>aQ al 0 ak λam=>aQ al 1 ak λan=>aQ al 2 ak λao=>aV #[.I 0,.I 0,.I 0] 31 ak λap aq=>aR ap 0 (.I am) aq λar=>aR ap 1 (.I an) ar λau=>aR ap 2 (.I ao) au λav=>aQ ap 0 av λaw=>aQ ap 1 av λax=>aQ ap 2 av λay=>Qg.c aw ax ay av λaz a0 a1=>aQ ap 2 a1 λa2=>Z1.c a2 c a1 λa3 a4 a5=>Jn [] (λa6=>bL (aj+1) λa7=>ai a7 a6) λa8=>dT a5 λa9=>bQ (some v) λba=>aT a9 ba 5 λbb=>bQ (some v) λbc=>aT a9 bc 6 λbd=>(aV #[.pointer az] 178 a5 λbe bf=>And (a9 bf) <| (App bb 1 8 178 [.pointer none] ⟨some be,1,1⟩ bf λbg bh=>And (a9 bh) <| aV #[.pointer a3] 180 bh λbi bj=>And (a9 bj) <| App bd 1 8 180 [.pointer none] ⟨some bi,1,1⟩ bj λbk bl=>And (a9 bl) <|
 bQ (some v) λbm=>aR bm 5 (.slice bg.a bg.len bg.cap) bl λbn=>bQ (some v) λbo=>aR bo 6 (.slice bk.a bk.len bk.cap) bn λbp=>a8 bp) ∧ (aV #[.pointer a3] 180 bf λbq br=>And (a9 br) <| App bb 1 8 178 [.pointer none] ⟨some be,1,1⟩ br λbs bt=>And (a9 bt) <| App bd 1 8 180 [.pointer none] ⟨some bq,1,1⟩ bt λbu bv=>And (a9 bv) <| bQ (some v) λbw=>aR bw 5 (.slice bs.a bs.len bs.cap) bv λbx=>bQ (some v) λbz=>aR bz 6 (.slice bu.a bu.len bu.cap) bx λb0=>a8 b0)) ∧ (aV #[.pointer a3] 180 a5 λb1 b2=>And (a9 b2) <| aV #[.pointer az] 178 b2 λb3 b4=>And (a9 b4) <| App bb 1 8 178 [.pointer none] ⟨some b3,1,1⟩ b4 λb5 b6=>And (a9 b6) <| App bd 1 8 180 [.pointer none] ⟨some b1,1,1⟩ b6 λb7 b8=>And (a9 b8) <| bQ (some v) λb9=>aR b9 5 (.slice b5.a b5.len b5.cap) b8 λca=>bQ (some v) λcb=>aR cb 6 (.slice b7.a b7.len b7.cap) ca λcc=>a8 cc)) (e (some v) 0 ak))) λcd=>If l (cd true m) (cd (decide (c>8)) m)) λce=>If j (ce true k) (ce (decide (c<0)) k)) λcf=>If (h<32) (cf true i) (Nz 16 <| cf ((h.tmod 16) != 0) i))):Ka.c a b c d e:=Wa Tryz.func125 (x:=Ka.h) (R0 f)
def Xn.h:Hn:=.q .o2 (.q (.k (.q .o4 (.c .aL (.q .o3 .aJ)))) (.q (.q .o6 (.k (.loop [(28,.I)] (.q .o1 (.q (.c .l .l) (.q (.k (.q .o3 .o4)) .o2)))))) (.q (.o 11) (.q (.q .o2 (.c (.q .o3 .l) .l)) (.q .o1 (.q (.cV (.tail 10 (RI.ops 10) [.op,.op])) (.q (.q .o3 (.k (.loop [(10,.I),(62,.I)] (.q .o1 (.q (.c .l .l) (.q (.k (.q .o4 (.q (.q .o3 (.k (.loop [(68,.I)] (.q .o1 (.q (.c .l .l) (.q (.k (.q .o3 .o6)) .o2)))))) .o5))) .o2)))))) (.q .o3 .l))))))))
theorem Xn.o {a:R2}{b:Int}{c:Hp}{d:Int->Int->Hp->Prop}(e:WF.c a c λe f=>If (!e) (d 0 5 f) (If (b<0) (d 0 1 f) (bE a 5 f λh=>Xb [bN] (λi=>i 0 f) λj (k:Int) l=>If (k<((h.len:Nat):Int)) (Ix h.a h.len k 1 λm=>fY m l λn=>WZ.c n l λo p=>Xi.c a o p λq=>bL (k+1) λr=>j r q) (bF a 3 l λt=>Yy.c t b l λu v w=>If (v != 0) (d 0 v w) (bQ a λx=>aY x 3 w λy=>bF a 1 w λaa=>Nw (.cells #[.func (.func 192) #[.pointer y] #[],.func (.func 193) #[.pointer aa] #[]] 54 (0,0)) w λab ac=>Xb [bN,bN] (λad=>ad 0 0 ac) λae (af:Int) (ag:Int) ah=>If (ag<((u.len:Nat):Int)) (Ix u.a u.len ag 2 λai=>aQ ai 0 ah λaj=>aQ ai 1 ah λak=>aV #[.I 0,.I 0] 92 ah λal am=>aR al 0 (.I aj) am λan=>aR al 1 (.I ak) an λao=>Xb [bN] (λap=>ap 0 ao) λaq (ar:Int) au=>If (ar<((2:Nat):Int)) (Ix (some ab) 2 ar 1 λav=>Ep av au λaw=>aQ al 0 au λax=>aQ al 1 au λay=>V2 Tryz.prog aw [.I ax,.I ay] [.I] au λaz a0=>bL (ar+1) λa1=>aq a1 a0) (aQ al 1 au λa2=>bL (af+a2) λa3=>bL (ag+1) λa4=>ae a3 a4 au)) (d af 0 ah)))))):Xn.c a b c d:=Wa Tryz.func134 (x:=Xn.h) (R0 e)
def Yh.h:Hn:=.q .o1 (.q (.q .o3 .aK) (.q .o6 (.q (.q .o3 (.k (.loop [(16,.I)] (.q .o1 (.q (.c .l .l) (.q (.k (.q .o3 (.q .o6 (.q .o7 .o7)))) .o2)))))) (.q .o3 .l))))
theorem Yh.o {a:R2}{b:Hp}{c:aN}(d:WF.c a b λd e=>If (!d) (c 0 e) (bF a 3 e λg=>Yw.c g e λh i=>Xb [bN] (λj=>j 0 i) λk (l:Int) m=>If (l<((h.len:Nat):Int)) (Ix h.a h.len l 1 λn=>bM n m λo=>bF a 3 m λq=>Xj.c q o m λr s=>bF a 2 s λu=>bL (o*16) λv=>XA.c u v 16 s λw x=>bF a 1 x λz=>bL (o*16) λaa=>YF.c z aa 16 x λab ac=>bL (l+1) λad=>k ad ac) (c ((h.len:Nat):Int) m))):Yh.c a b c:=Wa Tryz.func135 (x:=Yh.h) (R0 d)
def Y6.h:Hn:=.q (.q .o3 (.c .l .l)) (.q .o6 (.k (.loop [(14,.I)] (.q .o1 (.q (.c .l .l) (.q (.k (.q .o5 (.q .o4 (.k (.loop [(22,.I)] (.q .o1 (.q (.c .l .l) (.q (.k (.q .o3 .o4)) .o2)))))))) .o2))))))
theorem Y6.o {a:R2}{b:Hp}{c:aP}(d:WF.c a b λd e=>If (!d) (c e) (bE a 6 e λg=>Xb [bN] (λh=>h 0 e) λi (j:Int) k=>If (j<((g.len:Nat):Int)) (Ix g.a g.len j 1 λl=>fY l k λm=>Xo.c m k λn o=>Xb [bN] (λp=>p 0 o) λq (r:Int) s=>If (r<((n.len:Nat):Int)) (Ix n.a n.len r 1 λt=>kG t s λu=>WE.c a j u s λv w=>bL (r+1) λx=>q x w) (bL (j+1) λy=>i y s)) (c k))):Y6.c a b c:=Wa Tryz.func136 (x:=Y6.h) (R0 d)
def WB.h:Hn:=.q .o2 (.q (.q .o4 (.q .o2 (.c (.q .o3 .l) .l))) (.q (.o 12) .l))
theorem WB.o {a:R2}{b:Int}{c:Hp}{d:Sl->Int->Hp->Prop}(e:WY.c a b c λe f=>If (e != 0) (d ⟨none,0,0⟩ e f) (bE a 6 f λh=>Ix h.a h.len b 1 λi=>fY i f λj=>WD.c j f λk l m=>d k l m)):WB.c a b c d:=Wa Tryz.func174 (x:=WB.h) (R0 e)
def WG.h:Hn:=.q .o2 (.q (.q .o4 (.q .o2 (.c (.q .o3 .l) .l))) (.q (.o 13) .l))
theorem WG.o {a:R2}{b c:Int}{d:Hp}{e:Sl->Int->Hp->Prop}(f:WY.c a b d λf g=>If (f != 0) (e ⟨none,0,0⟩ f g) (bQ a λh=>aX h 5 g λi=>Ix i.a i.len b 1 λj=>fY j g λk=>Xf.c k c g λl m n=>e l m n)):WG.c a b c d e:=Wa Tryz.func176 (x:=WG.h) (R0 f)
def Ys.h:Hn:=.q .o1 (.q (.q .o4 (.q .o2 .aJ)) (.q (.o 17) (.q (.q .o2 .aJ) (.q .fR .l))))
theorem Ys.o {a:R2}{b:Int}{c:Hp}{d:aN}(e:WY.c a b c λe f=>If (e != 0) (d e f) (bE a 0 f λh=>Ix h.a h.len b 3 λi=>aQ i 1 f λj=>bL (b+1) λk=>YS.c a j 1 k f λl m n=>If (m != 0) (d m n) (bQ a λo=>aX o 5 n λp=>Ix p.a p.len b 1 λq=>fY q n λr=>Y3.c r l n λs t=>d s t))):Ys.c a b c d:=Wa Tryz.func177 (x:=Ys.h) (R0 e)
def WT.h:Hn:=.q .o2 (.q (.k (.q .o4 (.c .aL (.q (.cV (.seq [.op,.op,.op,.dB false 2 [.op,.op],.op,.dB false 2 [.op,.op],.op,.dB false 2 [.op,.op],.op,.dB false 5 (RI.ops 5),.op])) .aJ)))) (.q .o9 (.q (.q .o2 (.c (.q .o3 .l) .l)) (.q .o7 (.q .o3 .l)))))
theorem WT.o {a:R2}{b c:Int}{d:Hp}{e:Int->Int->Hp->Prop}(f:WF.c a d λf g=>If (!f) (e 0 5 g) (bZ (λh i=>bZ (λj k=>bZ (λl m=>bZ (λn o=>If n (e 0 1 o) (YS.c a b c 41 o λp q r=>If (q != 0) (e 0 q r) (bI a 7 r λt=>nO .i64 bN t p b r λu=>e p 0 u))) λv=>If l (v true m) (bL (c-1) λw=>v ((bits .and .i64 c w) != 0) m)) λx=>If j (x true k) (x (decide (c>16)) k)) λy=>If h (y true i) (y (decide (c<1)) i)) λz=>If (b<1) (z true g) (z (decide (b>64)) g))):WT.c a b c d e:=Wa Tryz.func179 (x:=WT.h) (R0 f)
def WV.h:Hn:=.q .o1 (.q (.q .o3 .aK) (.q (.o 11) (.q (.q .o2 .aK) (.q .o6 (.q .o6 .aM)))))
theorem WV.o {a:R2}{b:Int}{c:Hp}{d:aN}(e:WF.c a c λe f=>If (!e) (d 5 f) (bI a 7 f λh=>Lk .i64 bN h b f λi=>If (!i.isSome) (d 8 f) (bI a 7 f λk=>pD .i64 bN k b f λl=>aV #[.I b,.I (i.getD 0)] 92 l λm n=>Xi.c a ⟨some m,1,1⟩ n λo=>d 0 o))):WV.c a b c d:=Wa Tryz.func187 (x:=WV.h) (R0 e)
def Xi.h:Hn:=.q .o3 (.k (.loop [(8,.I)] (.q .o1 (.q (.c .l .l) (.q (.k (.q .o4 (.q (.cV (.tail 8 (RI.ops 8) [.op])) (.q (.cV (.tail 8 (RI.ops 8) [.op])) (.cV (.tail 8 (RI.ops 8) [.op])))))) .o2)))))
theorem Xi.o {a:R2}{b:Sl}{c:Hp}{d:aP}(e:Xb [bN] (λe=>e 0 c) λf (g:Int) h=>If (g<((b.len:Nat):Int)) (Ix b.a b.len g 2 λi=>aQ i 0 h λj=>aQ i 1 h λk=>aV #[.I 0,.I 0] 92 h λl m=>aR l 0 (.I j) m λn=>aR l 1 (.I k) n λo=>bF a 4 o λq=>aQ l 0 o λr=>aQ l 1 o λs=>XY.c q r s o λt u=>bF a 3 u λw=>aQ l 0 u λx=>aQ l 1 u λy=>XD.c w x y u λz aa=>bF a 2 aa λac=>aQ l 0 aa λad=>aQ l 1 aa λae=>Yf.c ac ad ae aa λaf ag=>bL (g+1) λah=>f ah ag) (d h)):Xi.c a b c d:=Wa Tryz.func189 (x:=Xi.h) (R0 e)
def WE.h:Hn:=.q .o1 (.q (.q .o4 (.q .o2 .aJ)) (.q (.o 14) (.q (.q .o2 .aJ) (.q .o3 .aM))))
theorem WE.o {a:R2}{b:Int}{c:Sl}{d:Hp}{e:aN}(f:WY.c a b d λf g=>If (f != 0) (e f g) (bQ a λh=>aX h 5 g λi=>Ix i.a i.len b 1 λj=>fY j g λk=>Y9.c k c g λl m n=>If (m != 0) (e m n) (Xi.c a l n λo=>e 0 o))):WE.c a b c d e:=Wa Tryz.func199 (x:=WE.h) (R0 f)
def WY.h:Hn:=.q .o1 (.q (.k (.q .o4 (.c .aM (.q (.cV (.seq [.op,.op,.op,.dB false 7 (RI.ops 7),.op])) .aK)))) .aM)
theorem WY.o {a:R2}{b:Int}{c:Hp}{d:aN}(e:WF.c a c λe f=>If (!e) (d 5 f) (bZ (λg h=>If g (d 1 h) (d 0 h)) λi=>If (b<0) (i true f) (bE a 0 f λk=>i (decide (b≥((k.len:Nat):Int))) f))):WY.c a b c d:=Wa Tryz.func212 (x:=WY.h) (R0 e)
def YS.h:Hn:=.q .o2 (.q (.o 12) (.kX [(10,.I),(11,.I)] (.q .o2 (.c (.q .o1 (.q (.k (.loop [(12,.I)] (.q (.q .o5 (.c .l .l)) (.k .o3)))) (.q (.q .o4 .aJ) (.o 12)))) .l)) (.q (.q .o2 (.c (.q .o3 .l) .l)) (.q .o7 (.q .o8 (.q .o3 .l))))))
theorem YS.o {a:R2}{b c d:Int}{e:Hp}{f:Int->Int->Hp->Prop}(g:bQ a λg=>aY g 2 e λh=>X0.c h b c e λi j k=>Jn [bN,bN] (λ(l:Int) (m:Int) n=>If (m != 0) (f 0 m n) (bQ a λo=>aY o 3 n λp=>XO.c p l b n λq r=>bF a 4 r λt=>Yk.c t l b d r λu v=>f l 0 v)) λw=>If (j==6) (Xb [bN] (λx=>x 16 k) λy (z:Int) aa=>If (z<(if c>b then c else b)) (bL (z*2) λab=>y ab aa) (Y4.c a z aa λac ad=>If (!ac) (f 0 6 ad) (bF a 2 ad λaf=>X0.c af b c ad λag ah ai=>w ag ah ai))) (w i j k)):YS.c a b c d e f:=Wa Tryz.func215 (x:=YS.h) (R0 g)
def WL.h:Hn:=.q .o2 (.q (.q .o4 (.q .o2 (.c (.q .o3 .l) .l))) (.q (.q (.o 11) .aJ) (.q (.q .o3 (.k (.loop [(32,.I)] (.q .o1 (.q (.c .l .l) (.q (.k (.q .o3 (.q (.o 14) (.q (.cV (.seq [.op,.op,.op,.dB false 2 [.op,.op]])) .aJ)))) .o2)))))) (.q (.o 13) .l))))
theorem WL.o {a:R2}{b:Int}{c:Sl}{d:Hp}{e:Bool->Int->Hp->Prop}(f:WY.c a b d λf g=>If (f != 0) (e false f g) (bQ a λh=>aX h 0 g λi=>Ix i.a i.len b 3 λj=>aQ j 2 g λk=>If (((c.len:Nat):Int) != k) (e false 1 g) (Xb [bN] (λl=>l 0 g) λm (n:Int) o=>If (n<((c.len:Nat):Int)) (Ix c.a c.len n 1 λp=>bM p o λq=>bE a 5 o λs=>Ix s.a s.len b 1 λt=>fY t o λu=>W9.c u q o λv w x=>bZ (λy z=>If y (e false 8 z) (bL (n+1) λaa=>m aa z)) λab=>If (w != 0) (ab true x) (ab (!v) x)) (bE a 6 o λad=>Ix ad.a ad.len b 1 λae=>fY ae o λaf=>Xd.c af c o λag ah ai=>e ag ah ai)))):WL.c a b c d e:=Wa Tryz.func222 (x:=WL.h) (R0 f)
def Y4.h:Hn:=.q .o1 (.q (.q .o2 (.k (.loop [(5,.I)] (.q (.q .o9 (.c .l .l)) (.q (.k (.q (.q .o8 (.c .l .l)) (.q (.q .o3 (.k (.loop [(6,.I)] (.q (.q .o6 (.c .l .l)) (.q (.k .o6) .o3))))) (.q .o7 .aM)))) .o4))))) .aM)
theorem Y4.o {a:R2}{b:Int}{c:Hp}{d:aO}(e:Xb [bN] (λe=>e b c) λf (g:Int) h=>bL (g+b) λi=>bF a 1 h λk=>Xt.c k h λl m=>If (i<=l) (bF a 1 m λo=>Zp.c o g b m λp q=>If (p != 0) (bL (g+b) λr=>f r q) (Nz 16<|bL (g.tdiv 16) λs=>Xb [bN] (λt=>t s q) λu (v:Int) w=>bL (g+b) λx=>Nz 16<|bL (x.tdiv 16) λy=>If (v<y) (bF a 3 w λaa=>Ye.c aa v w λab ac=>bL (v+1) λad=>u ad ac) (bF a 2 w λaf=>Yf.c af g b w λag ah=>d true ah))) (d false m)):Y4.c a b c d:=Wa Tryz.func253 (x:=Y4.h) (R0 e)
end Go.Proofs
namespace Go.Ar
open Go Go.Vc Go.Proofs
open Go.Bu (Zg QW Zv jH)
inductive Lb where
 | hd|dH|free|p9|own|dJ|cL|runs
 | cB (k:Nat)
 | cE (k:Nat)
 deriving DecidableEq
structure Lay where
 p:Nat
 hs:Nat
 fr:Nat
 tr:Nat
 op:Nat
 rn:Nat
 dH:Sl
 dJ:Sl
 cL:Sl
 fM:List Nat
 gF:List Nat
def nQ (Y:Lay):List Value:=[.slice Y.dH.a Y.dH.len Y.dH.cap,.pointer (some ⟨Y.hs,0,none⟩),.pointer (some ⟨Y.fr,0,none⟩),.pointer (some ⟨Y.tr,0,none⟩),.pointer (some ⟨Y.op,0,none⟩),.slice Y.dJ.a Y.dJ.len Y.dJ.cap,.slice Y.cL.a Y.cL.len Y.cL.cap,.map (some Y.rn)]
def gA (tb:List bY):List Value:=tb.flatMap λc=>[.int .i64 (c.size:Int),.int .i64 (c.aF:Int),.int .i64 (c.batch:Int)]
def eY (l:List Nat):List Value:=l.map λb=>.pointer (some ⟨b,0,none⟩)
def iS (l:List (Nat×Nat)):List (Int×Int):=l.map λr=>((r.1:Int),(r.2:Int))
def xe (p n:Nat)(S:Nat->Bool):Hp->Rg->Prop:=λσ F=>∃sb ms,Go.Bu.BH σ p n S sb ms/\∀b,Go.Bu.fp p sb ms b->F b
def qj (p:Nat)(st:List Nat):Hp->Rg->Prop:=λσ F=>∃q,gL σ p q st/\F p/\F q
def mU (p:Option Nat)(c:Option bY)(ss:Option (List cH)):Hp->Rg->Prop:=λσ F=>match p,c,ss with
 | some p,some c,some ss=>∃ps,fC σ F p c ps ss
 | _,_,_=>True
def oQ (p:Option Nat)(c:Option bY)(room:Nat)(t:Option fT):Hp->Rg->Prop:=λσ F=>match p,c,t with
 | some p,some c,some t=>iT σ F p c.batch room t
 | _,_,_=>True
def AC (A:AR)(Y:Lay)(T:Nat->Hp->Rg->Prop):Lb->Hp->Rg->Prop
 | .hd=>iW Y.p (nQ Y)
 | .dH=>cT Y.dH 3 (gA A.tb)
 | .free=>xe Y.fr A.n A.S
 | .p9=>qj Y.tr A.st
 | .own=>λσ F=>kT σ F Y.op A.ow
 | .dJ=>bS Y.dJ 1 (eY Y.fM)
 | .cL=>bS Y.cL 1 (eY Y.gF)
 | .runs=>lQ Y.rn .i64 bN (iS A.runs)
 | .cB k=>mU Y.fM[k]? A.tb[k]? A.cB[k]?
 | .cE k=>T k
def cF (A:AR)(Y:Lay)(k:Nat):Hp->Rg->Prop:=oQ Y.gF[k]? A.tb[k]? A.room A.cE[k]?
theorem xe.loc (p n:Nat)(S:Nat->Bool):dS (xe p n S):=by
 rintro σ σ' F G ⟨d,j,h,r⟩ x s;have g:∀b,Go.Bu.fp p d j b->b<σ.size:=λb a=>by
  unfold Go.Bu.fp at a;rcases zR.1 a with h1|h1
  ·obtain⟨c,i⟩:=h.hd;rw[h1];exact i.lt
  rcases zR.1 h1 with h2|h2
  ·obtain⟨c,i⟩:=h.row;rw[h2];exact i.lt
  ·obtain⟨k,u⟩:=zM h2;obtain⟨B,w,_⟩:=h.maps k b u;exact w.lt
 have e:Ext (λb=>¬Go.Bu.fp p d j b) σ σ':=⟨x,λb a m=>(s b a (r b (Classical.not_not.1 m))).2⟩;exact⟨d,j,h.bU e λb a y=>y a,λb a=>(s b (g b a) (r b a)).1⟩
theorem qj.loc (p:Nat)(st:List Nat):dS (qj p st):=by
 rintro σ σ' F G ⟨q,h,j,i⟩ r a;have e:Ext (λb=>b≠p/\b≠q) σ σ':=⟨r,λb m s=>by
  by_cases h1:b=p
  ·subst h1;exact(a b m j).2
  ·have d:b=q:=Classical.byContradiction λd=>s ⟨h1,d⟩;subst d;exact(a b m i).2⟩
 exact⟨q,h.bU e (λg=>g.1 rfl) (λg=>g.2 rfl),(a p h.lt.1 j).1,(a q h.lt.2 i).1⟩
theorem mU.loc (p:Option Nat)(c:Option bY)(ss:Option (List cH)):dS (mU p c ss):=by
 rintro σ e F G h a d;unfold mU at *;split
 ·simp only at h;obtain⟨b,h⟩:=h;exact⟨b,fC.loc _ _ _ _ h a d⟩
 ·trivial
theorem oQ.loc (p:Option Nat)(c:Option bY)(room:Nat)(t:Option fT):dS (oQ p c room t):=by
 rintro σ d F G h a b;unfold oQ at *;split
 ·exact iT.loc _ _ _ _ h a b
 ·trivial
theorem AC.loc {A:AR}{Y:Lay}{T:Nat->Hp->Rg->Prop}(hT:∀k,dS (T k)):∀i,dS (AC A Y T i)
 | .hd=>iW.loc _ _
 | .dH=>cT.loc _ _ _
 | .free=>xe.loc _ _ _
 | .p9=>qj.loc _ _
 | .own=>kT.loc
 | .dJ=>bS.loc _ _ _
 | .cL=>bS.loc _ _ _
 | .runs=>lQ.loc _ _ _ _
 | .cB k=>mU.loc _ _ _
 | .cE k=>hT k
theorem cF.loc {A:AR}{Y:Lay}(k:Nat):dS (cF A Y k):=oQ.loc _ _ _ _
structure eZ (A:AR) (Y:Lay):Prop where
 c:Y.fM.length=A.tb.length
 t:Y.gF.length=A.tb.length
 cB:A.cB.length=A.tb.length
 cE:A.cE.length=A.tb.length
 qZ:1<=A.tb.length
 sf:A.tb.length<=40
 n1:32<=A.n
 n2:A.n<=1024
 n3:A.n%16=0
 st:A.st.length=A.n
 room:A.room<=8
 ok:∀c∈A.tb,c.ok
structure cX (σ:Hp) (F:Rg) (Y:Lay) (A:AR) (T:Nat->Hp->Rg->Prop):Prop where
 lay:eZ A Y
 tl:∀k,dS (T k)
 sep:Sep (AC A Y T) σ F
def AH (σ:Hp)(F:Rg)(p hs:Nat)(A:AR):Prop:=∃Y:Lay,Y.p=p/\Y.hs=hs/\cX σ F Y A (cF A Y)
variable {σ:Hp}{F:Rg}{p hs:Nat}{A:AR}{Y:Lay}{T:Nat->Hp->Rg->Prop}
theorem cX.loc:dS λσ F=>cX σ F Y A T:=λσ d F G h a b=>⟨h.lay,h.tl,Sep.loc (AC.loc h.tl) _ _ _ _ h.sep a b⟩
theorem AH.loc:dS λσ F=>AH σ F p hs A:=λσ e F G ⟨Y,d,b,h⟩ a hs=>⟨Y,d,b,cX.loc _ _ _ _ h a hs⟩
theorem cX.bK {σ':Hp}(h:cX σ F Y A T)(e:bO σ σ'):cX σ' F Y A T:=dS.bK cX.loc h e
theorem cX.hd (h:cX σ F Y A T):bX σ Y.p (nQ Y):=by
 obtain⟨G,d,b,a⟩:=h.sep.get .hd;exact a
theorem KT (tb:List bY):(gA tb).length=tb.length*3:=by
 induction tb with
 | nil=>rfl
 | cons x l ih=>simp only[gA,qb,zK,zN,pz]at *;omega
theorem HQ {tb:List bY}{i:Nat}{c:bY}(h:tb[i]?=some c):(gA tb)[3*i]?=some (.int .i64 (c.size:Int))/\(gA tb)[3*i+1]?=some (.int .i64 (c.aF:Int))/\(gA tb)[3*i+2]?=some (.int .i64 (c.batch:Int)):=by
 induction tb generalizing i with
 | nil=>simp at h
 | cons x l ih=>
  have e:gA (x::l)=[.int .i64 (x.size:Int),.int .i64 (x.aF:Int),.int .i64 (x.batch:Int)]++gA l:=by simp[gA]
  rw[e];cases i with
  | zero=>simp at h;subst h;simp
  | succ i=>
   have:=ih (i:=i) (by simpa using h);rw[show 3*(i+1)=3*i+3 by omega];simpa using this
theorem cX.r9 (h:cX σ F Y A T):Y.dH.len=A.tb.length:=by
 obtain⟨G,b,a⟩:=h.sep.get .dH;have:=a.1;rw[KT]at this;omega
theorem ya {s:Sl}{tb:List bY}(h:cT s 3 (gA tb) σ F){k d:Nat}{c:bY}(hc:tb[k]?=some c)(hd:d<3){K:Int->Prop}(hK:K (if d=0 then c.size else if d=1 then c.aF else c.batch:Nat)) :
 Ix s.a s.len (k:Int) 3 λa=>fL .i64 (a.add d) σ K:=by
 have g:=HQ hc;have i:(gA tb)[3*k+d]?=some (.int .i64 ((if d=0 then c.size else if d=1 then c.aF else c.batch:Nat):Int)):=by
  match d,hd with
  | 0,_=>exact g.1
  | 1,_=>exact g.2.1
  | 2,_=>exact g.2.2
 have p:=(cQ.1 hc).1;obtain⟨b,o,j,e⟩:=h.cell i;have m:=h.1;rw[KT]at m;rw[j];refine ix O O ?_;rw[add_lit,add_lit];refine rl ?_ hK;rw[show o+(k:Int).toNat*3+d=o+(3*k+d) by omega];exact e
theorem cX.Ao (h:cX σ F Y A T){k d:Nat}{c:bY}(hc:A.tb[k]?=some c)(hd:d<3){K:Int->Prop}(hK:K (if d=0 then c.size else if d=1 then c.aF else c.batch:Nat)) :
 Ix Y.dH.a Y.dH.len (k:Int) 3 λa=>fL .i64 (a.add d) σ K:=by
 obtain⟨G,e,b⟩:=h.sep.get .dH;exact ya b hc hd hK
theorem F2 {s:Sl}{l:List Nat}(h:cT s 1 (eY l) σ F){k q:Nat}(hq:l[k]?=some q){K:Option Addr->Prop}(hK:K (some ⟨q,0,none⟩)):Ix s.a s.len (k:Int) 1 λa=>fY a σ K:=by
 have i:=(cQ.1 hq).1;obtain⟨b,o,e,d⟩:=h.cell (j:=k) (v:=.pointer (some ⟨q,0,none⟩)) (by simp[eY,hq]);have g:=h.1;simp[eY]at g;rw[e];refine ix O O ?_;rw[add_lit];exact wL (by rw[show o+(k:Int).toNat*1=o+k by omega];exact d) hK
theorem cX.Aj (h:cX σ F Y A T):Y.dJ.len=A.tb.length:=by
 obtain⟨G,b,a⟩:=h.sep.get .dJ;have:=a.1;have:=h.lay.c;simp[eY]at *;omega
theorem cX.jX (h:cX σ F Y A T):Y.cL.len=A.tb.length:=by
 obtain⟨G,b,a⟩:=h.sep.get .cL;have:=a.1;have:=h.lay.t;simp[eY]at *;omega
theorem cX.mV (h:cX σ F Y A T){k q:Nat}(hq:Y.fM[k]?=some q){K:Option Addr->Prop}(hK:K (some ⟨q,0,none⟩)):Ix Y.dJ.a Y.dJ.len (k:Int) 1 λa=>fY a σ K:=by
 obtain⟨G,d,b⟩:=h.sep.get .dJ;exact F2 (bS.gE b) hq hK
theorem cX.sP (h:cX σ F Y A T){k q:Nat}(hq:Y.gF[k]?=some q){K:Option Addr->Prop}(hK:K (some ⟨q,0,none⟩)):Ix Y.cL.a Y.cL.len (k:Int) 1 λa=>fY a σ K:=by
 obtain⟨G,d,b⟩:=h.sep.get .cL;exact F2 (bS.gE b) hq hK
theorem cX.at_ (h:cX σ F Y A T){k:Nat}(hk:k<A.tb.length):∃c ss q t r,A.tb[k]?=some c/\A.cB[k]?=some ss/\Y.fM[k]?=some q/\A.cE[k]?=some t/\Y.gF[k]?=some r/\c.ok:=by
 have e:=h.lay.c;have d:=h.lay.t;have b:=h.lay.cB;have a:=h.lay.cE;exact⟨A.tb[k],A.cB[k],Y.fM[k],A.cE[k],Y.gF[k],by simp,by simp,by simp,by simp,by simp,h.lay.ok _ (zf hk)⟩
theorem Oy {k q:Nat}{c:bY}{ss:List cH}{G:Rg}(h1:Y.fM[k]?=some q)(h2:A.tb[k]?=some c)(h3:A.cB[k]?=some ss)(h:AC A Y T (.cB k) σ G):∃ps,fC σ G q c ps ss:=by
 simp only[AC]at h;rw[h1,h2,h3]at h;exact h
theorem cX.cB (h:cX σ F Y A T){k q:Nat}{c:bY}{ss:List cH}(h1:Y.fM[k]?=some q)(h2:A.tb[k]?=some c)(h3:A.cB[k]?=some ss):∃G ps,(∀b,G b->F b)/\fC σ G q c ps ss:=by
 obtain⟨G,d,e⟩:=h.sep.get (.cB k);obtain⟨ps,a⟩:=Oy h1 h2 h3 e;exact⟨G,ps,d,a⟩
theorem Vj (h:cX σ F Y A T){R:aO}(hR:R true σ):WF.c (aW Y.p) σ R:=by
 refine WF.o ?_;exact bZ.intro (cJ rfl (aG (h.hd.rP rfl hR)))
theorem UE (h:cX σ F Y A T)(k:Int){R:aN}(h1:A.ck k=false->R 1 σ)(h0:∀x:Nat,k=x->x<A.tb.length->R 0 σ):WY.c (aW Y.p) k σ R:=by
 refine WY.o ?_;have g:=h.r9;have a:¬(0<=k/\k<A.tb.length)->R 1 σ:=λe=>h1 (by unfold AR.ck;rw[←yj];exact zg e);refine Vj h (cG rfl (bZ.intro (cI (λd=>cJ rfl (a O)) λd=>aG (h.hd.rS rfl (cI (λb=>?_) λb=>?_)))))
 ·simp only at b;exact a O
 ·simp only at b;exact h0 k.toNat O O
theorem Ω (h:cX σ F Y A T)(x:Int){R:aO}(hR:R (V7 A x) σ):Zb.c (aW Y.p) x σ R:=by
 refine Zb.o ?_;obtain⟨G,b,q,a,_⟩:=h.sep.get .p9;refine Vj h (bZ.intro (cJ rfl (aG (h.hd.rP rfl (SX a x ?_)))));have:decide (BS A.st x>0)=V7 A x:=by
  unfold BS V7;by_cases hx:0<=x
  ·by_cases hl:x<A.st.length
   ·rw[zB ⟨hx,hl⟩,zT hx,xT,decide_eq_decide];omega
   ·rw[zA O,zT hx,xT,zL,za O];rfl
  ·rw[zA O,zg hx];rfl
 rw[this];exact hR
structure jR (A:AR):Prop where
 xW:∀r∈A.runs,∀s∈A.runs,∀x,r.1<=x->x<r.1+r.2->s.1<=x->x<s.1+s.2->r=s
 C2:∀x,x<1024->A.ow x=41->(vL A x).isSome=true
 cls:∀x,x<1024->A.ow x≠0->A.ow x≠41->A.ow x<=A.tb.length
 fit:∀r∈A.runs,r.1+r.2<=1024
theorem DU (h:jR A){x:Nat}{r:Nat×Nat}(hr:r∈A.runs)(h1:r.1<=x)(h2:x<r.1+r.2):vL A x=some r:=by
 cases hf:vL A x with
 | none=>
  unfold vL at hf;rw[se]at hf;have:=hf r hr;simp[h1,h2]at this
 | some s=>
  unfold vL at hf;have b:=wq hf;have a:=wk hf;simp at a;rw[h.xW r hr s b x h1 h2 a.1 a.2]
theorem S4 (h:cX σ F Y A T)(hr:jR A)(x:Int)(hx:iX x){R:Int->Int->Int->Hp->Prop}(h1:∀σ' k a,bO σ σ'->Ha A x=some (k,a)->R k (a:Int) 0 σ')(h0:∀σ',bO σ σ'->Ha A x=none->R 0 0 8 σ') :
 Y7.c (aW Y.p) x σ R:=by
 refine Y7.o ?_;refine Vj h (cG rfl (cI (λU=>h0 σ (Ext.refl _ _) (by unfold Ha;rw[zB U])) λU=>aG (h.hd.rP rfl (nz aB ?_))));obtain⟨y,rfl⟩:=zn (show 0<=x by omega);have hy:y<=9223372036854775807:=by unfold iX at hx;omega
 have Q:((y:Int).tdiv 256)=((y/256:Nat):Int):=by rw[Yb O];simp
 refine ar (by rw[Q];omega) (by rw[Q];omega) ?_;rw[Q];obtain⟨G,hG,hP⟩:=h.sep.get .own;refine Sh hP _ ?_;have eo:uL A.ow ((y/256:Nat):Int)=if y/256<1024 then A.ow (y/256)else 0:=by
  unfold uL;by_cases hl:y/256<1024
  ·rw[zB O,zB hl];rfl
  ·rw[zA O,zA hl]
 have g:Ha A (y:Int)=(let no:=if y/256<1024 then A.ow (y/256)else 0
  if no=0 then none else if no=41 then(vL A (y/256)).map λr=>(-1,r.1*256)else
  match A.tb[no-1]?,A.cB[no-1]? with
  | some c,some ss=>(uZ c ss (y:Int)).map λa=>(((no-1:Nat):Int),a)
  | _,_=>none):=by
  unfold Ha;rw[zA U];rfl
 rw[eo];generalize hno:(if y/256<1024 then A.ow (y/256)else 0)=no at *
 simp only at g;rw[y5];refine cU (λe0=>h0 σ (Ext.refl _ _) (by rw[g,zB (by simpa using e0)])) λe0=>?_;have D:no≠0:=by simpa using e0
 rw[zA D]at g;have C:y/256<1024:=by
  rcases pA (y/256) 1024 with h|h
  ·exact h
  ·rw[zA O]at hno;exact absurd hno.symm D
 rw[zB C]at hno;refine Jn.intro ?_;have e41:(((no:Nat):Int)==41)=(no==41):=lP no 41;rw[e41];refine cU (λX=>?_) λX=>?_
 ·have w:no=41:=by simpa using X
  subst w;rw[zB rfl]at g;obtain⟨r,K⟩:=tf.1 (hr.C2 _ C hno);have j:=wq K;have E:=wk K;simp at E;obtain⟨G,hG,L⟩:=h.sep.get .runs;refine aG (h.hd.rM rfl ?_);refine Az L.2 (λd v=>bO σ v/\(∀z∈d,z∈iS A.runs)/\((r.1:Int),(r.2:Int))∈d) (λv hz e=>⟨e,λz hz=>hz,zC.2 ⟨r,j,rfl⟩⟩) (λv hv=>absurd hv.2.2 aA) ?_;rintro d n z v v' J ⟨e,b,B⟩ hm ho hlt2 hJ;have S:bO σ v':=Ext.fresh e ho.ext λi hi=>by omega
  obtain⟨s,P,W⟩:=zC.1 (b _ hm);cases W;have hfit:=hr.fit s P;refine nz aB (ar O O ?_);refine bZ.intro (cI (λc3=>ar O O (cI (λc4=>?_) λc4=>?_)) λc3=>cG rfl ?_)
  ·have Z:=DU hr P (x:=y/256) O O;refine ar O O ?_;have:=h1 v' (-1) (s.1*256) S (by rw[g,Z];rfl);simpa using this
  ·refine hJ v' rfl rfl ⟨S,λu hu=>b u (zF.1 hu).1,zF.2 ⟨B,?_⟩⟩;have:¬(r.1:Int)=(s.1:Int):=λe=>by
    have:=DU hr j E.1 E.2;have e1:r.1=s.1:=by omega
    by_cases h2:r.2=0
    ·omega
    by_cases h3:s.2=0
    ·have:=L.2.nodup;have M:=Ug this (zC.2 ⟨r,j,rfl⟩);have N:=Ug this (zC.2 ⟨s,P,rfl⟩);rw[e1,N]at M;have:s.2=r.2:=by
      have:(s.2:Int)=(r.2:Int):=Option.some.inj M;omega
     omega
    ·have:=hr.xW r j s P r.1 O O O O;subst this;omega
   simpa using this
  ·refine hJ v' rfl rfl ⟨S,λu hu=>b u (zF.1 hu).1,zF.2 ⟨B,?_⟩⟩;have:¬(r.1:Int)=(s.1:Int):=λe=>by omega
   simpa using this
 ·have w:no≠41:=by simpa using X
  rw[zA w]at g;have V:=hr.cls _ C (by rw[hno];exact D) (by rw[hno];exact w);rw[hno]at V;obtain⟨c,ss,q,t,r,hc,H,hq,_,_,hok⟩:=h.at_ (k:=no-1) O;obtain⟨G,ps,hG,hC⟩:=h.cB hq hc H;rw[hc,H]at g;simp only at g;refine aG (h.hd.rS rfl (cA (m:=no-1) O (by have:=h.lay.sf;omega) (h.mV hq (SB hC _ hx (λa ha=>?_) λha=>?_))))
  ·refine cG rfl (cA (m:=no-1) O (by have:=h.lay.sf;omega) (h1 σ _ a (Ext.refl _ _) ?_));rw[g,ha];rfl
  ·refine cJ rfl (h0 σ (Ext.refl _ _) ?_);rw[g,ha];rfl
end Go.Ar
namespace Go.Ar
open Go Go.Vc Go.Proofs
open Go.Bu (Zg QW Zv jH)
open Classical in
theorem _root_.Go.Vc.Sep.mI {L:Type}{C:L->Hp->Rg->Prop}{σ:Hp}{F:Rg}(hC:∀i,dS (C i))(h:Sep C σ F)(i:L):∃G:Rg,(∀b,G b->F b)/\C i σ G/\(∀j,j≠i->∃H:Rg,(∀b,H b->F b)/\(∀b,H b->¬G b)/\C j σ H)/\∀(σ':Hp) (C':L->Hp->Rg->Prop) (G':Rg),
 (∀j,j≠i->C' j=C j)->Ext G σ σ'->(∀b,G' b->G b\/σ.size<=b)->C' i σ' G'->dS (C' i)->Sep C' σ' λb=>F b/\b<σ.size/\¬G b\/G' b:=by
 obtain⟨ρ,h⟩:=h;refine⟨_,λb a=>a.1,h i,λj s=>⟨_,λb a=>a.1,λb m u=>s (m.2.symm.trans u.2),h j⟩,λσ' C' G' s e x y w=>⟨λb=>if G' b then i else ρ b,λj=>?_⟩⟩
 by_cases hji:j=i
 ·subst hji;exact w.mono y λb _ a=>⟨.inr a,zB a⟩
 ·rw[s j hji];refine hC j _ _ _ _ (h j) e.1 λb a r=>?_;have d:¬(F b/\ρ b=i):=λp=>hji (r.2.symm.trans p.2);have g:¬G' b:=λp=>by
   rcases x b p with m|m
   ·exact d m
   ·omega
  exact⟨⟨.inl ⟨r.1,a,d⟩,(zA g).trans r.2⟩,e.2 b a d⟩
variable {σ:Hp}{F:Rg}{p hs:Nat}{A:AR}{Y:Lay}{T:Nat->Hp->Rg->Prop}
theorem cX.step (h:cX σ F Y A T)(i:Lb):∃G:Rg,(∀b,G b->F b)/\AC A Y T i σ G/\(∀j,j≠i->∃H:Rg,(∀b,H b->F b)/\(∀b,H b->¬G b)/\AC A Y T j σ H)/\∀(σ':Hp) (A':AR) (Y':Lay) (T':Nat->Hp->Rg->Prop) (G' H:Rg),
 eZ A' Y'->(∀k,dS (T' k))->(∀j,j≠i->AC A' Y' T' j=AC A Y T j)->Ext G σ σ'->(∀b,G' b->G b\/σ.size<=b)->AC A' Y' T' i σ' G'->(∀b,(F b/\b<σ.size/\¬G b\/G' b)->H b)->cX σ' H Y' A' T':=by
 obtain⟨G,w,r,hd,a⟩:=h.sep.mI (AC.loc h.tl) i;refine⟨G,w,r,hd,λσ' A' Y' T' G' H m g u e p d s=>⟨m,g,?_⟩⟩;exact(Sep.loc (AC.loc g)).mono (a σ' _ G' u e p d (AC.loc g i)) λb _ x=>s b x
theorem Hl {σ:Hp}{F G G':Rg}(hG:∀b,G b->F b)(hg:∀b,G' b->G b\/σ.size<=b):∀b,(F b/\b<σ.size/\¬G b\/G' b)->Grow F σ b:=λb a=>by
 rcases a with a|a
 ·exact .inl a.1
 ·exact(hg b a).imp (hG b) id
theorem Cd {σ:Hp}{F G G':Rg}(hG:∀b,G b->F b)(hg:∀b,G' b->G b):∀b,(F b/\b<σ.size/\¬G b\/G' b)->F b:=λb a=>by
 rcases a with a|a
 ·exact a.1
 ·exact hG b (hg b a)
theorem DR {σ:Hp}{F G:Rg}(hG:∀b,G b->F b):∀b,(F b/\b<σ.size/\¬G b\/Cut G σ b)->Cut F σ b:=λb a=>by
 rcases a with a|a
 ·exact⟨a.1,a.2.1⟩
 ·exact⟨hG b a.1,a.2⟩
theorem NZ {ow:Nat->Nat}:∀j,j≠Lb.own->AC {A with ow:=ow} Y T j=AC A Y T j:=by
 intro j hj;cases j<;>first|rfl|exact absurd rfl hj
theorem Sg {st:List Nat}:∀j,j≠Lb.p9->AC {A with st:=st} Y T j=AC A Y T j:=by
 intro j hj;cases j<;>first|rfl|exact absurd rfl hj
theorem Dv {S:Nat->Bool}:∀j,j≠Lb.free->AC {A with S:=S} Y T j=AC A Y T j:=by
 intro j hj;cases j<;>first|rfl|exact absurd rfl hj
theorem OV {rs:List (Nat×Nat)}:∀j,j≠Lb.runs->AC {A with runs:=rs} Y T j=AC A Y T j:=by
 intro j hj;cases j<;>first|rfl|exact absurd rfl hj
theorem SC {k:Nat}{ss:List cH}:∀j,j≠Lb.cB k->AC {A with cB:=A.cB.set k ss} Y T j=AC A Y T j:=by
 intro j hj;cases j<;>first|rfl|skip
 rename_i k';have a:k≠k':=λe=>hj (by rw[e]);simp only[AC];rw[zm a]
theorem eZ.ow {ow:Nat->Nat}(h:eZ A Y):eZ {A with ow:=ow} Y:=⟨h.c,h.t,h.cB,h.cE,h.qZ,h.sf,h.n1,h.n2,h.n3,h.st,h.room,h.ok⟩
theorem eZ.Ew {S:Nat->Bool}(h:eZ A Y):eZ {A with S:=S} Y:=⟨h.c,h.t,h.cB,h.cE,h.qZ,h.sf,h.n1,h.n2,h.n3,h.st,h.room,h.ok⟩
theorem eZ.uJ {rs:List (Nat×Nat)}(h:eZ A Y):eZ {A with runs:=rs} Y:=⟨h.c,h.t,h.cB,h.cE,h.qZ,h.sf,h.n1,h.n2,h.n3,h.st,h.room,h.ok⟩
theorem eZ.Bg {st:List Nat}(h:eZ A Y)(hl:st.length=A.st.length):eZ {A with st:=st} Y:=⟨h.c,h.t,h.cB,h.cE,h.qZ,h.sf,h.n1,h.n2,h.n3,hl.trans h.st,h.room,h.ok⟩
theorem eZ.oL {k:Nat}{ss:List cH}(h:eZ A Y):eZ {A with cB:=A.cB.set k ss} Y:=⟨h.c,h.t,by simpa using h.cB,h.cE,h.qZ,h.sf,h.n1,h.n2,h.n3,h.st,h.room,h.ok⟩
theorem F4 (st:List Nat)(a m:Int)(v:Nat)(fr:List Nat):(V8 st a m v fr).length=st.length:=by
 unfold V8;split<;>simp[Qp]
theorem WlN (st:List Nat)(k:Int):(kN st k).length=st.length:=by
 unfold kN;split<;>simp[Qp]
theorem S9 (st:List Nat)(k:Int):(lD st k).length=st.length:=by
 unfold lD;split<;>simp[Qp]
theorem cX.Clear (h:cX σ F Y A T)(a m:Nat)(ha:a<=1000000){R:aN}(hR:∀σ' t,Ext F σ σ'->cX σ' (Grow F σ) Y {A with ow:=lV A.ow a m 0} T->R t σ'):XY.c (aW Y.op) a m σ R:=by
 obtain⟨G,i,p,_,d⟩:=h.step .own;refine Ti p a m ha λσ' e j=>hR σ' _ (e.sub i) ?_;exact d σ' _ _ T (Grow G σ) _ h.lay.ow h.tl NZ e (λb g=>g) j (Hl i λb g=>g)
theorem cX.Set (h:cX σ F Y A T)(a m:Nat)(ha:a<=1000000){no:Nat}(h1:1<=no)(h2:no<=1000){R:aN}(hR:∀σ' t,Ext F σ σ'->cX σ' (Grow F σ) Y {A with ow:=lV A.ow a m no} T->R t σ'):Yk.c (aW Y.op) a m no σ R:=by
 obtain⟨G,i,p,_,d⟩:=h.step .own;refine Tl p a m ha h1 h2 λσ' e j=>hR σ' _ (e.sub i) ?_;exact d σ' _ _ T (Grow G σ) _ h.lay.ow h.tl NZ e (λb g=>g) j (Hl i λb g=>g)
theorem cX.p9 (h:cX σ F Y A T):∃G:Rg,(∀b,G b->F b)/\∃q,gL σ Y.tr q A.st/\F q/\∀(σ':Hp) (st:List Nat),st.length=A.st.length->Ext (· = q) σ σ'->gL σ' Y.tr q st->Ext F σ σ'/\cX σ' F Y {A with st:=st} T:=by
 obtain⟨G,i,⟨q,j,m,g⟩,_,d⟩:=h.step .p9;refine⟨G,i,q,j,i _ g,λσ' st r e p=>⟨e.sub λb a=>by subst a;exact i _ g,?_⟩⟩;exact d σ' _ _ T G _ (h.lay.Bg r) h.tl Sg (e.sub λb a=>by subst a;exact g) (λb a=>.inl a) ⟨q,p,m,g⟩ (Cd i λb a=>a)
theorem cX.A9 (h:cX σ F Y A T)(a m:Int){R:aN}(hR:∀σ' t,Ext F σ σ'->cX σ' F Y {A with st:=V8 A.st a m 2 [1]} T->R t σ'):XD.c (aW Y.tr) a m σ R:=by
 obtain⟨G,i,q,d,_,b⟩:=h.p9;refine WkA d a m λσ' e g=>?_;have:=b σ' _ (F4 _ _ _ _ _) e g;exact hR σ' _ this.1 this.2
theorem cX.Use (h:cX σ F Y A T)(a m:Int){R:aN}(hR:∀σ' t,Ext F σ σ'->cX σ' F Y {A with st:=V8 A.st a m 1 [2,3]} T->R t σ'):XO.c (aW Y.tr) a m σ R:=by
 obtain⟨G,i,q,d,_,b⟩:=h.p9;refine TC d a m λσ' e g=>?_;have:=b σ' _ (F4 _ _ _ _ _) e g;exact hR σ' _ this.1 this.2
theorem cX.Rel (h:cX σ F Y A T)(a m:Int){R:aN}(hR:∀σ' t,Ext F σ σ'->cX σ' F Y {A with st:=V8 A.st a m 3 [2]} T->R t σ'):W8.c (aW Y.tr) a m σ R:=by
 obtain⟨G,i,q,d,_,b⟩:=h.p9;refine OU d a m λσ' e g=>?_;have:=b σ' _ (F4 _ _ _ _ _) e g;exact hR σ' _ this.1 this.2
theorem cX.Et (h:cX σ F Y A T)(k:Int){R:aN}(hR:∀σ' t,Ext F σ σ'->cX σ' F Y {A with st:=kN A.st k} T->R t σ'):Ye.c (aW Y.tr) k σ R:=by
 obtain⟨G,g,q,b,_,a⟩:=h.p9;refine Rz b k λσ' e d=>?_;have:=a σ' _ (WlN _ _) e d;exact hR σ' _ this.1 this.2
theorem cX.FF (h:cX σ F Y A T)(k:Int){R:aN}(hR:∀σ' t,Ext F σ σ'->cX σ' F Y {A with st:=lD A.st k} T->R t σ'):Xj.c (aW Y.tr) k σ R:=by
 obtain⟨G,g,q,b,_,a⟩:=h.p9;refine RW b k λσ' e d=>?_;have:=a σ' _ (S9 _ _) e d;exact hR σ' _ this.1 this.2
theorem cX.free (h:cX σ F Y A T):∃sb ms,Go.Bu.BH σ Y.fr A.n A.S sb ms/\∀(σ':Hp) (S:Nat->Bool),Ext (· ∈ ms) σ σ'->Go.Bu.BH σ' Y.fr A.n S sb ms->Ext F σ σ'/\cX σ' F Y {A with S:=S} T:=by
 obtain⟨G,g,⟨sb,ms,m,j⟩,_,d⟩:=h.step .free;have i:∀b,b∈ms->G b:=λb a=>j b (by unfold Go.Bu.fp;simp[a]);refine⟨sb,ms,m,λσ' S e p=>⟨e.sub λb a=>g b (i b a),?_⟩⟩;exact d σ' _ _ T G _ h.lay.Ew h.tl Dv (e.sub i) (λb a=>.inl a) ⟨sb,ms,p,j⟩ (Cd g λb a=>a)
theorem cX.Bn (h:cX σ F Y A T)(a m:Int){R:aN}(hR:∀σ' t,Ext F σ σ'->cX σ' F Y {A with S:=QW A.n A.S a m} T->R t σ'):Yf.c (aW Y.fr) a m σ R:=by
 obtain⟨j,i,g,b⟩:=h.free;refine Go.Bu.vA g a m λσ' e d=>?_;have:=b σ' _ e d;exact hR σ' _ this.1 this.2
theorem cX.vC (h:cX σ F Y A T)(a m:Int){R:aN}(hR:∀σ' t,Ext F σ σ'->cX σ' F Y {A with S:=Go.Bu.lU A.n A.S a m} T->R t σ'):XA.c (aW Y.fr) a m σ R:=by
 obtain⟨j,i,g,b⟩:=h.free;refine Go.Bu.qm g a m λσ' e d=>?_;have:=b σ' _ e d;exact hR σ' _ this.1 this.2
theorem cX.Bs (h:cX σ F Y A T)(a m:Int){R:Int->Int->Hp->Prop}(hR:∀σ',Ext F σ σ'->cX σ' F Y {A with S:=Go.Bu.kA A.n A.S a m} T->R ((Go.Bu.kI A.n A.S a m:Nat):Int) (Go.Bu.kR A.n A.S a m) σ'):X0.c (aW Y.fr) a m σ R:=by
 obtain⟨j,i,g,b⟩:=h.free;refine Go.Bu.oW g a m λσ' e d=>?_;have:=b σ' _ e d;exact hR σ' this.1 this.2
def rV (rs:List (Nat×Nat)):List Value:=rs.flatMap λr=>[.int .i64 (r.1:Int),.int .i64 (r.2:Int)]
theorem CW (rs:List (Nat×Nat)):(rV rs).length=rs.length*2:=by
 induction rs with
 | nil=>rfl
 | cons x l ih=>simp only[rV,qb,zK,zN,pz]at *;omega
theorem ι {l:List (Nat×Nat)}{i:Nat}{r:Nat×Nat}(h:l[i]?=some r):(rV l)[2*i]?=some (.int .i64 (r.1:Int))/\(rV l)[2*i+1]?=some (.int .i64 (r.2:Int)):=by
 induction l generalizing i with
 | nil=>simp at h
 | cons x l ih=>
  have e:rV (x::l)=[.int .i64 (x.1:Int),.int .i64 (x.2:Int)]++rV l:=by simp[rV]
  rw[e];cases i with
  | zero=>simp at h;subst h;simp
  | succ i=>
   have:=ih (i:=i) (by simpa using h);rw[show 2*(i+1)=2*i+2 by omega];simpa using this
theorem Oa (c:bY)(l:List Nat):iP c l=rV (l.map λs=>(s,c.aF)):=by
 simp[iP,rV,List.flatMap_map]
theorem Om {s:Sl}{rs:List (Nat×Nat)}(h:cT s 2 (rV rs) σ F){i:Nat}{r:Nat×Nat}(hr:rs[i]?=some r){K:Int->Int->Prop}(hK:K (r.1:Int) (r.2:Int)) :
 Ix s.a s.len (i:Int) 2 λa=>fL .i64 (a.add 0) σ λu=>fL .i64 (a.add 1) σ λw=>K u w:=by
 have g:=ι hr;have y:=(cQ.1 hr).1;obtain⟨b,o,j,m⟩:=h.cell g.1;obtain⟨x,o1,d,e⟩:=h.cell g.2;rw[j]at d;cases d;have p:=h.1;rw[CW]at p;rw[j];refine ix O O ?_;rw[add_lit];refine rl ?_ (rl ?_ hK)<;>rw[add_lit]
 ·rw[show o+(i:Int).toNat*2+0=o+2*i by omega];exact m
 ·rw[show o+(i:Int).toNat*2+1=o+(2*i+1) by omega];exact e
theorem cX.mono {G:Rg}(h:cX σ F Y A T)(hs:∀b,b<σ.size->F b->G b):cX σ G Y A T:=dS.mono cX.loc h hs
theorem cX.cut (h:cX σ F Y A T):cX σ (Cut F σ) Y A T:=dS.cut cX.loc h
theorem Η (A:AR)(rs:List (Nat×Nat))(r:Nat×Nat):VZ A (rs++[r])=Ui (VZ A rs) r:=by simp[VZ]
theorem DF (h:cX σ F Y A T){sl:Sl}{rs:List (Nat×Nat)}{X:Rg}(hs:cT sl 2 (rV rs) σ X)(hX:∀b,b<σ.size->X b->¬F b)(hl:rs.length<=1000000)(hb:∀r∈rs,r.1<=1000000){R:aP}
 (hR:∀σ',Ext F σ σ'->cX σ' (Grow F σ) Y (VZ A rs) T->R σ'):Xi.c (aW Y.p) sl σ R:=by
 refine Xi.o ?_;have W:sl.len=rs.length:=by have:=hs.1;rw[CW]at this;omega
 have D:cT sl 2 (rV rs) σ (Cut X σ):=aH.cut hs;refine ZV (a:=bN) (λ(t:Int) v=>∃i:Nat,t=(i:Int)/\i<=rs.length/\Ext F σ v/\cX v (Grow F σ) Y (VZ A (rs.take i)) T) (λt _=>rs.length-t.toNat) ⟨0,rfl,O,Ext.refl _ _,by simpa[VZ]using h.mono λb _ hb=>.inl hb⟩ ?_;rintro t v ⟨i,rfl,V,e,C⟩;refine cI (λhlt=>?_) λhge=>?_
 ·have u:i<rs.length:=by omega
  have y:rs[i]?=some rs[i]:=cM u;have N:=hb _ (zf u);have z:=aH.bU D e λb E y x=>hX b E y.1 x;refine Om z y ?_;have B:rs.take (i+1)=rs.take i++[rs[i]]:=by rw[zl,y];rfl
  generalize rs[i]=r at *;refine nw (cs:=[.int .i64 0,.int .i64 0]) λv4 aa e4 H=>H.s1 aA λv5 o5 b5=>b5.s1 aA λv6 o6 S=>?_;have s:bO v v6:=Ext.fresh (Ext.fresh e4 o5.ext λi V=>O) o6.ext λi V=>by omega
  have w:=C.cut.bK s;have Z:¬Cut (Grow F σ) v v.size:=λx=>by have:=x.2;omega
  have g:bX v6 v.size [.int .i64 (r.1:Int),.int .i64 (r.2:Int)]:=S;have z6:v.size<v6.size:=S.lt;refine aG (w.hd.rP rfl (g.rI rfl (g.rI rfl (w.Clear r.1 r.2 N λv7 t7 Q M=>?_))));have L:=Q.bV g Z;have d:=M.mono (G:=λb=>Cut (Grow F σ) v b\/v.size<b) λb _ hb=>by
   rcases hb with hb|hb
   ·exact .inl hb
   ·exact .inr O
  have J:¬(Cut (Grow F σ) v v.size\/v.size<v.size):=λx=>by
   rcases x with h|h
   ·exact Z h
   ·omega
  refine aG (d.hd.rP rfl (L.rI rfl (L.rI rfl (d.A9 _ _ λv8 t8 U j=>?_))));have P:=U.bV L J;refine aG (j.hd.rP rfl (P.rI rfl (P.rI rfl (j.Bn _ _ λv9 t9 e9 K=>?_))));have sub:∀b,(Cut (Grow F σ) v b\/v.size<b)->Grow F σ b:=λb hb=>by
   rcases hb with hb|hb
   ·exact hb.1
   ·exact .inr (by have:=e.1;omega)
  have ee:Ext F σ v9:=((((e.trans (bO.to s)).iV (Q.sub λb hb=>hb.1))).iV (U.sub sub)).iV (e9.sub sub);refine cA (m:=i+1) O O ⟨⟨i+1,rfl,O,ee,?_⟩,O⟩;rw[B,Η];exact K.mono λb _ hb=>sub b hb
 ·have:i=rs.length:=by omega
  subst this;rw[zo]at C;exact hR v e C
end Go.Ar
namespace Go.Proofs
open Go.Vc
set_option maxRecDepth 100000
def Xu.h:Hn:=.q .o1 (.q (.q .o3 .aK) (.q .o1 (.q (.q .o5 (.k (.loop [(3,.I)] (.q (.cV (.seq [.it .i64 .p,.op])) (.q (.c .l .l) (.k (.q (.cV (.seq [.it .i64 .p,.op,.op,.op,.op])) (.oq 17)))))))) .aL)))
theorem Xu.o {a:R2}{b:Hp}{c:aN}(d:Xh.c a b λd e=>If (!d) (c 0 e) (bI a 2 e λg=>wu .i64 .p g e λh i=>Xb [bN] (λj=>j 0 i) λk (l:Int) m=>wB .i64 .p h m (c l m) (λn o p=>wo .i64 .p h p λq r=>bE a 0 p λt=>Ix t.a t.len q 3 λu=>aQ u 0 p λv=>bE r 0 p λx=>bL (v*((x.len:Nat):Int)) λy=>bL (l+y) λz=>k z p))):Xu.c a b c:=Wa Tryz.func73 (x:=Xu.h) (R0 d)
def Xh.h:Hn:=.q .o1 (.q (.cV (.seq [.op,.op,.op,.dB true 5 (RI.ops 5),.op])) .l)
theorem Xh.o {a:R2}{b:Hp}{c:aO}(d:bZ (λd e=>c d e) λf=>If (!a.isNone) (bI a 2 b λh=>f (!h.isNone) b) (f false b)):Xh.c a b c:=Wa Tryz.func105 (x:=Xh.h) (R0 d)
def Kc.h:Hn:=.q .o2 (.q (.k (.q .o4 (.c .aL (.q (.cV (.seq [.op,.op,.op,.dB false 2 [.op,.op],.op])) .aJ)))) (.q .o8 .l))
theorem Kc.o {a:Sl}{b:Int}{c:Hp}{d:Option Addr->Int->Hp->Prop}(e:ZH.c a c λe f=>If (!e) (d none 2 f) (bZ (λg h=>If g (d none 1 h) (Wc.c a h λi j=>Nw (.map #[] 0) j λk l=>aV #[.slice i.a i.len i.cap,.I b,.map (some k.block)] 167 l λm n=>d (some m) 0 n)) λo=>If (b<0) (o true f) (o (decide (b>65536)) f))):Kc.c a b c d:=Wa Tryz.func126 (x:=Kc.h) (R0 e)
def Yt.h:Hn:=.q .o2 (.q .o8 (.q (.q .o2 (.c (.q .o3 .l) .l)) (.q (.q .o6 (.c (.q (.q .o9 (.q .o6 (.c .o8 (.o 11)))) .aL) .l)) (.q .o7 (.q .o8 (.q .fR (.q .fR (.q .o3 .l))))))))
theorem Yt.o {a:R2}{b:Int}{c:Hp}{d:Int->Int->Hp->Prop}(e:Xw.c a b c λe f g=>If (f != 0) (d 0 f g) (bQ e λh=>aX h 0 g λi=>If (((i.len:Nat):Int)==0) (bE a 0 g λk=>Ix k.a k.len b 3 λl=>aQ l 2 g λm=>bD e 1 g λo=>If (o<m) (bD e 1 g λq=>bL (q+1) λr=>bQ e λs=>aR s 1 (.I r) g λt=>d 0 4 t) (bD e 1 g λv=>bL (v+m) λw=>bQ e λx=>aR x 1 (.I (if 128<w then 128 else w)) g λy=>d 0 4 y)) (bE e 0 g λaa=>bL (((aa.len:Nat):Int)-1) λab=>bE e 0 g λad=>Ix ad.a ad.len ab 1 λae=>bM ae g λaf=>bE e 0 g λah=>eX ah 1 0 ab (ah.cap:Nat) λai=>bQ e λaj=>aR aj 0 (.slice ai.a ai.len ai.cap) g λak=>bD e 2 ak λam=>bQ e λan=>aR an 2 (.I (if ab<am then ab else am)) ak λao=>d af 0 ao))):Yt.c a b c d:=Wa Tryz.func171 (x:=Yt.h) (R0 e)
def Yp.h:Hn:=.q .o2 (.q .o8 (.q (.q .o2 (.c (.q .o3 .l) .l)) (.q (.oq 15) .l)))
theorem Yp.o {a:R2}{b:Int}{c:Hp}{d:Int->Int->Hp->Prop}(e:Xw.c a b c λe f g=>If (f != 0) (d 0 f g) (bQ e λh=>aQ h 1 g λi=>bE a 0 g λk=>Ix k.a k.len b 3 λl=>aQ l 2 g λm=>d (if m<i then m else i) 0 g)):Yp.c a b c d:=Wa Tryz.func173 (x:=Yp.h) (R0 e)
def Yd.h:Hn:=.q .o1 (.q .o8 (.q (.q .o2 .aJ) (.q .o3 (.q .o2 (.q .o4 .l)))))
theorem Yd.o {a:R2}{b:Int}{c:Sl}{d:Hp}{e:aN}(f:Xw.c a b d λf g h=>If (g != 0) (e g h) (WH.c c h λi j=>W1.c i j λk=>W3.c f i k λl m=>e l m)):Yd.c a b c d e:=Wa Tryz.func178 (x:=Yd.h) (R0 f)
def YW.h:Hn:=.q .o2 (.q .o8 (.q (.q .o2 (.c (.q .o3 .l) .l)) (.q (.q .o5 (.q .o2 (.c (.q .o3 .l) .l))) (.q (.q (.oq 10) .aJ) (.q .o9 (.kX [] (.q .o6 (.c .o8 .l)) (.q (.o 11) .l)))))))
theorem YW.o {a:R2}{b c:Int}{d:Hp}{e:Sl->Int->Hp->Prop}(f:Xw.c a b d λf g h=>If (g != 0) (e ⟨none,0,0⟩ g h) (aV #[.I c] 3 h λi j=>W3.c f ⟨some i,1,1⟩ j λk l=>If (k != 0) (e ⟨none,0,0⟩ k l) (bE f 0 l λn=>bQ f λo=>aQ o 1 l λp=>If (((n.len:Nat):Int)<=p) (e ⟨none,0,0⟩ 0 l) (bE a 0 l λr=>Ix r.a r.len b 3 λs=>aQ s 2 l λt=>Jn [] (λu=>bE f 0 u λw=>Xe.c f (if((w.len:Nat):Int)<t then((w.len:Nat):Int)else t) u λx y=>e x 0 y) λz=>bD f 1 l λab=>If (ab<t) (bD f 1 l λad=>bL (ad+1) λae=>bQ f λaf=>aR af 1 (.I ae) l λag=>z ag) (z l))))):YW.c a b c d e:=Wa Tryz.func181 (x:=YW.h) (R0 f)
def Yo.h:Hn:=.q .o1 (.q (.cV (.iH false [] [(2,.one .b)] (.take 0 (.all [(1,.take 2 (.split 5 (.tk [3,5,6,7] (.all [(4,.all [(8,.tk [9,10,11] (.done))]),(8,.all [(4,.tk [9,10,11] (.done))])])) (.tk [3,4,5,6,7,8,9,10,11] (.done))))])))) .l)
theorem Yo.o {a:R2}{b:Hp}{c:aO}(d:Jn [.b] (λ(d:Bool) e=>c d e) λf=>Xh.c a b λg h=>If g (bQ a λi=>(Xu.c a h λj k=>aQ i 1 k λl=>f (decide (j>l)) k) ∧ (aQ i 1 h λm=>Xu.c a h λn o=>f (decide (n>m)) o)) (f false h)):Yo.c a b c:=Wa Tryz.func182 (x:=Yo.h) (R0 d)
def Xa.h:Hn:=.q .o1 (.q .o3 .l)
theorem Xa.o {a:R2}{b:Hp}{c:Sl->Hp->Prop}(d:Xp.c a ⟨221,#[],#[]⟩ b λd e=>c d e):Xa.c a b c:=Wa Tryz.func183 (x:=Xa.h) (R0 d)
def XT.h:Hn:=.q .o1 (.q .o3 .l)
theorem XT.o {a:R2}{b:Hp}{c:Sl->Hp->Prop}(d:Xp.c a ⟨223,#[],#[]⟩ b λd e=>c d e):XT.c a b c:=Wa Tryz.func188 (x:=XT.h) (R0 d)
def Xw.h:Hn:=.q .o2 (.q (.q .o3 .aJ) (.q .o4 (.q (.q .o2 .aJ) (.q .o3 .l))))
theorem Xw.o {a:R2}{b:Int}{c:Hp}{d:Option Addr->Int->Hp->Prop}(e:Xh.c a c λe f=>If (!e) (d none 5 f) (ZD.c a b f λg h=>If g.isNone (d none 1 h) (d g 0 h))):Xw.c a b c d:=Wa Tryz.func211 (x:=Xw.h) (R0 e)
def W3.h:Hn:=.q .o1 (.q (.q .o9 .aK) (.q (.o 11) .aM))
theorem W3.o {a:R2}{b:Sl}{c:Hp}{d:aN}(e:bQ a λe=>aX e 0 c λf=>bL (((f.len:Nat):Int)+((b.len:Nat):Int)) λg=>If (g>256) (d 6 c) (bQ a λh=>aX h 0 c λi=>Xl.c i c λj k=>App j 1 8 3 [.I 0] b k λl m=>bQ a λn=>aR n 0 (.slice l.a l.len l.cap) m λo=>d 0 o)):W3.c a b c d:=Wa Tryz.func218 (x:=W3.h) (R0 e)
def Xe.h:Hn:=.q .o1 (.q .o8 (.q (.o 11) (.q (.cV (.tail 13 (RI.ops 13) [.op])) .aL)))
theorem Xe.o {a:R2}{b:Int}{c:Hp}{d:Sl->Hp->Prop}(e:bQ a λe=>aX e 0 c λf=>eX f 1 0 b (f.cap:Nat) λg=>WH.c g c λh i=>bE a 0 i λk=>eX k 1 b (k.len:Nat) (k.cap:Nat) λl=>WH.c l i λm n=>bQ a λo=>aR o 0 (.slice m.a m.len m.cap) n λp=>bD a 2 p λr=>bE a 0 p λt=>bQ a λu=>aR u 2 (.I (if((t.len:Nat):Int)<r then((t.len:Nat):Int)else r)) p λv=>d h v):Xe.c a b c d:=Wa Tryz.func219 (x:=Xe.h) (R0 e)
def Xp.h:Hn:=.q .o1 (.q (.q .o3 .aK) (.q .o1 (.q (.q .o5 (.k (.loop [(5,.one .s)] (.q (.cV (.seq [.it .i64 .p,.op])) (.q (.c .l .l) (.k (.q (.cV (.seq [.it .i64 .p,.op,.op,.op,.op])) (.q (.o 12) (.q .o3 (.c .o7 .l)))))))))) (.q .o2 .aL))))
theorem Xp.o {a:R2}{b:Fv}{c:Hp}{d:Sl->Hp->Prop}(e:Xh.c a c λe f=>If (!e) (d ⟨none,0,0⟩ f) (bI a 2 f λh=>wu .i64 .p h f λi j=>Xb [.s] (λk=>k ⟨none,0,0⟩ j) λl (m:Sl) n=>wB .i64 .p i n (Z2.c m ⟨262,#[],#[]⟩ n λo=>d m o) (λp q r=>wo .i64 .p i r λs t=>bE a 0 r λv=>Ix v.a v.len s 3 λw=>aQ w 2 r λx=>V2 Tryz.prog b [.pointer t,.I x] [.one .s] r λy z=>If (((y.len:Nat):Int)>0) (aV #[.I s,.slice y.a y.len y.cap] 130 z λaa ab=>App m 2 32 130 [.I 0,.slice none 0 0] ⟨some aa,1,1⟩ ab λac ad=>l ac ad) (l m z)))):Xp.c a b c d:=Wa Tryz.func220 (x:=Xp.h) (R0 e)
def XE.h:Hn:=.q .o1 (.q .o9 (.kX [] (.q .o6 (.c (.o 12) .l)) (.q .o9 .aL)))
theorem XE.o {a:R2}{b:Int}{c:Hp}{d:Sl->Hp->Prop}(e:bQ a λe=>aQ e 2 c λf=>bL (f+1) λg=>Nz 2<|bL (g.tdiv 2) λh=>Xe.c a h c λi j=>Jn [] (λk=>bE a 0 k λm=>bQ a λn=>aR n 2 (.I ((m.len:Nat):Int)) k λo=>d i o) λp=>bD a 1 j λr=>If (r>b) (bD a 1 j λt=>bL (t-b) λu=>bQ a λv=>aR v 1 (.I (if b>u then b else u)) j λw=>p w) (p j)):XE.c a b c d:=Wa Tryz.func221 (x:=XE.h) (R0 e)
def YJ.h:Hn:=.q .o1 (.q .o8 .l)
theorem YJ.o {a:R2}{b:Int}{c:Hp}{d:Sl->Hp->Prop}(e:bQ a λe=>aX e 0 c λf=>Xe.c a ((f.len:Nat):Int) c λg h=>d g h):YJ.c a b c d:=Wa Tryz.func223 (x:=YJ.h) (R0 e)
def ZD.h:Hn:=.q .o1 (.q (.q (.cV (.seq [.op,.op,.op,.op,.dB false 2 [.op,.op],.op,.dB false 7 (RI.ops 7)])) .aK) (.kX [] (.q .o7 (.c .o8 .l)) (.q .o7 .l)))
theorem ZD.o {a:R2}{b:Int}{c:Hp}{d:Option Addr->Hp->Prop}(e:Xh.c a c λe f=>bZ (λg h=>bZ (λi j=>If i (d none j) (Jn [] (λk=>bI a 2 k λm=>Lk .i64 .p m b k λn=>d (n.getD none) k) λo=>bQ a λp=>bB p 2 j λq=>Lk .i64 .p q b j λr=>If ((r.getD none).isNone) (bI a 2 j λt=>aV #[.slice none 0 0,.I 1,.I 0] 170 j λu v=>nO .i64 .p t b (some u) v λw=>o w) (o j))) λx=>If g (x true h) (bE a 0 h λz=>x (decide (b≥((z.len:Nat):Int))) h)) λaa=>If (!e) (aa true f) (aa (decide (b<0)) f)):ZD.c a b c d:=Wa Tryz.func250 (x:=ZD.h) (R0 e)
end Go.Proofs
namespace Go.Ar
open Go Go.Vc Go.Proofs
theorem cT.sub {σ:Hp}{F:Rg}{s:Sl}{sz:Nat}{xs:List Value}(h:cT s sz xs σ F){lo hi mx:Nat}(h1:lo<=hi)(h2:hi<=s.len)(h3:hi<=mx) :
 cT ⟨if mx=lo then s.a else s.a.map (·.add (lo*sz)),hi-lo,mx-lo⟩ sz ((xs.drop (lo*sz)).take ((hi-lo)*sz)) σ F:=by
 have m:=h.1;have i:hi*sz<=s.len*sz:=pf _ h2;have e:(hi-lo)*sz=hi*sz-lo*sz:=Nat.sub_mul _ _ _;have g:lo*sz<=hi*sz:=pf _ h1;refine⟨by rw[zP,zu];simp only;omega,?_⟩;by_cases hm:mx=lo
 ·left;have:hi-lo=0:=by omega
  rw[this,yL,Cs]
 ·rcases h.2 with h0|⟨b,o,cs,hb,ha,hq,hc⟩
  ·left;subst h0;simp
  ·refine .inr ⟨b,o+lo*sz,cs,hb,?_,hq,λj d=>?_⟩
   ·simp only[zA hm,ha,zj,add_lit]
   ·rw[zP,zu]at d;rw[ug,hc _ O,zb,zq,zB O]
inductive xg where
 | hd|dH|mp
 | li (k:Nat)
 deriving DecidableEq
structure iE where
 p:Nat
 m:Nat
 dH:Sl
 ps:List (Nat×Nat)
def kK (ps:List (Nat×Nat))(k:Nat):Option Nat:=(ps.find? λx=>x.1==k).map (·.2)
def mB (ps:List (Nat×Nat)):List (Int×Option Addr):=ps.map λx=>((x.1:Int),some ⟨x.2,0,none⟩)
def qM (s:Sl)(l:Li):List Value:=[.slice s.a s.len s.cap,.int .i64 (l.lim:Int),.int .i64 (l.low:Int)]
def kC (b:Nat)(l:Li):Hp->Rg->Prop:=λσ F=>F b/\fW l/\∃s:Sl,bX σ b (qM s l)/\cT s 1 (Wv l.os) σ (λq=>F q/\q≠b)/\s.len<=s.cap
def s7 (b:Option Nat)(l:Option Li):Hp->Rg->Prop:=λσ F=>match b,l with
 | some b,some l=>kC b l σ F
 | none,some l=>l=gT
 | _,none=>True
def FB (Y:iE)(bud:Nat):List Value:=[.slice Y.dH.a Y.dH.len Y.dH.cap,.int .i64 (bud:Int),.map (some Y.m)]
def CC (tb:List bY)(bud:Nat)(ls:List Li)(Y:iE):xg->Hp->Rg->Prop
 | .hd=>iW Y.p (FB Y bud)
 | .dH=>cT Y.dH 3 (gA tb)
 | .mp=>lQ Y.m .i64 .p (mB Y.ps)
 | .li k=>s7 (kK Y.ps k) ls[k]?
theorem kC.loc (b:Nat)(l:Li):dS (kC b l):=by
 rintro σ y F G ⟨w,p,s,j,x,r⟩ m a;have i:=a b j.lt w;obtain⟨e,u⟩:=j;exact⟨i.1,p,s,⟨e,i.2.trans u⟩,cT.loc _ _ _ _ _ _ _ x m λq g d=>⟨⟨(a q g d.1).1,d.2⟩,(a q g d.1).2⟩,r⟩
theorem s7.loc (b:Option Nat)(l:Option Li):dS (s7 b l):=by
 intro σ σ' F G h hz hs;unfold s7 at *;split at h
 ·exact kC.loc _ _ _ _ _ _ h hz hs
 ·exact h
 ·trivial
theorem CC.loc {tb:List bY}{bud:Nat}{ls:List Li}{Y:iE}:∀i,dS (CC tb bud ls Y i)
 | .hd=>iW.loc _ _
 | .dH=>cT.loc _ _ _
 | .mp=>lQ.loc _ _ _ _
 | .li k=>s7.loc _ _
structure eB (σ:Hp) (F:Rg) (Y:iE) (tb:List bY) (bud:Nat) (ls:List Li):Prop where
 qZ:tb.length<=40
 ok:∀c∈tb,c.ok
 len:ls.length=tb.length
 keys:∀x∈Y.ps,x.1<tb.length
 sep:Sep (CC tb bud ls Y) σ F
variable {σ:Hp}{F G:Rg}{Y:iE}{tb:List bY}{bud:Nat}{ls:List Li}{b k:Nat}{l:Li}
theorem eB.loc:dS λσ F=>eB σ F Y tb bud ls:=λσ d F G h a b=>⟨h.qZ,h.ok,h.len,h.keys,Sep.loc CC.loc _ _ _ _ h.sep a b⟩
theorem eB.bK {σ':Hp}(h:eB σ F Y tb bud ls)(e:bO σ σ'):eB σ' F Y tb bud ls:=dS.bK eB.loc h e
theorem eB.hd (h:eB σ F Y tb bud ls):bX σ Y.p (FB Y bud):=by
 obtain⟨G,b,a⟩:=h.sep.get .hd;exact a.2
theorem eB.lF (h:eB σ F Y tb bud ls):cT Y.dH 3 (gA tb) σ F:=by
 obtain⟨G,d,a⟩:=h.sep.get .dH;exact aH.mono a λb _ a=>d b a
theorem eB.r9 (h:eB σ F Y tb bud ls):Y.dH.len=tb.length:=by
 have:=h.lF.1;rw[KT]at this;omega
theorem eB.map (h:eB σ F Y tb bud ls):dN σ Y.m .i64 .p (mB Y.ps):=by
 obtain⟨G,b,a⟩:=h.sep.get .mp;exact a.2
theorem FM (ps:List (Nat×Nat))(k:Nat):bW (α:=Option Addr) (mB ps) (k:Int)=(kK ps k).map λb=>some ⟨b,0,none⟩:=by
 induction ps with
 | nil=>rfl
 | cons x l ih=>
  simp only[bW,mB,kK,zH,yK]at *;have e:(((x.1:Nat):Int)==(k:Int))=(x.1==k):=lP _ _;rw[e];cases x.1==k
  ·exact ih
  ·rfl
theorem Ma {ps:List (Nat×Nat)}(h:kK ps k=none):∀x∈ps,x.1≠k:=by
 unfold kK at h;simp only[uN,se,zY]at h;exact h
theorem Pa {ps:List (Nat×Nat)}(h:kK ps k=none)(b:Nat):dG (α:=Option Addr) (mB ps) (k:Int) (some ⟨b,0,none⟩)=mB (ps++[(k,b)]):=by
 unfold dG;rw[zA]
 ·simp[mB]
 ·simp only[mB,List.any_map,zw,Function.comp,zY,not_exists,not_and];intro x hx e;exact Ma h x hx O
theorem UY {ps:List (Nat×Nat)}(h:kK ps k=none)(b j:Nat):kK (ps++[(k,b)]) j=if j=k then some b else kK ps j:=by
 have a:=Ma h;unfold kK at *;rw[List.find?_append];by_cases hj:j=k
 ·subst hj;have:ps.find? (λx=>x.1==j)=none:=by simpa using h
  rw[this];simp
 ·rw[zA hj];cases hf:ps.find? (λx=>x.1==j)with
  | none=>
   have:(k==j)=false:=by simpa using λe=>hj e.symm
   simp[this]
  | some x=>simp
theorem Nr {ps:List (Nat×Nat)}(hn:((mB ps).map (·.1)).Nodup)(h:(k,b)∈ps):kK ps k=some b:=by
 induction ps with
 | nil=>simp at h
 | cons x l ih=>
  simp only[mB,zH,zr]at hn;unfold kK;rw[yK];rcases zR.1 h with rfl|h
  ·simp
  ·have:(x.1==k)=false:=by
    have:x.1≠k:=λe=>hn.1 (zC.2 ⟨(((k:Nat):Int),some ⟨b,0,none⟩),zC.2 ⟨(k,b),h,rfl⟩,by rw[e]⟩);simpa using this
   rw[this];exact ih hn.2 h
theorem H4 (h:eB σ F Y tb bud ls){R:aO}(hR:R true σ):Xh.c (aW Y.p) σ R:=by
 refine Xh.o ?_;exact bZ.intro (cJ rfl (aG (h.hd.rM rfl hR)))
theorem eB.Af (h:eB σ F Y tb bud ls)(hb:kK Y.ps k=some b)(hl:ls[k]?=some l):∃G:Rg,(∀q,G q->F q)/\kC b l σ G/\¬G Y.m ∧
 ∀(σ':Hp) (l':Li) (G':Rg),Ext G σ σ'->(∀q,G' q->Grow G σ q)->kC b l' σ' G'->Ext F σ σ'/\eB σ' (λq=>F q/\q<σ.size/\¬G q\/G' q) Y tb bud (ls.set k l'):=by
 have i:=(cQ.1 hl).1;obtain⟨G,s,g,d,a⟩:=h.sep.mI CC.loc (.li k);have g:kC b l σ G:=by
  simp only[CC,s7,hb,hl]at g;exact g
 have r:¬G Y.m:=by
  obtain⟨H,_,hd,p⟩:=d .mp (by intro e;cases e);exact hd _ p.1
 refine⟨G,s,g,r,λσ' l' G' e w u=>⟨e.sub s,h.qZ,h.ok,by rw[sx];exact h.len,h.keys,?_⟩⟩;refine a σ' (CC tb bud (ls.set k l') Y) G' (λj x=>?_) e w ?_ (CC.loc _)
 ·cases j<;>try rfl
  rename_i m;have r:m≠k:=λe=>x (by rw[e]);simp only[CC,zm (Ne.symm r)]
 ·simp only[CC,s7,hb,zO i];exact u
theorem eB.mono (h:eB σ F Y tb bud ls)(hs:∀q,q<σ.size->F q->G q):eB σ G Y tb bud ls:=dS.mono eB.loc h hs
theorem eB.cut (h:eB σ F Y tb bud ls):eB σ (Cut F σ) Y tb bud ls:=dS.cut eB.loc h
theorem eB.fS {v:Hp}(h:eB v (Grow F σ) Y tb bud ls)(e0:Ext F σ v)(hb:kK Y.ps k=some b)(hl:ls[k]?=some l):∃G:Rg,kC b l v G ∧
 ∀(σ':Hp) (l':Li) (G':Rg),Ext G v σ'->(∀q,G' q->Grow G v q)->kC b l' σ' G'->Ext F σ σ'/\eB σ' (Grow F σ) Y tb bud (ls.set k l'):=by
 obtain⟨G,p,m,_,d⟩:=h.Af hb hl;refine⟨G,m,λσ' l' G' e i g=>?_⟩;obtain⟨r,j⟩:=d σ' l' G' e i g;refine⟨e0.iV r,j.mono λq _ a=>?_⟩;have:=e0.1;rcases a with a|a
 ·exact a.1
 ·rcases i q a with h2|h2
  ·exact p q h2
  ·exact .inr O
theorem WpE (h:eB σ F Y tb bud ls)(hk:k<tb.length){R:Option Addr->Hp->Prop}(hR:∀σ' Y' b,Ext F σ σ'->Y'.p=Y.p->kK Y'.ps k=some b->eB σ' (Grow F σ) Y' tb bud ls->R (some ⟨b,0,none⟩) σ') :
 ZD.c (aW Y.p) (k:Int) σ R:=by
 refine ZD.o ?_;have y:k<ls.length:=by rw[h.len];exact hk
 have D:ls[k]?=some ls[k]:=cM y;generalize ls[k]=l at D;have Q:=h.r9;refine H4 h (bZ.intro (cG rfl ?_));refine bZ.intro (fJ O (aG (h.hd.rS rfl ?_)));refine fJ aC ?_;refine Jn.intro (aG (h.hd.rM rfl ⟨_,h.map,?_⟩));rw[FM];cases hf:kK Y.ps k with
 | some b=>
  refine cG rfl (aG (h.hd.rM rfl ⟨_,h.map,?_⟩));rw[FM,hf];exact hR σ Y b (Ext.refl _ _) rfl hf (h.mono λq _ a=>.inl a)
 | none=>
  refine cJ rfl (aG (h.hd.rM rfl (nw (cs:=[.slice none 0 0,.int .i64 1,.int .i64 0]) λv S e J=>?_)));obtain⟨G,H,u,U,hd,g,w,s⟩:=h.cut.sep.tV CC.loc .mp (.li k) (by intro e;cases e);have L:∀q,G q->F q:=λq a=>(u q a).1;have g:lQ Y.m .i64 .p (mB Y.ps) σ G:=g;have w:l=gT:=by
   simp only[CC,s7,hf,D]at w;exact w
  have K:=g.2.lt;have A:dN v Y.m .i64 .p (mB Y.ps):=e.gS g.2 id;refine⟨Y.m,_,rfl,A,λv2 z r=>?_⟩;rw[Pa hf]at r;have P:Ext F σ v2:=(bO.to e).only z (.inl (L _ g.1));have C:Ext (λq=>G q\/H q) σ v2:=(bO.to e).only z (.inl (.inl g.1));have E:bX v2 σ.size [.slice none 0 0,.int .i64 1,.int .i64 0]:=Ws z J O;have d:eB v2 (Grow F σ) {Y with ps:=Y.ps++[(k,σ.size)]} tb bud ls:=by
   refine⟨h.qZ,h.ok,h.len,λx i=>?_,?_⟩
   ·rcases zU.1 i with i|i
    ·exact h.keys x i
    ·simp only[zZ]at i;subst i;exact hk
   refine(Sep.loc CC.loc).mono (s v2 (CC tb bud ls {Y with ps:=Y.ps++[(k,σ.size)]}) G (· = σ.size) (λj B M=>?_) C (λq a=>.inl (.inl a)) (λq a=>.inr O) (λq B M=>?_) ⟨g.1,r⟩ ?_ CC.loc) λq _ a=>?_
   ·cases j<;>first|rfl|exact absurd rfl B|skip
    rename_i m;have N:m≠k:=λe=>M (by rw[e]);simp only[CC,UY hf,zA N]
   ·have:=(u q B).2;omega
   ·simp only[CC,UY hf,zW,D,w,s7];exact⟨rfl,fW.nil,⟨none,0,0⟩,E,cT.nil _ _ _ _,zD _⟩
   ·rcases a with a|a|a
    ·exact .inl a.1.1
    ·exact .inl (L q a)
    ·exact .inr O
  refine aG (d.hd.rM rfl ⟨_,d.map,?_⟩);rw[FM,UY hf,zB rfl];exact hR v2 {Y with ps:=Y.ps++[(k,σ.size)]} σ.size P rfl (by show kK (Y.ps++[(k,σ.size)]) k=_;rw[UY hf,zB rfl]) d
theorem BU (h:eB σ F Y tb bud ls)(hk:k<tb.length){R:Option Addr->Int->Hp->Prop}(hR:∀σ' Y' b,Ext F σ σ'->Y'.p=Y.p->kK Y'.ps k=some b->eB σ' (Grow F σ) Y' tb bud ls->R (some ⟨b,0,none⟩) 0 σ') :
 Xw.c (aW Y.p) (k:Int) σ R:=by
 refine Xw.o ?_;exact H4 h (cG rfl (WpE h hk λσ' Y' b e d g a=>cG rfl (hR σ' Y' b e d g a)))
theorem bS.vw {s:Sl}{sz:Nat}{xs:List Value}(h:bS s sz xs σ F):s.len<=s.cap:=by
 rcases h.2 with⟨q1,q2⟩|⟨_,_,_,_,_,q,_⟩
 ·omega
 ·exact q
theorem Gx (h:kC b l σ G){m:Nat}(hm:m<=l.os.length){R:Sl->Hp->Prop}
 (hR:∀s z σ',Ext (· = b) σ σ'->σ.size<=z->bS s 1 (Wv (l.os.take m)) σ' (λq=>σ.size<=q/\q<z)->kC b (gX m l).2 σ' (λq=>q=b\/z<=q)->R s σ') :
 Xe.c (aW b) (m:Int) σ R:=by
 refine Xe.o ?_;obtain⟨Z,d,s,H,J,Y⟩:=h;have S:s.len=l.os.length:=by have:=J.1;simp[Wv]at this;omega
 have F:=d.many;have M:=d.low;have j:=cT.sub J (lo:=0) (hi:=m) (mx:=s.cap) O O O;have Q:((Wv l.os).drop (0*1)).take ((m-0)*1)=Wv (l.os.take m):=by simp[Wv]
 rw[Q]at j;refine aG (H.rS rfl (jV (lo:=0) O aC aC (HC j Vm aC λs1 L P x C=>?_)));have u:=x.bV H id;have A:=aH.bK J x;have w:=cT.sub A (lo:=m) (hi:=s.len) (mx:=s.cap) O O O;have U:((Wv l.os).drop (m*1)).take ((s.len-m)*1)=Wv (l.os.drop m):=by
  rw[qx (by simp[Wv];omega)];simp[Wv]
 rw[U]at w;refine aG (u.rS rfl (jV aC aC aC (HC w Vm aC λy X K B r=>?_)));have E:=B.bV u id;refine aG (E.s1 (by simp[qM]) λv3 o3 a=>aG (a.rI rfl (aG (a.rS rfl (aG (a.s1 (by simp[qM]) λv4 o4 p=>?_))))));have e:Ext (· = b) X v4:=o3.ext.trans o4.ext;have N:=H.lt;have D:=x.1;have i:y.len=l.os.length-m:=by rw[K];simp only;omega
 refine hR s1 L.size v4 ((bO.to (x.trans B)).trans e) D ?_ ⟨.inl rfl,Dp d,y,?_,?_,bS.vw r⟩
 ·refine aI.bU (aI.bK (aI.mono C (G:=λq=>σ.size<=q/\q<L.size) λq g W=>⟨W,g⟩) B) e λq _ g V=>by omega
 ·have:(if((y.len:Nat):Int)<(l.low:Int)then((y.len:Nat):Int)else(l.low:Int))=((min l.low (l.os.length-m):Nat):Int):=by rw[i];split<;>omega
  rw[this]at p;exact p
 ·refine aH.mono (aH.bU r.gE e λq _ g V=>O) λq _ g=>⟨.inr g,O⟩
theorem Wn0 (h:kC b l σ G){sl:Sl}{xs:List Int}{X:Rg}(hs:cT sl 1 (Wv xs) σ X)(hx:xs≠[])(hfit:l.os.length+xs.length<=256){R:aN}
 (hR:∀σ',Ext (· = b) σ σ'->kC b (eM xs l) σ' (λq=>q=b\/σ.size<=q)->R 0 σ'):W3.c (aW b) sl σ R:=by
 refine W3.o ?_;obtain⟨K,p,s,g,d,J⟩:=h;have E:s.len=l.os.length:=by have:=d.1;simp[Wv]at this;omega
 have D:sl.len=xs.length:=by have:=hs.1;simp[Wv]at this;omega
 have y:=uf.2 hx;have x:eM xs l = {l with os:=l.os++xs}:=by unfold eM;rw[zA O]
 refine aG (g.rS rfl (cA (m:=l.os.length+xs.length) aC O (fJ O (aG (g.rS rfl ?_)))));refine Xl.o ?_;refine jV (lo:=0) aC aC aC ?_;have A:=g.lt;refine⟨Wv l.os,Wv xs,by simp[Wv];omega,by simp[Wv];omega,?_,hs.rd,Vm,?_,by simp only;omega,λi=>by simp only at i;omega,λz c r=>?_⟩
 ·by_cases h0:s.len=0
  ·have:l.os=[]:=BK.1 O;rw[this];simp only[h0,zW];cases s.a<;>simp[Rd,Wv]
  ·simp only[zA h0,yL];have:=d.rd;cases ha:s.a with
   | none=>rw[ha]at this;simpa[Rd]using this
   | some a=>rw[ha]at this;simpa[Rd,Addr.add_zero']using this
 ·simp only;have:(s.len-0+sl.len)*8<=256*8:=nC O O;omega
 ·refine nw λv H e w=>aG ((e.bV g id).s1 (by simp[qM]) λF o2 u=>?_);have B:l.os.length+xs.length<=c:=by simp only at r;omega
  refine hR F ((bO.to e).trans o2.ext) ?_;rw[x];have:=BN (xs:=xs) p;rw[x]at this;refine⟨.inl rfl,this,⟨some ⟨σ.size,0,none⟩,s.len-0+sl.len,c⟩,u,⟨by simp[Wv];omega,.inr ⟨σ.size,0,_,⟨.inr (zD _),O⟩,rfl,(Ws o2 w O).q,λj C=>?_⟩⟩,by simp only;omega⟩;simp only[Wv,zX,zK]at C;rw[zI,mE,←mE,zh (by simp[Wv];omega)];simp[Wv]
theorem OS (h:kC b l σ G){sl:Sl}{xs:List Int}{X:Rg}(hs:cT sl 1 (Wv xs) σ X)(hfit:¬l.os.length+xs.length<=256)(hxs:xs.length<=1000000){R:aN}
 (hR:R 6 σ):W3.c (aW b) sl σ R:=by
 refine W3.o ?_;obtain⟨p,d,s,g,a,j⟩:=h;have e:s.len=l.os.length:=by have:=a.1;simp[Wv]at this;omega
 have i:sl.len=xs.length:=by have:=hs.1;simp[Wv]at this;omega
 have:=d.many;exact aG (g.rS rfl (cA (m:=l.os.length+xs.length) aC O (oK O hR)))
end Go.Ar
namespace Go.Ar
open Go Go.Vc Go.Proofs
variable {σ:Hp}{F G:Rg}{Y:iE}{tb:List bY}{bud:Nat}{ls:List Li}{b k:Nat}{l:Li}{c:bY}
theorem eB.cls (h:eB σ F Y tb bud ls)(hc:tb[k]?=some c):c.ok/\k<tb.length:=⟨h.ok c (zE hc),(cQ.1 hc).1⟩
theorem kC.st {v:Hp}(h:kC b l σ G){s:Sl}{l':Li}(ho:Ext (· = b) σ v)(hb:bX v b (qM s l'))(hs:cT s 1 (Wv l'.os) σ (λq=>G q/\q≠b))(hc:s.len<=s.cap)(ok:fW l'):kC b l' v G:=
 ⟨h.1,ok,s,hb,aH.bU hs ho λq _ a d=>a.2 d,hc⟩
theorem oW (h:eB σ F Y tb bud ls)(hc:tb[k]?=some c)(hl:ls[k]?=some l){R:Int->Int->Hp->Prop}
 (hR:∀σ' Y',Ext F σ σ'->Y'.p=Y.p->eB σ' (Grow F σ) Y' tb bud (ls.set k (Km c l).2)->R ((Km c l).1.getD 0) (if(Km c l).1.isSome then 0 else 4) σ'):Yt.c (aW Y.p) (k:Int) σ R:=by
 obtain⟨w,hk⟩:=h.cls hc;refine Yt.o ?_;refine BU h hk λv Y' b e hp hb Q=>cG rfl ?_;obtain⟨G,hL,M⟩:=Q.fS e hb hl;have C:=hL;obtain⟨W,i,s,g,N,u⟩:=hL;have D:=Q.hd;rw[hp]at D;have Z:s.len=l.os.length:=by have:=N.1;simp[Wv]at this;omega
 have o1:=i.low;have o2:=i.many;have o3:=i.lim;have o4:=i.rr;have a:=Mf w i;have fin:∀v' G',Ext G v v'->(∀q,G' q->Grow G v q)->kC b (Km c l).2 v' G'->R ((Km c l).1.getD 0) (if(Km c l).1.isSome then 0 else 4) v':=λv' G' V hg U=>by
  obtain⟨B,h2⟩:=M v' _ G' V hg U;exact hR v' Y' B hp h2
 unfold bY.ok at w;have z:∀{v':Hp},Ext (· = b) v v'->Ext G v v':=λV=>V.sub λq y=>by rw[y];exact W
 refine aG (g.rS rfl ?_);by_cases h0:l.os=[]
 ·have X:(Km c l).1=none:=by unfold Km;rw[h0];rfl
  have B:(Km c l).2=if l.lim<c.batch then{l with lim:=l.lim+1}else{l with lim:=min (l.lim+c.batch) 128}:=by unfold Km;rw[h0];rfl
  rw[X,B]at fin;rw[B]at a;refine cJ (by simp[Z,h0]) (aG (D.rS rfl (ya Q.lF hc (d:=2) O ?_)));simp only[zA (show ¬(2=0) by omega),zA (show ¬(2=1) by omega)];refine aG (g.rI rfl (cI (λc1=>?_) λc1=>?_))
  ·have A:l.lim<c.batch:=by omega
   rw[zB A]at fin a;refine aG (g.rI rfl (cA (m:=l.lim+1) O O (aG (g.s1 (by simp[qM]) λv' L j=>?_))));exact fin v' G (z L.ext) (λq y=>.inl y) (C.st L.ext j N u a)
  ·have A:¬l.lim<c.batch:=by omega
   rw[zA A]at fin a;refine aG (g.rI rfl (cA (m:=l.lim+c.batch) O O (aG (g.s1 (by simp[qM]) λv' L j=>?_))));refine fin v' G (z L.ext) (λq y=>.inl y) (C.st L.ext ?_ N u a);have:(if(128:Int)<((l.lim+c.batch:Nat):Int)then(128:Int)else((l.lim+c.batch:Nat):Int))=((min (l.lim+c.batch) 128:Nat):Int):=by split<;>omega
   rw[this]at j;exact j
 ·have hpos:=uf.2 h0;obtain⟨x,hx⟩:∃x,l.os[l.os.length-1]?=some x:=⟨_,cM O⟩;have E:l.os.getLast?=some x:=by rw[List.getLast?_eq_getElem?];exact hx
  have X:(Km c l).1=some x:=by unfold Km;rw[E]
  have B:(Km c l).2 = {l with os:=l.os.dropLast,low:=min l.low (l.os.length-1)}:=by unfold Km;rw[E]
  rw[X,B]at fin;rw[B]at a;refine cG (by simp only[qA];omega) ?_;refine aG (g.rS rfl (cA (m:=l.os.length-1) aC O (aG (g.rS rfl (N.tj hx (aG (g.rS rfl ?_)))))));have r:=cT.sub N (lo:=0) (hi:=l.os.length-1) (mx:=s.cap) O O O;have ed:((Wv l.os).drop (0*1)).take ((l.os.length-1-0)*1)=Wv l.os.dropLast:=by simp[Wv,BO]
  rw[ed]at r;refine jV (lo:=0) O aC aC (aG (g.s1 (by simp[qM]) λv1 S K=>aG (K.rI rfl (aG (K.s1 (by simp[qM]) λv2 P H=>?_)))));have J:=S.ext.trans P.ext;refine fin v2 G (z J) (λq y=>.inl y) (C.st J ?_ r aC a);have:(if((l.os.length-1:Nat):Int)<(l.low:Int)then((l.os.length-1:Nat):Int)else(l.low:Int))=((min l.low (l.os.length-1):Nat):Int):=by split<;>omega
  rw[this]at H;exact H
theorem Wna (h:eB σ F Y tb bud ls)(hc:tb[k]?=some c)(hl:ls[k]?=some l){R:Int->Int->Hp->Prop}
 (hR:∀σ' Y',Ext F σ σ'->Y'.p=Y.p->eB σ' (Grow F σ) Y' tb bud ls->R ((tW c l:Nat):Int) 0 σ'):Yp.c (aW Y.p) (k:Int) σ R:=by
 obtain⟨r,w⟩:=h.cls hc;refine Yp.o ?_;refine BU h w λv Y' b e j A g=>cG rfl ?_;obtain⟨G,x,m⟩:=g.fS e A hl;obtain⟨z,y,s,i,B,u⟩:=x;have a:=g.hd;rw[j]at a;refine aG (i.rI rfl (aG (a.rS rfl (ya g.lF hc (d:=2) O ?_))));simp only[zA (show ¬(2=0) by omega),zA (show ¬(2=1) by omega)];have:(if(c.batch:Int)<(l.lim:Int)then(c.batch:Int)else(l.lim:Int))=((tW c l:Nat):Int):=by unfold tW;split<;>omega
 rw[this];exact hR v Y' e j g
theorem WnW (l:List Int)(i:Nat)(h:i<l.length):l.reverse[i]?=l[l.length-1-i]? := by
 rw[List.getElem?_reverse h]
theorem RU {s:Sl}{xs:List Int}(h:bS s 1 (Wv xs) σ F)(hlen:xs.length<=1000000){R:aP}(hR:∀σ',Ext F σ σ'->bS s 1 (Wv xs.reverse) σ' F->R σ'):W1.c s σ R:=by
 refine W1.o ?_;have Q:s.len=xs.length:=by have:=h.1;simp[Wv]at this;omega
 let kW (i:Nat):List Int:=(List.range xs.length).map λj=>if j<i\/xs.length-i<=j then xs.getD (xs.length-1-j) 0 else xs.getD j 0
 have nX:∀i,(kW i).length=xs.length:=λi=>by simp[kW]
 have bW:∀i j,j<xs.length->(kW i)[j]?=some (if j<i\/xs.length-i<=j then xs.getD (xs.length-1-j) 0 else xs.getD j 0):=λi j d=>by simp[kW,d]
 have P:kW 0=xs:=by
  apply lX;intro j;by_cases d:j<xs.length
  ·rw[bW 0 j d,zA O];simp[zL,cM d]
  ·rw[za (by rw[nX];omega),za O]
 have w:∀i,xs.length<=2*i+1->i<=xs.length->kW i=xs.reverse:=by
  intro i H L;apply lX;intro j;by_cases d:j<xs.length
  ·rw[bW i j d,WnW xs j d,zL,zL,cM (show xs.length-1-j<xs.length by omega),cM d];split
   ·rfl
   ·have:xs.length-1-j=j:=by omega
    simp only[this];rfl
  ·rw[za (by rw[nX];omega),za aE]
 have step:∀i,2*i+1<xs.length->((kW i).set i (xs.getD (xs.length-1-i) 0)).set (xs.length-1-i) (xs.getD i 0)=kW (i+1):=by
  intro i hi;apply lX;intro j;by_cases d:j<xs.length
  ·rw[bW (i+1) j d,sj,sj];simp only[sx,nX];by_cases A:xs.length-1-i=j
   ·subst A;rw[zB rfl,zB O,zB O]
    congr 2;omega
   ·rw[zA A];by_cases B:i=j
    ·subst B;rw[zB rfl,zB O,zB O]
    ·rw[zA B,bW i j d];by_cases e3:j<i\/xs.length-i<=j
     ·rw[zB e3,zB O]
     ·rw[zA e3,zA O]
  ·rw[za (by simp[nX];omega),za (by rw[nX];omega)]
 refine C6 ?_;rw[US O O];refine KA (a:=bN) (bb:=bN) (λ(i j:Int) v=>∃n:Nat,i=(n:Int)/\j=(xs.length:Int)-1-n/\n<=xs.length/\Ext F σ v/\bS s 1 (Wv (kW n)) v F) (λi _ _=>xs.length-i.toNat) ⟨0,rfl,O,O,Ext.refl _ _,by rw[P];exact h⟩ ?_;rintro i j v ⟨n,rfl,rfl,W,ev,r⟩;refine cI (λM=>?_) λS=>?_
 ·have z:2*n+1<xs.length:=by omega
  have G:(xs.length:Int)-1-n=((xs.length-1-n:Nat):Int):=by omega
  rw[G];have E:=bW n (xs.length-1-n) O;have D:=bW n n O;rw[zA O]at E D;rw[zL]at E D;obtain⟨b,p⟩:∃b,s.a=some ⟨b,0,none⟩:=by
   rcases r.2 with⟨q1,q2⟩|⟨b,cs,_,C,_⟩
   ·omega
   ·exact⟨b,C⟩
  have e:∀u,bS s 1 (Wv (kW n)) u F->∀(j:Nat) (x:Int),(kW n)[j]?=some x->cell u (Addr.add ⟨b,0,none⟩ ((j:Int).toNat*1))=some (.int .i64 x):=λu y j x U=>by
   obtain⟨K,o,C,N⟩:=y.gE.cell (j:=j) (v:=.int .i64 x) (by simp[Wv,U]);rw[p]at C;cases C;rw[add_lit,show 0+(j:Int).toNat*1=0+j by omega];exact N
  rw[p];refine⟨λu=>bS s 1 (Wv (kW n)) u F,r,?_⟩;refine ix O O ⟨_,λu y=>e u y _ _ E,?_⟩;refine ix O O ⟨_,λu y=>e u y _ _ D,?_⟩;refine ix O O ?_;refine r.st (j:=n) (by simp[Wv,nX];omega) (λK g=>by rw[p]at g;cases g;rw[add_lit];simp) λV A H=>?_;refine ix O O ?_;refine H.st (j:=xs.length-1-n) (by simp[Wv,nX];omega) (λK g=>by rw[p]at g;cases g;rw[add_lit];simp) λX B L=>?_;refine cA (m:=n+1) O O (cA (m:=xs.length-1-n-1) O O ⟨⟨n+1,rfl,O,O,(ev.trans A).trans B,?_⟩,O⟩);rw[←step n z,zL,zL];have J:∀(l:List Int) (i:Nat) (x:Int),Wv (l.set i x)=(Wv l).set i (.int .i64 x):=λl i x=>by simp[Wv,wQ]
  rw[J,J];exact L
 ·rw[w n O O]at r;exact hR v ev r
theorem Wln (h:kC b l σ G){sl:Sl}(hz:sl.len=0){R:aN}(hR:∀σ',Ext (· = b) σ σ'->kC b l σ' G->R 0 σ'):W3.c (aW b) sl σ R:=by
 refine W3.o ?_;have B:=h;obtain⟨E,j,s,z,g,D⟩:=h;have p:s.len=l.os.length:=by have:=g.1;simp[Wv]at this;omega
 have y:=j.many;refine aG (z.rS rfl (cA (m:=l.os.length) aC O (fJ O (aG (z.rS rfl ?_)))));refine Xl.o ?_;refine jV (lo:=0) aC aC aC ?_;have d:=cT.sub g (lo:=0) (hi:=s.len) (mx:=s.len) O O O;have C:((Wv l.os).drop (0*1)).take ((s.len-0)*1)=Wv l.os:=by rw[p,qx (by simp[Wv])];simp
 rw[C]at d;have key:∀(e:Sl),cT e 1 (Wv l.os) σ (λq=>G q/\q≠b)->e.len<=e.cap->bQ (some ⟨b,0,none⟩) λw=>cY (w.add 0) (.slice e.a e.len e.cap) σ λv2=>R 0 v2:=λe u r=>by
  refine aG (z.s1 (by simp[qM]) λv2 o2 x=>hR v2 o2.ext ?_);exact B.st (l':=l) (s:=e) o2.ext x u r j
 refine⟨Wv l.os,[],by simp[Wv];omega,by simp[hz],d.rd,by cases sl.a<;>simp[Rd],by simp,?_,by simp only;omega,λA=>?_,λi=>absurd (by simp only[hz];omega) i⟩
 ·simp only[hz];have:(s.len-0+0)*8<=256*8:=nC O O;omega
 ·simp only[hz,zt];cases ha:(if s.len=0 then s.a else s.a.map (·.add (0*1)))
  ·rw[ha]at d;exact key ⟨none,s.len-0,s.len-0⟩ d (zD _)
  ·rw[ha]at d;exact key ⟨some _,s.len-0,s.len-0⟩ d (zD _)
theorem Nj (h:kC b l σ G){sl:Sl}{xs:List Int}{X:Rg}(hs:cT sl 1 (Wv xs) σ X)(hfit:l.os.length+xs.length<=256){R:aN}
 (hR:∀σ',Ext (· = b) σ σ'->kC b (eM xs l) σ' (Grow G σ)->R 0 σ'):W3.c (aW b) sl σ R:=by
 by_cases hx:xs=[]
 ·subst hx;have g:eM [] l=l:=by unfold eM;rw[zA (by simp only[pz]at hfit ⊢;omega)];simp
  refine Wln h (by have:=hs.1;simp[Wv]at this;omega) λσ' e d=>hR σ' e ?_;rw[g];exact(kC.loc _ _).mono d λq _ a=>.inl a
 ·exact Wn0 h hs hx hfit λσ' e d=>hR σ' e ((kC.loc _ _).mono d λq _ a=>a.imp (λe=>by rw[e];exact h.1) id)
theorem Wng (h:eB σ F Y tb bud ls)(hc:tb[k]?=some c)(hl:ls[k]?=some l){sl:Sl}{xs:List Int}{X:Rg}(hs:cT sl 1 (Wv xs) σ X)(hX:∀q,X q->¬F q)(hfit:l.os.length+xs.length<=256){R:aN}
 (hR:∀σ' Y',Ext F σ σ'->Y'.p=Y.p->eB σ' (Grow F σ) Y' tb bud (ls.set k (eM xs.reverse l))->R 0 σ'):Yd.c (aW Y.p) (k:Int) sl σ R:=by
 obtain⟨u,x⟩:=h.cls hc;have w:sl.len=xs.length:=by have:=hs.1;simp[Wv]at this;omega
 refine Yd.o ?_;refine BU h x λv Y' b e C J B=>cG rfl ?_;have j:=aH.bU hs e λq _ a=>hX q a;refine HC j Vm O λs1 K D H i=>?_;refine RU i O λv2 y r=>?_;have g:bO v v2:=Ext.fresh H y λq a=>a;obtain⟨G,s,d⟩:=(B.bK g).fS (e.trans (bO.to g)) J hl;refine Nj s r.gE aE λv3 z m=>?_;obtain⟨A,E⟩:=d v3 _ _ (z.sub λq a=>a▸s.1) (λq a=>a) m;exact hR v3 Y' A C E
theorem Qq {α:Type}{ls:List α}{k:Nat}{l:α}(h:ls[k]?=some l):ls.set k l=ls:=by
 apply lX;intro j;by_cases hj:j=k
 ·subst hj;rw[zO (cQ.1 h).1,h]
 ·rw[zm (Ne.symm hj)]
theorem Rt (h:eB σ F Y tb bud ls)(hc:tb[k]?=some c)(hl:ls[k]?=some l)(x:Int){R:Sl->Int->Hp->Prop}
 (hR:∀σ' Y' s e (Q:Rg),Ext F σ σ'->Y'.p=Y.p->(l.os.length+1<=256->e=0)->(∀q,Q q->σ.size<=q)->bS s 1 (Wv (dR c x l).1) σ' Q->eB σ' (λq=>Grow F σ q/\¬Q q) Y' tb bud (ls.set k (dR c x l).2)->R s e σ'):YW.c (aW Y.p) (k:Int) x σ R:=by
 obtain⟨ac,hk⟩:=h.cls hc;refine YW.o ?_;refine BU h hk λv Y' b e hp hb h'=>cG rfl ?_;have hσv:=e.1;obtain⟨G,hG,hL,_,aa⟩:=h'.Af hb hl;have hblt:b<v.size:=by obtain⟨_,_,s,hbk,_⟩:=hL;exact hbk.lt
 have u:=hL.1;have S:=hL.2.1;have hmany:=S.many;have r:∀(σ':Hp) (l':Li) (G':Rg),Ext G v σ'->(∀q,G' q->Grow G v q)->kC b l' σ' G'->Ext F σ σ'/\eB σ' (λq=>Grow F σ q/\q<v.size/\¬G q\/G' q) Y' tb bud (ls.set k l'):=λσ' l' G' e' hg hL'=>by
  obtain⟨E,h1⟩:=aa σ' l' G' e' hg hL';exact⟨e.iV E,h1⟩
 have hin:∀{G':Rg} {q:Nat},(∀q,G' q->Grow G v q)->(Grow F σ q/\q<v.size/\¬G q\/G' q)->Grow F σ q:=λhg a=>by
  rcases a with a|a
  ·exact a.1
  ·rcases hg _ a with H|H
   ·exact hG _ H
   ·exact .inr O
 refine nw (cs:=[.int .i64 x]) λv1 hz1 E hb1=>?_;have U:=(kC.loc _ _).bK hL E;have W:cT ⟨some ⟨v.size,0,none⟩,1,1⟩ 1 (Wv [x]) v1 (· = v.size):=hb1.gE (o:=0) rfl (by simp[Wv]) (λj hj=>by
  simp only[Wv,zH,uB,zN,pz]at hj ⊢;rw[zI])
 by_cases hfit:l.os.length+1<=256
 ·refine Nj U W (by simpa using hfit) λv2 e2 C=>cG rfl ?_;have B:Ext G v v2:=(bO.to E).trans (e2.sub λq a=>a▸u);have P:∀q,Grow G v1 q->Grow G v q:=λq a=>a.imp id λZ=>by omega
  obtain⟨eF2,H⟩:=r v2 _ _ B P C;have i:(eM [x] l).os=l.os++[x]/\(eM [x] l).lim=l.lim/\(eM [x] l).low=l.low:=by unfold eM;rw[zA (by simp only[zN,pz];omega)];exact⟨rfl,rfl,rfl⟩
  have w:=C;obtain⟨_,ok2,s2,g,N,A⟩:=C;have hs2l:s2.len=l.os.length+1:=by have:=N.1;simp[Wv,i.1]at this;omega
  refine aG (g.rS rfl (aG (g.rI rfl ?_)));rw[i.2.1];refine cI (λc1=>?_) λc1=>?_
  ·have D:l.os.length+1<=l.lim:=by simp only at c1;omega
   have y:dR c x l=([],eM [x] l):=by unfold dR;rw[zA O,zB D]
   refine hR v2 Y' _ 0 (λ_=>False) eF2 hp (λ_=>rfl) (λq a=>a.elim) (by rw[y];exact bS.nil _ _ _ _) ?_;rw[y];exact H.mono λq _ a=>⟨hin P a,id⟩
  ·have D:¬l.os.length+1<=l.lim:=by simp only at c1;omega
   have y:dR c x l=gX (min c.batch (l.os.length+1)) (qi c (eM [x] l)):=by unfold dR;rw[zA O,zA D]
   have J:=H.hd;rw[hp]at J;refine aG (J.rS rfl (ya H.lF hc (d:=2) O ?_));simp only[zA (show ¬(2=0) by omega),zA (show ¬(2=1) by omega)];refine Jn.intro ?_;have rest:∀v3,Ext (· = b) v2 v3->kC b (qi c (eM [x] l)) v3 (Grow G v1)->bQ (some ⟨b,0,none⟩) λa62=>kG (a62.add 0) v3 λL=>Xe.c (aW b) (if((L.len:Nat):Int)<(c.batch:Int)then((L.len:Nat):Int)else(c.batch:Int)) v3 λt67 v4=>R t67 0 v4:=by
    intro v3 e3 hL3;have K:=hL3;obtain⟨_,ok3,s3,V,hs3,hcap3⟩:=hL3;have X:(qi c (eM [x] l)).os=l.os++[x]:=by unfold qi;split<;>exact i.1
    have ab:s3.len=l.os.length+1:=by have:=hs3.1;simp[Wv,X]at this;omega
    refine aG (V.rS rfl ?_);have em:(if((s3.len:Nat):Int)<(c.batch:Int)then((s3.len:Nat):Int)else(c.batch:Int))=((min c.batch (l.os.length+1):Nat):Int):=by rw[ab];split<;>omega
    rw[em];refine Gx K (by rw[X];simp;omega) λs z v4 e4 hz hr hL4=>?_;have e24:Ext (· = b) v2 v4:=e3.trans e4;have e04:Ext G v v4:=B.trans (e24.sub λq a=>a▸u);have hs23:=e3.1;have hs02:=B.1;obtain⟨eF4,h4⟩:=r v4 _ (λq=>q=b\/z<=q) e04 (λq a=>a.imp (λ(Z:q=b)=>by rw[Z];exact u) λ(Z:z<=q)=>O) hL4;refine hR v4 Y' s 0 (λq=>v3.size<=q/\q<z) eF4 hp (λ_=>rfl) (λq a=>O) (by rw[y];exact hr) ?_;rw[y];refine h4.mono λq _ a=>⟨?_,λhQ=>?_⟩
    ·rcases a with a|a|a
     ·exact a.1
     ·subst a;exact hG _ u
     ·exact .inr O
    ·rcases a with a|a|a<;>omega
   refine aG (g.rI rfl ?_);rw[i.2.1];refine cI (λc2=>?_) λc2=>?_
   ·have c2':l.lim<c.batch:=by omega
    have eu:qi c (eM [x] l) = {eM [x] l with lim:=l.lim+1}:=by unfold qi;rw[i.2.1,zB c2']
    have M:=Lt ac ok2;refine aG (g.rI rfl ?_);rw[i.2.1];have hl128:=S.lim;refine cA (m:=l.lim+1) O O (aG (g.s1 (by simp[qM]) λv3 o3 hb3=>rest v3 o3.ext ?_));rw[eu]at M ⊢;exact w.st o3.ext hb3 N A M
   ·have eu:qi c (eM [x] l)=eM [x] l:=by unfold qi;rw[i.2.1,zA O]
    exact rest v2 (Ext.refl _ _) (by rw[eu];exact w)
 ·refine OS U W (by simpa using hfit) aA (cJ rfl ?_);have y:dR c x l=([],l):=by unfold dR;rw[zB O]
  refine hR v1 Y' _ 6 (λ_=>False) (e.trans (bO.to E)) hp (λZ=>absurd Z hfit) (λq a=>a.elim) (by rw[y];exact bS.nil _ _ _ _) ?_;rw[y,Qq hl];exact(h'.bK E).mono λq _ a=>⟨a,id⟩
end Go.Ar
namespace Go.Ar
open Go Go.Vc Go.Proofs
open Go.Bu (Zg QW Zv jH)
variable {σ:Hp}{F:Rg}{p hs:Nat}{A:AR}{Y:Lay}{T:Nat->Hp->Rg->Prop}
theorem cX.vn (h:cX σ F Y A T){k q:Nat}{c:bY}{ss:List cH}(h1:Y.fM[k]?=some q)(h2:A.tb[k]?=some c)(h3:A.cB[k]?=some ss) :
 ∃G:Rg,(∀b,G b->F b)/\(∃ps,fC σ G q c ps ss)/\(∀j,∃H:Rg,(∀b,H b->F b)/\(∀b,H b->¬G b)/\T j σ H)/\∀(σ':Hp) (ss':List cH) (ps':List (Nat×Nat)) (G' H:Rg),
  Ext G σ σ'->(∀b,G' b->G b\/σ.size<=b)->fC σ' G' q c ps' ss'->(∀b,(F b/\b<σ.size/\¬G b\/G' b)->H b)->cX σ' H Y {A with cB:=A.cB.set k ss'} T:=by
 obtain⟨G,i,p,hd,a⟩:=h.step (.cB k);have d:k<A.cB.length:=(cQ.1 h3).1;refine⟨G,i,Oy h1 h2 h3 p,λj=>hd (.cE j) (by intro e;cases e),λσ' ss' ps' G' H e m g r=>?_⟩;refine a σ' _ _ T G' H h.lay.oL h.tl SC e m ?_ r;simp only[AC];rw[h1,h2,zO d];exact⟨ps',g⟩
theorem Wbt (h:cX σ F Y A T)(k m:Int){R:Sl->Int->Hp->Prop}(hR:∀s σ',Ext F σ σ'->bS s 1 (ints (Yu A k m)) σ' (λb=>σ.size<=b)->cX σ' (Cut F σ) Y (YR A k m) T->R s (QL A k m) σ') :
 WG.c (aW Y.p) k m σ R:=by
 refine WG.o ?_;refine UE h k (λw=>?_) λx J z=>?_
 ·have a:QL A k m=1:=by unfold QL;rw[w];rfl
  have i:YR A k m=A:=by unfold YR;rw[a];rfl
  have j:Yu A k m=[]:=by unfold Yu;rw[a];rfl
  have:=hR ⟨none,0,0⟩ σ (Ext.refl _ _) (by rw[j];exact bS.nil _ _ _ _) (by rw[i];exact h.cut);rw[a]at this;exact cJ rfl this
 ·subst J;have w:A.ck (x:Int)=true:=by unfold AR.ck;simp;omega
  obtain⟨c,ss,q,t,r,C,d,D,_,_,K⟩:=h.at_ z;obtain⟨G,H,⟨M,B⟩,_,u⟩:=h.vn D C d;refine cG rfl (aG (h.hd.rS rfl (h.mV D ?_)));by_cases hm:m<0
  ·have a:QL A x m=1:=by unfold QL;rw[w,zB rfl,zB hm]
   have i:YR A x m=A:=by unfold YR;rw[a];rfl
   have j:Yu A x m=[]:=by unfold Yu;rw[a];rfl
   have:=hR ⟨none,0,0⟩ σ (Ext.refl _ _) (by rw[j];exact bS.nil _ _ _ _) (by rw[i];exact h.cut);rw[a]at this;exact TV B m hm this
  ·have a:QL A x m=0:=by unfold QL;rw[w,zB rfl,zA hm]
   have E:VQ A x m=Ki c m.toNat ss:=by unfold VQ;simp only[dE];rw[C,d]
   have i:YR A x m = {A with cB:=A.cB.set x (Ki c m.toNat ss).2}:=by unfold YR;rw[a,zB rfl,E];rfl
   have j:Yu A x m=(Ki c m.toNat ss).1:=by unfold Yu;rw[a,zB rfl,E]
   refine Rf B m O λs σ' e g y=>?_;have:=hR s σ' (e.sub H) (by rw[j];exact g) (by rw[i];exact u σ' _ _ (Cut G σ) _ e (λb L=>.inl L.1) y (DR H));rw[a]at this;exact this
theorem δ {k:Nat}{f:fT->fT}:∀j,j≠Lb.cE k->AC {A with cE:=A.cE.modify k f} Y (cF {A with cE:=A.cE.modify k f} Y) j=AC A Y (cF A Y) j:=by
 intro j hj;cases j<;>first|rfl|skip
 rename_i k';have a:k≠k':=λe=>hj (by rw[e]);simp only[AC,cF];simp[xX,a]
theorem eZ.mQ {k:Nat}{f:fT->fT}(h:eZ A Y):eZ {A with cE:=A.cE.modify k f} Y:=⟨h.c,h.t,h.cB,by simpa using h.cE,h.qZ,h.sf,h.n1,h.n2,h.n3,h.st,h.room,h.ok⟩
theorem cX.xz (h:cX σ F Y A (cF A Y)){k q:Nat}{c:bY}{t:fT}(h1:Y.gF[k]?=some q)(h2:A.tb[k]?=some c)(h3:A.cE[k]?=some t) :
 ∃G:Rg,(∀b,G b->F b)/\iT σ G q c.batch A.room t/\∀(σ':Hp) (f:fT->fT) (G' H:Rg),
  Ext G σ σ'->(∀b,G' b->G b\/σ.size<=b)->iT σ' G' q c.batch A.room (f t)->(∀b,(F b/\b<σ.size/\¬G b\/G' b)->H b)->cX σ' H Y {A with cE:=A.cE.modify k f} (cF {A with cE:=A.cE.modify k f} Y):=by
 obtain⟨G,m,g,hd,a⟩:=h.step (.cE k);have d:iT σ G q c.batch A.room t:=by
  simp only[AC,cF]at g;rw[h1,h2,h3]at g;exact g
 refine⟨G,m,d,λσ' f G' H e p i r=>?_⟩;refine a σ' _ _ _ G' H h.lay.mQ (λj=>cF.loc j) δ e p ?_ r;simp only[AC,cF];rw[h1,h2,List.getElem?_modify_eq,h3];exact i
theorem G6 (h:cX σ F Y A (cF A Y))(k:Int){R:Sl->Int->Hp->Prop}(hR:∀s σ',Ext F σ σ'->(∀b,oB s b->F b)->cT s 1 (Wv (YN A k)) σ' (oB s)->s.len<=s.cap->cX σ' (λb=>F b/\¬oB s b) Y (ZR A k) (cF (ZR A k) Y)->R s (Z9 A k) σ') :
 WB.c (aW Y.p) k σ R:=by
 refine WB.o ?_;refine UE h k (λC=>?_) λx S E=>?_
 ·have g:Z9 A k=1:=by unfold Z9;rw[C];rfl
  have y:ZR A k=A:=by unfold ZR;rw[g];rfl
  have m:YN A k=[]:=by unfold YN;rw[g];rfl
  have:=hR ⟨none,0,0⟩ σ (Ext.refl _ _) (λb d=>by obtain⟨a,i,_⟩:=d;cases i) (by rw[m];exact cT.nil _ _ _ _) (zD _) (by rw[y];exact h.mono λb _ d=>⟨d,λ⟨a,i,_⟩=>by cases i⟩);rw[g]at this;exact cJ rfl this
 ·subst S;have C:A.ck (x:Int)=true:=by unfold AR.ck;simp;omega
  obtain⟨c,V,q,t,r,N,M,U,D,L,Q⟩:=h.at_ E;obtain⟨G,H,K,z⟩:=h.xz L N D;refine cG rfl (aG (h.hd.rS rfl (h.sP L ?_)));by_cases d:t.bs=[]
  ·have g:Z9 A x=4:=by unfold Z9;rw[C,zB rfl];simp only[dE];rw[D];simp[d]
   have y:ZR A x=A:=by unfold ZR;rw[g];rfl
   have m:YN A x=[]:=by unfold YN;rw[g];rfl
   have:=hR ⟨none,0,0⟩ σ (Ext.refl _ _) (λb d=>by obtain⟨a,i,_⟩:=d;cases i) (by rw[m];exact cT.nil _ _ _ _) (zD _) (by rw[y];exact h.mono λb _ d=>⟨d,λ⟨a,i,_⟩=>by cases i⟩);rw[g]at this;exact Pg K d this
  ·have g:Z9 A x=0:=by unfold Z9;rw[C,zB rfl];simp only[dE];rw[D];simp[d]
   have y:ZR A x = {A with cE:=A.cE.modify x fT.rem}:=by unfold ZR;rw[g,zB rfl];rfl
   have m:YN A x=t.bs.getLast?.getD []:=by unfold YN;rw[g,zB rfl];simp only[dE];rw[D]
   refine TE K d λs σ' e j w u J=>?_;have B:∀b,(F b/\b<σ.size/\¬G b\/G b/\¬oB s b)->F b/\¬oB s b:=λb d=>by
    rcases d with d|d
    ·exact⟨d.1,λP=>d.2.2 (j b P)⟩
    ·exact⟨H b d.1,d.2⟩
   have:=hR s σ' (e.sub H) (λb d=>H b (j b d)) (by rw[m];exact w) u (by rw[y];exact z σ' _ (λb=>G b/\¬oB s b) _ e (λb d=>.inl d.1) J B);rw[g]at this;exact this
theorem RF (h:cX σ F Y A (cF A Y))(k:Int){sl:Sl}{xs:List Int}{X:Rg}(hs:cT sl 1 (Wv xs) σ X)(hi:∀x∈xs,iX x){R:Bool->Int->Hp->Prop}(hR:∀σ',Ext F σ σ'->cX σ' (Grow F σ) Y (Kh A k xs) (cF (Kh A k xs) Y)->R (Vu A k xs) (HU A k xs) σ') :
 WL.c (aW Y.p) k sl σ R:=by
 refine WL.o ?_;have w:sl.len=xs.length:=by have:=hs.1;simp[Wv]at this;omega
 have no:∀e:Int,e≠0->HU A k xs=e->R false e σ:=λe he D=>by
  have e3:Vu A k xs=false:=by unfold Vu;rw[zg O];rfl
  have L:Kh A k xs=A:=by unfold Kh;rw[e3];rfl
  have:=hR σ (Ext.refl _ _) (by rw[L];exact h.mono λb _ g=>.inl g);rw[D,e3]at this;exact this
 refine UE h k (λS=>cJ rfl (no 1 aB (by unfold HU;rw[S];rfl))) λx Q U=>?_;subst Q;have S:A.ck (x:Int)=true:=by unfold AR.ck;simp;omega
 obtain⟨c,Z,q,t,r,N,H,hq,ht,hr,V⟩:=h.at_ U;obtain⟨G1,ps,hG1,hCe⟩:=h.cB hq N H;obtain⟨G,hG,hC,M⟩:=h.xz hr N ht;have P:HU A x xs=if xs.length=c.batch then(if xs.all (λx=>eI c Z x==some true)then 0 else 8)else 1:=by unfold HU;rw[S,zB rfl];simp only[dE];rw[N,H]
 refine cG rfl (aG (h.hd.rS rfl (h.Ao (d:=2) N O ?_)));simp only[zA (show ¬(2=0) by omega),zA (show ¬(2=1) by omega)];rw[xH];refine cU (λg=>?_) λg=>?_
 ·have:¬xs.length=c.batch:=by rw[←w];simpa using g
  exact no 1 aB (by rw[P,zA this])
 have E:xs.length=c.batch:=by rw[←w];simpa using g
 rw[zB E]at P;have h32:c.batch<=32:=V.2.2.2.2.2.2.2;refine ZV (a:=bN) (λ(i:Int) v=>∃j:Nat,i=(j:Int)/\j<=xs.length/\v=σ/\∀y∈xs.take j,eI c Z y=some true) (λi _=>xs.length-i.toNat) ⟨0,rfl,O,rfl,by simp⟩ ?_;rintro i v ⟨j,rfl,hj,rfl,s⟩;refine cI (λhlt2=>?_) λhge=>?_
 ·have J:j<xs.length:=by omega
  have Q:xs[j]?=some xs[j]:=cM J;have W:xs.take (j+1)=xs.take j++[xs[j]]:=by rw[zl,Q];rfl
  have u:=zf J;generalize xs[j]=y at *;have K:eI c Z y≠some true->R false 8 v:=λhn=>no 8 aB (by
   rw[P,zA];intro ha;rw[nD]at ha;exact hn (by simpa using ha y u))
  refine hs.tj Q (aG (h.hd.rS rfl (h.mV hq (LY hCe _ (hi y u) (λb g=>?_) λg=>?_))))
  ·refine bZ.intro (cG rfl ?_);cases b
   ·exact cJ rfl (K (by rw[g];simp))
   ·refine cG rfl (cA (m:=j+1) O O ⟨⟨j+1,rfl,O,rfl,λz hz=>?_⟩,O⟩);rw[W]at hz;rcases zU.1 hz with D|D
    ·exact s z D
    ·simp at D;rw[D];exact g
  ·exact bZ.intro (cJ rfl (cJ rfl (K (by rw[g];simp))))
 ·have:j=xs.length:=by omega
  subst this;rw[zo]at s;have B:HU A x xs=0:=by
   rw[P,zB];rw[nD];intro y hy;simp[s y hy]
  have C:Vu A x xs=decide (t.bs.length<A.room):=by unfold Vu;rw[B];simp only[dE];rw[ht];simp
  refine aG (h.hd.rS rfl (h.sP hr (Wjo hC hs O (λhn=>absurd E hn) (λ_ hf=>?_) λ_ hf σ' e hC'=>?_)))
  ·rw[zg O]at C;have L:Kh A x xs=A:=by unfold Kh;rw[C];rfl
   have:=hR v (Ext.refl _ _) (by rw[L];exact h.mono λb _ g=>.inl g);rw[B,C]at this;exact this
  ·rw[zT O]at C;have L:Kh A x xs = {A with cE:=A.cE.modify x λt=>{t with bs:=t.bs++[xs]}}:=by unfold Kh;rw[C,zB rfl];rfl
   have:=hR σ' (e.sub hG) (by rw[L];exact M σ' (λt=>{t with bs:=t.bs++[xs]}) (Grow G v) _ e (λb g=>g) hC' (Hl hG λb g=>g));rw[B,C]at this;exact this
theorem fC.JY {q:Nat}{c:bY}{ps:List (Nat×Nat)}{ss:List cH}{G:Rg}(h:fC σ G q c ps ss):∀s∈ss,s.st<=1024:=by
 intro s hs;obtain⟨i,a⟩:=zM hs;have d:=(cQ.1 a).1;have b:i<ps.length:=by rw[h.len];exact d
 have:=(h.sp _ _ _ (cM b) a).fit;omega
theorem GU (h:cX σ F Y A T)(k:Int){sl:Sl}{xs:List Int}(hi:∀x∈xs,iX x)(hl:xs.length<=1000000)(hcap:sl.len<=sl.cap)
 (hs:(∃X:Rg,cT sl 1 (Wv xs) σ X/\∀b,b<σ.size->X b->¬F b)\/∃j,∀H,T j σ H->cT sl 1 (Wv xs) σ H)
 {R:aN} (hR:∀σ',Ext F σ σ'->cX σ' (Grow F σ) Y (Zf A k xs) T->R (Q5 A k xs) σ') :
 WE.c (aW Y.p) k sl σ R:=by
 refine WE.o ?_;have no:∀e:Int,e≠0->Q5 A k xs=e->R e σ:=λe he Q=>by
  have Z:Zf A k xs=A:=by unfold Zf;rw[zA O]
  have:=hR σ (Ext.refl _ _) (by rw[Z];exact h.mono λb _ d=>.inl d);rw[Q]at this;exact this
 refine UE h k (λE=>cJ rfl (no 1 aB (by unfold Q5;rw[E];rfl))) λx hx J=>?_;subst hx;have E:A.ck (x:Int)=true:=by unfold AR.ck;simp;omega
 obtain⟨c,g,q,t,r,L,u,hq,_,_,hok⟩:=h.at_ J;obtain⟨G,V,⟨ps,K⟩,hd,C⟩:=h.vn hq L u;have hX:∃X:Rg,cT sl 1 (Wv xs) σ X/\∀b,X b->¬G b:=by
  rcases hs with⟨X,Q,h2⟩|⟨j,hj⟩
  ·exact⟨Cut X σ,aH.cut Q,λb d hg=>h2 b d.2 d.1 (V b hg)⟩
  ·obtain⟨H,_,D,hT⟩:=hd j;exact⟨H,hj H hT,D⟩
 obtain⟨X,M,W⟩:=hX;have N:Q5 A x xs=jM c g xs:=by unfold Q5;rw[E,zB rfl];simp only[dE];rw[L,u]
 refine cG rfl (aG (h.hd.rS rfl (h.mV hq (Wn8 K M W hi hl hcap (λD=>?_) λh0 o σ1 U m aa=>?_))))
 ·refine cJ (by simpa using D) (no _ D N)
 ·refine cG rfl ?_;have eS:Zf A x xs=VZ {A with cB:=A.cB.set x (cK (xs.foldl (fQ c) g))} ((Z8 (xs.foldl (fQ c) g)).map λs=>(s,c.aF)):=by
   unfold Zf;rw[N,zB h0];simp only[dE];rw[L,u]
  have P:=C σ1 _ _ (Cut G σ) _ U (λb d=>.inl d.1) aa (DR V);rw[Oa]at m;have B:((Z8 (xs.foldl (fQ c) g)).map λs=>(s,c.aF)).length<=1000000/\∀r∈((Z8 (xs.foldl (fQ c) g)).map λs=>(s,c.aF)),r.1<=1000000:=by
   have i:∀(ys:List Int) (ls:List cH),((ys.foldl (fQ c) ls).map (·.st))=ls.map (·.st):=by
    intro ys
    induction ys with
    | nil=>intro ls;rfl
    | cons y ys ih=>
     intro ls;rw[oE,ih];unfold fQ;split
     ·rename_i j hj;split
      ·rename_i s a;split
       ·simp only[wQ];apply lX;intro z;rw[sj];by_cases w:j=z
        ·subst w;rw[zB rfl];have:=(cQ.1 a).1;rw[zB (by simpa using this)];simp[a,cH.put]
        ·rw[zA w]
       ·rfl
      ·rfl
     ·rfl
   have S:∀s∈Z8 (xs.foldl (fQ c) g),s∈g.map (·.st):=by
    intro s a;rw[←i xs g];unfold Z8 at a;simp only[zC,zF]at a ⊢;obtain⟨z,w,rfl⟩:=a;exact⟨z,w.1,rfl⟩
   have hfew:=K.oD;refine⟨?_,λr hr=>?_⟩
   ·have:(Z8 (xs.foldl (fQ c) g)).length<=(xs.foldl (fQ c) g).length:=by
     unfold Z8;rw[zX];exact qB _ _
    have h2:(xs.foldl (fQ c) g).length=g.length:=by have:=congrArg List.length (i xs g);simpa using this
    rw[zX];omega
   ·obtain⟨s,a,rfl⟩:=zC.1 hr;obtain⟨z,w,rfl⟩:=zC.1 (S s a);have:=K.JY z w;simp only;omega
  refine DF P m.gE (λb _ d hf=>by have:=hf.2;omega) B.1 B.2 λσ2 Z ab=>?_;have:=hR σ2 ((U.sub V).trans (Z.sub λb d=>d.1)) ?_
  ·rw[N,h0]at this;exact this
  ·rw[eS];exact ab.mono λb _ d=>by
    rcases d with d|d
    ·exact .inl d.1
    ·exact .inr (zJ U.1 d)
theorem RS (l:List (Nat×Nat))(x:Int):bW (iS l) x=(l.find? λr=>(r.1:Int)==x).map λr=>(r.2:Int):=by
 induction l with
 | nil=>rfl
 | cons r l ih=>
  have:iS (r::l)=((r.1:Int),(r.2:Int))::iS l:=rfl;rw[this,Ks,yK,ih];by_cases h:(r.1:Int)=x
  ·simp[h]
  ·have:((r.1:Int)==x)=false:=by simpa using h
   rw[this,zA h]
theorem O4 (l:List (Nat×Nat))(x:Int):cR (iS l) x=iS (l.filter λq=>!((q.1:Int)==x)):=by
 unfold cR iS;rw[List.filter_map];rfl
theorem Wld (l:List (Nat×Nat))(x m:Nat):dG (iS l) (x:Int) (m:Int)=iS (cD.mset2 l x m):=by
 unfold dG cD.mset2 iS;have e:(l.map λr=>((r.1:Int),(r.2:Int))).any (λy=>y.1==(x:Int))=l.any λr=>r.1==x:=by
  rw[List.any_map]
  congr 1
  funext r
  exact lP r.1 x
 rw[e];split
 ·rw[zk,zk];apply ze;intro r _;simp only[Function.comp_def];rw[lP];split<;>rfl
 ·simp
theorem cX.tJ (h:cX σ F Y A T):F Y.rn/\dN σ Y.rn .i64 bN (iS A.runs)/\∀(σ':Hp) (rs:List (Nat×Nat)),QJ σ σ' Y.rn->dN σ' Y.rn .i64 bN (iS rs)->cX σ' F Y {A with runs:=rs} T:=by
 obtain⟨G,g,⟨e,m⟩,_,d⟩:=h.step .runs;refine⟨g _ e,m,λσ' rs j p=>?_⟩;exact d σ' _ _ T G _ h.lay.uJ h.tl OV (j.ext.sub λb a=>by subst a;exact e) (λb a=>.inl a) ⟨e,p⟩ (Cd g λb a=>a)
theorem WdL (h:cX σ F Y A T)(x:Int)(hf:∀r∈A.runs,r.1<=1000000){R:aN}(hR:∀σ',Ext F σ σ'->cX σ' (Grow F σ) Y (QO A x) T->R (Ve A x) σ') :
 WV.c (aW Y.p) x σ R:=by
 refine WV.o ?_;obtain⟨P,L,g⟩:=h.tJ;refine Vj h (cG rfl (aG (h.hd.rM rfl ⟨_,L,?_⟩)));rw[RS];cases hr:(A.runs.find? λr=>(r.1:Int)==x)with
 | none=>
  have J:Ve A x=8:=by unfold Ve uz;rw[hr];rfl
  have z:QO A x=A:=by unfold QO uz;rw[hr]
  have:=hR σ (Ext.refl _ _) (by rw[z];exact h.mono λb _ a=>.inl a);rw[J]at this;exact cJ rfl this
 | some r=>
  have J:Ve A x=0:=by unfold Ve uz;rw[hr];rfl
  have z:QO A x=Ui {A with runs:=A.runs.filter λq=>!((q.1:Int)==x)} r:=by unfold QO uz;rw[hr]
  have B:=wq hr;have y:(r.1:Int)=x:=by simpa using wk hr
  refine cG rfl (aG (h.hd.rM rfl ⟨_,L,λm w _ C=>?_⟩));have o1:=w _ rfl;have d:dN m Y.rn .i64 bN (cR (iS A.runs) x):=C;rw[O4]at d;have E:=g m _ o1 d;simp only[zj,sS];refine nw (cs:=[.int .i64 x,.int .i64 (r.2:Int)]) λS Q e G=>?_;have H:=E.cut.bK e;have s:cT ⟨some ⟨m.size,0,none⟩,1,1⟩ 2 (rV [r]) S (· = m.size):=by
   refine⟨rfl,.inr ⟨_,0,_,rfl,rfl,G.q,λj U=>?_⟩⟩;have:rV [r]=[.int .i64 (r.1:Int),.int .i64 (r.2:Int)]:=rfl;rw[this,y,zI]
  refine DF H s (λb _ a N=>by have:=N.2;omega) aA (λq K=>by simp at K;subst K;exact hf _ B) λv3 M D=>?_;have u:Ext F σ v3:=(o1.ext.sub λb a=>by subst a;exact P).trans ((bO.to e).trans (M.sub λb a=>a.1));have:=hR v3 u (by
   rw[z];exact D.mono λb _ a=>by
    rcases a with a|a
    ·exact .inl a.1
    ·exact .inr (by have:=o1.1;omega))
  rw[J]at this;exact this
theorem Ql (rs:List (Nat×Nat)):∀A:AR,(VZ A rs).tb=A.tb/\(VZ A rs).room=A.room/\(VZ A rs).cE=A.cE/\(VZ A rs).cB=A.cB/\(VZ A rs).runs=A.runs/\(VZ A rs).n=A.n:=by
 induction rs with
 | nil=>intro A;exact⟨rfl,rfl,rfl,rfl,rfl,rfl⟩
 | cons r rs ih=>intro A;exact ih (Ui A r)
theorem VS (A:AR)(k:Int)(xs:List Int):(Zf A k xs).tb=A.tb/\(Zf A k xs).room=A.room/\(Zf A k xs).cE=A.cE/\(Zf A k xs).runs=A.runs/\(Zf A k xs).n=A.n:=by
 unfold Zf;split
 ·split
  ·exact⟨(Ql _ _).1,(Ql _ _).2.1,(Ql _ _).2.2.1,(Ql _ _).2.2.2.2.1,(Ql _ _).2.2.2.2.2⟩
  ·exact⟨rfl,rfl,rfl,rfl,rfl⟩
 ·exact⟨rfl,rfl,rfl,rfl,rfl⟩
theorem cX.Pq {T':Nat->Hp->Rg->Prop}(h:cX σ F Y A T)(hT:∀k,dS (T' k))(hi:∀k G,T k σ G->T' k σ G):cX σ F Y A T':=by
 refine⟨h.lay,hT,?_⟩;obtain⟨ρ,a⟩:=h.sep;refine⟨ρ,λi=>?_⟩;have:=a i;cases i<;>first|exact this|exact hi _ _ this
theorem RG (h:cX σ F Y A T){k:Nat}(hk:k<A.tb.length){q:Nat}(hq:Y.fM[k]?=some q){K:aP}(hK:∀σ',Ext F σ σ'->cX σ' (Grow F σ) Y (QV A k) T->K σ') :
 WZ.c (aW q) σ λt34 v2=>Xi.c (aW Y.p) t34 v2 K:=by
 obtain⟨c,m,V,t,r,D,g,j,_,_,L⟩:=h.at_ hk;rw[hq]at j;cases j;obtain⟨G,E,⟨U,u⟩,hd,i⟩:=h.vn hq D g;refine JT u λo Q y d B=>?_;have x:=i Q _ _ (Cut G σ) _ y (λb a=>.inl a.1) B (DR E);rw[Oa]at d;have N:QV A k=VZ {A with cB:=A.cB.set k (cK m)} ((Z8 m).map λs=>(s,c.aF)):=by
  unfold QV;rw[D,g]
 have H:=u.oD;have w:=u.JY;refine DF x d.gE (λb _ a R=>by have:=R.2;omega) ?_ (λr M=>?_) λS P C=>?_
 ·have:(Z8 m).length<=m.length:=by unfold Z8;rw[zX];exact qB _ _
  rw[zX];omega
 ·obtain⟨s,e,rfl⟩:=zC.1 M;unfold Z8 at e;simp only[zC,zF]at e;obtain⟨z,J,rfl⟩:=e;have:=w z J.1;simp only;omega
 ·refine hK S ((y.sub E).trans (P.sub λb a=>a.1)) ?_;rw[N];exact C.mono λb _ a=>by
   rcases a with a|a
   ·exact .inl a.1
   ·exact .inr (zJ y.1 a)
theorem TB (A:AR)(k:Nat):(QV A k).tb=A.tb/\(QV A k).room=A.room/\(QV A k).cE=A.cE/\(QV A k).runs=A.runs/\(QV A k).n=A.n:=by
 unfold QV;split
 ·exact⟨(Ql _ _).1,(Ql _ _).2.1,(Ql _ _).2.2.1,(Ql _ _).2.2.2.2.1,(Ql _ _).2.2.2.2.2⟩
 ·exact⟨rfl,rfl,rfl,rfl,rfl⟩
theorem VO (m:Nat)(A:AR):((List.range m).foldl QV A).tb=A.tb/\((List.range m).foldl QV A).room=A.room/\((List.range m).foldl QV A).cE=A.cE/\((List.range m).foldl QV A).runs=A.runs/\((List.range m).foldl QV A).n=A.n:=by
 induction m with
 | zero=>exact⟨rfl,rfl,rfl,rfl,rfl⟩
 | succ m ih=>
  rw[mD,pY];have:=TB ((List.range m).foldl QV A) m;exact⟨this.1.trans ih.1,this.2.1.trans ih.2.1,this.2.2.1.trans ih.2.2.1,this.2.2.2.1.trans ih.2.2.2.1,this.2.2.2.2.trans ih.2.2.2.2⟩
theorem Rr (h:cX σ F Y A T){dJ:Sl}(hcr:dJ=Y.dJ){K:aP}(hK:∀σ',Ext F σ σ'->cX σ' (Grow F σ) Y (YL A) T->K σ') :
 Xb [bN] (λI=>I 0 σ) λJ (t28:Int) v1=>If (decide (t28<((dJ.len:Nat):Int))) (Ix dJ.a dJ.len t28 1 λa30=>fY a30 v1 λl=>WZ.c l v1 λt34 v2=>
  Xi.c (aW Y.p) t34 v2 λv3=>Ar .i64 (t28+1) λt36=>J t36 v3) (K v1):=by
 subst hcr;have G:=h.Aj;refine ZV (a:=bN) (λ(t:Int) v=>∃i:Nat,t=(i:Int)/\i<=A.tb.length/\Ext F σ v/\cX v (Grow F σ) Y ((List.range i).foldl QV A) T) (λt _=>A.tb.length-t.toNat) ⟨0,rfl,O,Ext.refl _ _,h.mono λb _ d=>.inl d⟩ ?_;rintro t v ⟨i,rfl,E,e,u⟩;refine cI (λx=>?_) λB=>?_
 ·have g:i<A.tb.length:=by omega
  have j:=VO i A;obtain⟨c,H,q,t,r,D,y,w,_,_,C⟩:=h.at_ g;refine u.mV w (RG u.cut (by rw[j.1];exact g) w λv3 z s=>?_);refine cA (m:=i+1) O (by have:=h.lay.sf;omega) ⟨⟨i+1,rfl,O,e.iV (z.sub λb d=>d.1),?_⟩,O⟩;rw[mD,pY];exact s.mono λb _ d=>by
   rcases d with d|d
   ·exact d.1
   ·exact .inr (zJ e.1 d)
 ·have:i=A.tb.length:=by omega
  subst this;exact hK v e u
def pe (A:AR):Prop:=∀t∈A.cE,∀xs∈t.bs,∀x∈xs,iX x
theorem fT.pL (t:fT):∀xs∈t.tick.bs,xs∈t.bs:=λxs h=>uV h
theorem fT.uH (t:fT):∀xs∈t.out,xs∈t.bs:=λxs h=>qt h
theorem Vn {α:Type}{l:List α}{k:Nat}{t:α}{f:α->α}(h:l[k]?=some t):l.modify k f=l.set k (f t):=by
 apply lX;intro i;rw[sj,xX];by_cases hi:k=i
 ·subst hi;have:=(cQ.1 h).1;rw[zB rfl,zB this,h];simp
 ·simp[hi]
theorem Hh (A:AR)(k:Nat):(KH A k).tb=A.tb/\(KH A k).room=A.room/\(KH A k).cE=(match A.cE[k]? with|some t=>A.cE.set k t.tick|none=>A.cE)/\(KH A k).runs=A.runs/\(KH A k).n=A.n:=by
 have key:∀(l:List (List Int)) (B:AR),(l.foldl (λA' a=>Zf A' k a) B).tb=B.tb/\(l.foldl (λA' a=>Zf A' k a) B).room=B.room/\(l.foldl (λA' a=>Zf A' k a) B).cE=B.cE/\(l.foldl (λA' a=>Zf A' k a) B).runs=B.runs/\(l.foldl (λA' a=>Zf A' k a) B).n=B.n:=by
  intro l
  induction l with
  | nil=>intro B;exact⟨rfl,rfl,rfl,rfl,rfl⟩
  | cons x l ih=>
   intro B;have d:=ih (Zf B k x);have b:=VS B k x;exact⟨d.1.trans b.1,d.2.1.trans b.2.1,d.2.2.1.trans b.2.2.1,d.2.2.2.1.trans b.2.2.2.1,d.2.2.2.2.trans b.2.2.2.2⟩
 unfold KH;cases A.cE[k]? with
 | none=>exact⟨rfl,rfl,rfl,rfl,rfl⟩
 | some t=>exact key _ _
theorem OO {k:Nat}(h:pe A):pe (KH A k):=by
 unfold pe;rw[(Hh A k).2.2.1];cases hk:A.cE[k]? with
 | none=>exact h
 | some t=>
  intro t' ht';rcases AE ht' with h1|h1
  ·exact h t' h1
  ·subst h1;exact λb a=>h t (zE hk) b (t.pL b a)
def sq (A:AR)(Y:Lay)(k r:Nat)(c:bY)(t:fT)(out:Sl)(sls:List Sl)(j:Nat):Hp->Rg->Prop:=
 if j=k then λσ G=>iT σ G r c.batch A.room t.tick/\cT out 1 (sls.map qU) σ G/\sy sls t.out σ G else cF A Y j
theorem sq.loc {k r:Nat}{c:bY}{t:fT}{out:Sl}{sls:List Sl}(j:Nat):dS (sq A Y k r c t out sls j):=by
 unfold sq;split
 ·exact λσ i F G ⟨e,d,g⟩ a b=>⟨iT.loc _ _ _ _ e a b,cT.loc _ _ _ _ _ _ _ d a b,sy.loc _ _ _ _ _ _ g a b⟩
 ·exact cF.loc j
theorem ω {k r:Nat}{c:bY}{t:fT}{out:Sl}{sls:List Sl}{tr:List fT}:∀j,j≠Lb.cE k->AC {A with cE:=tr} Y (sq A Y k r c t out sls) j=AC A Y (cF A Y) j:=by
 intro j hj;cases j<;>first|rfl|skip
 rename_i k';have a:¬k'=k:=λe=>hj (by rw[e]);simp only[AC,sq];rw[zA a]
theorem Ta (h:cX σ F Y A (cF A Y)){k r:Nat}(hk:k<A.tb.length)(hr:Y.gF[k]?=some r)(hI:pe A){K:aP}(hK:∀σ',Ext F σ σ'->cX σ' (Grow F σ) Y (KH A k) (cF (KH A k) Y)->K σ') :
 Xo.c (aW r) σ λt20 v2=>Xb [bN] (λI1=>I1 0 v2) λJ1 (t22:Int) v3=>If (decide (t22<((t20.len:Nat):Int))) (Ix t20.a t20.len t22 1 λa24=>kG a24 v3 λbatch=>
  WE.c (aW Y.p) (k:Int) batch v3 λt29 v4=>Ar .i64 (t22+1) λt30=>J1 t30 v4) (K v3):=by
 obtain⟨c,ss,q,t,r',hc,hss,hq,P,D,hok⟩:=h.at_ hk;rw[hr]at D;cases D;obtain⟨G,hG,X,hd,N⟩:=h.step (.cE k);have J:iT σ G r c.batch A.room t:=by
  simp only[AC,cF]at X;rw[hr,hc,P]at X;exact X
 refine Wnf J λout v2 e2 M Q=>?_;obtain⟨d,L,E⟩:=M;have W:=e2.sub hG;have U:cT out 1 (d.map qU) v2 (Grow G σ):=aH.mono L λb _ g=>.inl g;have hBg:sy d t.out v2 (Grow G σ):=(sy.loc _ _).mono E λb _ g=>.inl g;have hA2:cX v2 (Grow F σ) Y {A with cE:=A.cE.set k t.tick} (sq A Y k r c t out d):=by
  refine N v2 _ _ _ (Grow G σ) _ ?_ sq.loc ω e2 (λb g=>g) ?_ (Hl hG λb g=>g)
  ·exact⟨h.lay.c,h.lay.t,h.lay.cB,by simpa using h.lay.cE,h.lay.qZ,h.lay.sf,h.lay.n1,h.lay.n2,h.lay.n3,h.lay.st,h.lay.room,h.lay.ok⟩
  ·simp only[AC,sq,zW];exact⟨Q,U,hBg⟩
 have hol:out.len=t.out.length:=by
  have:=L.1;have:=E.1;simp at *;omega
 have hfew:t.out.length<=8:=by
  have h1:=J.oD;have h2:=J.r1;have:t.out.length<=t.bs.length:=by unfold fT.out;rw[zP];omega
  omega
 refine ZV (a:=bN) (λ(i:Int) w=>∃j:Nat,i=(j:Int)/\j<=t.out.length/\Ext F σ w/\cX w (Grow F σ) Y ((t.out.take j).foldl (λA' xs=>Zf A' k xs) {A with cE:=A.cE.set k t.tick}) (sq A Y k r c t out d)) (λi _=>t.out.length-i.toNat) ⟨0,rfl,O,W,hA2⟩ ?_;rintro i w ⟨j,rfl,hj,S,s⟩;refine cI (λhlt=>?_) λhge=>?_
 ·have C:j<t.out.length:=by omega
  have hx:t.out[j]?=some t.out[j]:=cM C;have R:t.out.take (j+1)=t.out.take j++[t.out[j]]:=by rw[zl,hx];rfl
  have z:=t.uH _ (zf C);generalize t.out[j]=xs at *;obtain⟨G2,hG2,u⟩:=s.sep.get (.cE k);simp only[AC,sq,zW]at u;have Z:j<d.length:=by rw[u.2.2.1];exact C
  have hs:d[j]?=some d[j]:=cM Z;refine u.2.1.Dt hs (GU (xs:=xs) s k (hI t (zE P) xs z) (by have:=J.all xs z;have:=J.b1;omega) (u.2.2.2 j _ xs hs hx).2 (.inr ⟨k,λH B=>?_⟩) λw2 e3 V=>?_)
  ·unfold sq at B;rw[zB rfl]at B;exact(B.2.2.2 j _ xs hs hx).1
  ·refine cA (m:=j+1) O O ⟨⟨j+1,rfl,O,S.iV e3,?_⟩,O⟩;rw[R,pY];exact V.mono λb _ g=>by
    rcases g with g|g
    ·exact g
    ·exact .inr (zJ S.1 g)
 ·have:j=t.out.length:=by omega
  subst this;rw[zo]at s;have x:=Hh A k;rw[P]at x;have e1:KH A k=t.out.foldl (λA' xs=>Zf A' k xs) {A with cE:=A.cE.set k t.tick}:=by unfold KH;rw[P]
  rw[←e1]at s;refine hK w S (s.Pq (λj=>cF.loc j) λj G3 y=>?_);unfold sq at y;unfold cF;rw[x.1,x.2.1,x.2.2.1];simp only;split at y
  ·rename_i hjk;subst hjk;rw[hr,hc,zO (by rw[h.lay.cE];exact hk)];exact y.1
  ·rename_i hjk;rw[zm (λe=>hjk e.symm)];exact y
theorem LH (m:Nat)(A:AR)(hI:pe A):((List.range m).foldl KH A).tb=A.tb/\((List.range m).foldl KH A).cE.length=A.cE.length/\((List.range m).foldl KH A).runs=A.runs/\((List.range m).foldl KH A).n=A.n/\pe ((List.range m).foldl KH A):=by
 induction m with
 | zero=>exact⟨rfl,rfl,rfl,rfl,hI⟩
 | succ m ih=>
  rw[mD,pY];have:=Hh ((List.range m).foldl KH A) m;refine⟨this.1.trans ih.1,?_,this.2.2.2.1.trans ih.2.2.1,this.2.2.2.2.trans ih.2.2.2.1,OO ih.2.2.2.2⟩;show(KH ((List.range m).foldl KH A) m).cE.length=_;rw[this.2.2.1];split
  ·rw[sx];exact ih.2.1
  ·exact ih.2.1
theorem Tb (h:cX σ F Y A (cF A Y))(hI:pe A){R:aP}(hR:∀σ',Ext F σ σ'->cX σ' (Grow F σ) Y (Hr A) (cF (Hr A) Y)->R σ'):Y6.c (aW Y.p) σ R:=by
 refine Y6.o ?_;refine Vj h (cG rfl (aG (h.hd.rS rfl ?_)));have H:=h.jX;refine ZV (a:=bN) (λ(t:Int) v=>∃i:Nat,t=(i:Int)/\i<=A.tb.length/\Ext F σ v/\cX v (Grow F σ) Y ((List.range i).foldl KH A) (cF ((List.range i).foldl KH A) Y)) (λt _=>A.tb.length-t.toNat) ⟨0,rfl,O,Ext.refl _ _,h.mono λb _ d=>.inl d⟩ ?_;rintro t v ⟨i,rfl,G,e,x⟩;refine cI (λs=>?_) λu=>?_
 ·have j:i<A.tb.length:=by simp only at s;omega
  have g:=LH i A hI;obtain⟨c,J,q,t,r,D,z,E,_,y,C⟩:=h.at_ j;refine x.sP y (Ta x.cut (by rw[g.1];exact j) y g.2.2.2.2 λv3 B w=>?_);refine cA (m:=i+1) O (by have:=h.lay.sf;omega) ⟨⟨i+1,rfl,O,e.iV (B.sub λb d=>d.1),?_⟩,O⟩;rw[mD,pY];exact w.mono λb _ d=>by
   rcases d with d|d
   ·exact d.1
   ·exact .inr (zJ e.1 d)
 ·have:i=A.tb.length:=by simp only at u;omega
  subst this;refine hR v e ?_;unfold Hr;rw[h.lay.cE];exact x
end Go.Ar
namespace Go.Bu
variable {n:Nat}{S:Nat->Bool}
theorem Ua {m a k x:Nat}(h:ZU n S m a k=some x):∃j,j<k/\m<=2^j/\a<=2^j/\(Kx n S j).head?=some x/\∀i,i<j->m<=2^i->a<=2^i->Kx n S i=[]:=by
 have AT:∀k,ZU n S m a k=none->∀i,i<k->m<=2^i->a<=2^i->Kx n S i=[]:=by
  intro k
  induction k with
  | zero=>intro _ i hi;omega
  | succ k ih=>
   intro hn i hi d b;rw[ZU]at hn;split at hn
   ·cases hn
   ·rename_i hn';by_cases e:i=k
    ·subst e;rw[zB ⟨d,b⟩]at hn;simpa using hn
    ·exact ih hn' i O d b
 induction k with
 | zero=>simp[ZU]at h
 | succ k ih=>
  rw[ZU]at h;split at h
  ·rename_i y hy;cases h;obtain⟨j,d,b⟩:=ih hy;exact⟨j,O,b⟩
  ·rename_i hn;split at h
   ·rename_i hc;exact⟨k,O,hc.1,hc.2,h,AT k hn⟩
   ·cases h
theorem U8 {m a:Nat}:∀{k},ZU n S m a k=none->∀i,i<k->m<=2^i->a<=2^i->Kx n S i=[]
 | 0,_,i,hi,_,_=>by omega
 | k+1,hn,i,hi,h1,h2=>by
  rw[ZU]at hn;split at hn
  ·cases hn
  ·rename_i hn';by_cases e:i=k
   ·subst e;rw[zB ⟨h1,h2⟩]at hn;simpa using hn
   ·exact U8 hn' i O h1 h2
theorem pn (hb:Bounded S n){m a x:Nat}(h:Zv n S m a=some x):x+m<=n/\∀y,x<=y->y<x+m->S y=true:=by
 obtain⟨j,_,p,_,e,_⟩:=Ua h;have b:x∈Kx n S j:=List.mem_of_head? e;obtain⟨q,rfl,d⟩:=(QZ hb).1 b;have:=ZS hb (ZM.1 d).1;exact⟨O,λy i g=>Vh d (Qc.2 O)⟩
end Go.Bu
namespace Go.Ar
open Go Go.Vc Go.Proofs
open Go.Bu (Zg QW Zv jH)
variable {σ:Hp}{F H:Rg}{p hs:Nat}{A:AR}{sp:Sp}{Y:Lay}{T:Nat->Hp->Rg->Prop}
structure W2 (σ:Hp) (F H:Rg) (Y:Lay) (A:AR) (T:Nat->Hp->Rg->Prop) (sp:Sp):Prop where
 a:cX σ F Y A T
 s:dI σ H Y.hs sp
 d:∀b,F b->¬H b
 g:Gl σ
 o:jS F
 o2:jS H
def gK (F H:Rg):Rg:=λb=>F b\/H b
theorem W2.lM (h:W2 σ F H Y A T sp){σ':Hp}{A':AR}(e:Ext F σ σ')(ha:cX σ' F Y A' T):W2 σ' F H Y A' T sp:=
 ⟨ha,dS.bU dI.loc h.s e λb _ i a=>h.d b a i,h.d,h.g.bU e h.o,h.o,h.o2⟩
theorem W2.space (h:W2 σ F H Y A T sp){σ':Hp}{sp':Sp}(e:Ext H σ σ')(hs:dI σ' H Y.hs sp'):W2 σ' F H Y A T sp':=
 ⟨dS.bU cX.loc h.a e λb _ j i=>h.d b j i,hs,h.d,h.g.bU e h.o2,h.o,h.o2⟩
theorem W2.bK (h:W2 σ F H Y A T sp){σ':Hp}(e:bO σ σ'):W2 σ' F H Y A T sp:=⟨h.a.bK e,h.s.bK e,h.d,h.g.bK e,h.o,h.o2⟩
theorem W2.cut (h:W2 σ F H Y A T sp):W2 σ (Cut F σ) (Cut H σ) Y A T sp:=⟨h.a.cut,dS.cut dI.loc h.s,λb e i=>h.d b e.1 i.1,h.g,h.o.sub λb e=>e.1,h.o2.sub λb e=>e.1⟩
theorem W2.qp (h:W2 σ F H Y A T sp){σ':Hp}{A':AR}(e:Ext F σ σ')(ha:cX σ' (Grow F σ) Y A' T):W2 σ' (Grow F σ) (Cut H σ) Y A' T sp:=
 ⟨ha,dS.bU dI.loc (dS.cut dI.loc h.s) e λb _ a j=>h.d b j a.1,λb a i=>by
  rcases a with a|a
  ·exact h.d b a i.1
  ·have:=i.2;omega,h.g.bU e h.o,h.o.grow h.g,h.o2.sub λb a=>a.1⟩
theorem W2.C0 (h:W2 σ F H Y A T sp){K:Option Addr->Prop}(hK:K (some ⟨Y.hs,0,none⟩)):fY (Addr.add ⟨Y.p,0,none⟩ 1) σ K:=h.a.hd.rP rfl hK
theorem NR (st:List Nat)(a m:Nat):U2 st a (m+1)=kN (U2 st a m) ((a+m:Nat):Int):=by
 unfold U2;rw[mD,zy,pY];rfl
theorem WkT {a m:Int}(h:fI sp a m≠0):gI sp a m=sp:=by unfold gI;rw[zA h]
theorem SP {size:Nat}(h1:1<=size)(h:∀j,1<=j->j*size+size<=sp.st.length->fI sp ((j*size:Nat):Int) (size:Int)≠0):cZ sp size=none:=by
 unfold cZ;rw[se];intro x hx;obtain⟨j,d,rfl⟩:=zC.1 hx;rw[zQ]at d;have b:(j+1)*size<=sp.st.length:=zJ (pf size d) (Cn _ _);rw[zc,Ag]at b;by_cases h0:j=0
 ·subst h0;simp
 ·have:=h j O b;have a:(fI sp ((j*size:Nat):Int) (size:Int)==0)=false:=by simpa only[qA]using this
  rw[a,vN];simp
theorem Wby {size j:Nat}(h1:1<=size)(h0:1<=j)(hf:j*size+size<=sp.st.length)(hm:fI sp ((j*size:Nat):Int) (size:Int)=0)(h:∀i,1<=i->i<j->fI sp ((i*size:Nat):Int) (size:Int)≠0):cZ sp size=some (j*size):=by
 unfold cZ;have m:j<sp.st.length/size:=by
  rw[Nat.lt_iff_add_one_le,Nat.le_div_iff_mul_le h1,zc,Ag];exact hf
 have a:List.range (sp.st.length/size)=List.range j++(j::(List.range (sp.st.length/size-j-1)).map (j+1 + ·)):=by
  apply lX;intro i;rw[List.getElem?_append,sH];by_cases d:i<j
  ·rw[zB d,ry O,ry d]
  ·rw[zA d];by_cases hij:i=j
   ·subst hij;rw[tB,An,ry m]
   ·rw[show i-j=(i-j-1)+1 by omega,Dx,zi];by_cases hl:i<sp.st.length/size
    ·rw[ry hl,ry O];simp only[zj]
     congr 1;omega
    ·rw[za (by rw[sH];omega),za (by rw[sH];omega)];rfl
 rw[a,zy,List.find?_append];have b:((List.range j).map (· * size)).find? (λ(s:Nat)=>s != 0&&fI sp s size==0)=none:=by
  rw[se];intro x hx;obtain⟨i,d,rfl⟩:=zC.1 hx;rw[zQ]at d;by_cases h0:i=0
  ·subst h0;simp
  ·have:=h i O d;have e:(fI sp ((i*size:Nat):Int) (size:Int)==0)=false:=by simpa only[qA]using this
   rw[e,vN];simp
 rw[b,zH,yK];have:(j*size != 0&&fI sp ((j*size:Nat):Int) (size:Int)==0)=true:=by
  rw[hm];have p:0<j*size:=Nat.mul_pos O O;have g:j*size≠0:=by omega
  simp[g]
 rw[this];rfl
theorem Wlr (h:W2 σ F H Y A T sp){size:Nat}(h1:size=16\/size=32\/size=64){R:aO}(h0:UZ A sp size=none->∀σ',Ext (gK F H) σ σ'->W2 σ' F H Y A T sp->R false σ')
 (hR:∀A' sp',UZ A sp size=some (A',sp')->∀σ',Ext (gK F H) σ σ'->W2 σ' F H Y A' T sp'->R true σ'):Y4.c (aW Y.p) (size:Int) σ R:=by
 refine Y4.o ?_;have hn2:sp.st.length<=1024:=by obtain⟨q,r,l,B,hh⟩:=h.s;exact hh.n2
 have Z:∀{a b:Hp},Ext H a b->Ext (gK F H) a b:=λe=>e.sub λb Q=>.inr Q;have ea:∀{a b:Hp},Ext F a b->Ext (gK F H) a b:=λe=>e.sub λb Q=>.inl Q;have d:∀j,j*size+size=(j+1)*size:=λj=>by rw[zc,Ag]
 refine ZV (a:=bN) (λ(t:Int) v=>∃j:Nat,t=((j*size:Nat):Int)/\1<=j/\j*size<=1024+64/\Ext (gK F H) σ v/\W2 v F H Y A T sp/\∀i,1<=i->i<j->i*size+size<=sp.st.length->fI sp ((i*size:Nat):Int) (size:Int)≠0) (λt _=>2000-t.toNat)
  ⟨1,O,zD _,O,Ext.refl _ _,h,λi h1 h2=>O⟩ ?_
 rintro t v ⟨j,rfl,hj,Q,e,z,x⟩;refine cA (m:=j*size+size) O O (aG (z.C0 (EJ z.s (cI (λhlt=>?_) λhge=>?_))))
 ·have hf:j*size+size<=sp.st.length:=by omega
  refine aG (z.C0 (RY z.s z.g z.o2 _ _ λv2 P J=>?_));refine cU (λV=>?_) λV=>?_
  ·have N:fI sp ((j*size:Nat):Int) (size:Int)≠0:=by simpa using V
   rw[WkT N]at J;refine cA (m:=(j+1)*size) (by rw[←d];omega) (by rw[←d];omega) ⟨⟨j+1,rfl,O,by rw[←d];omega,e.trans (Z P),z.space P J,λi y G D=>?_⟩,by rw[←d];omega⟩;by_cases hij:i=j
   ·subst hij;exact N
   ·exact x i y O D
  ·have U:fI sp ((j*size:Nat):Int) (size:Int)=0:=by simpa using V
   have X:=z.space P J;have M:∀i,i<j->i*size+size<=sp.st.length:=λi hi=>by
    have:(i+1)*size<=j*size:=pf _ hi;rw[d];omega
   have K:=Wby (sp:=sp) O hj hf U λi y G=>x i y G (M i G);have C:UZ A sp size=some ({A with st:=U2 A.st (j*size/16) (size/16),S:=QW A.n A.S ((j*size:Nat):Int) size},gI sp ((j*size:Nat):Int) size):=by unfold UZ;rw[K]
   have hd16:(j*size)%16=0:=by
    rcases h1 with rfl|rfl|rfl
    ·omega
    ·omega
    ·omega
   refine nz aB (cA (m:=j*size/16) (by rw[Yb O];simp) O ?_);refine ZV (a:=bN) (λ(t:Int) w=>∃i:Nat,t=((j*size/16+i:Nat):Int)/\i<=size/16/\Ext (gK F H) σ w/\W2 w F H Y {A with st:=U2 A.st (j*size/16) i} T (gI sp ((j*size:Nat):Int) size)) (λt _=>200-t.toNat)
    ⟨0,O,O,e.trans (Z P),X⟩ ?_
   rintro t w ⟨i,rfl,hi,ew,u⟩;refine cA (m:=j*size+size) O O (nz aB (cA (m:=(j*size+size)/16) (by rw[Yb O];simp) O (cI (λhlt2=>?_) λaa=>?_)))
   ·refine aG (u.a.hd.rP rfl (u.a.Et _ λw2 t2 L E=>?_));refine cA (m:=j*size/16+(i+1)) O O ⟨⟨i+1,rfl,O,ew.trans (ea L),?_⟩,O⟩;rw[NR];exact u.lM L E
   ·have W:i=size/16:=by omega
    subst W;refine aG (u.a.hd.rP rfl (u.a.Bn _ _ λw2 t2 L E=>?_));exact hR _ _ C w2 (ew.trans (ea L)) (u.lM L E)
 ·have K:=SP (sp:=sp) (size:=size) O λi y D=>by
   by_cases hij:i<j
   ·exact x i y hij D
   ·have:j*size<=i*size:=pf _ O;omega
  have C:UZ A sp size=none:=by unfold UZ;rw[K]
  exact h0 C v e z
theorem WgB {m a:Nat}(h1:1<=m)(h2:m<=64)(ha:a=1\/a=2\/a=4\/a=8\/a=16):Go.Bu.fU (m:Int) (a:Int)=true:=by
 have b:Go.Bu.gJ (a:Int)=true:=by rcases ha with rfl|rfl|rfl|rfl|rfl<;>decide
 unfold Go.Bu.fU;rw[b];simp only[xi,zG,zV];omega
theorem W2.take (h:W2 σ F H Y A T sp){m a:Nat}(hok:Go.Bu.fU (m:Int) (a:Int)=true){R:Int->Int->Hp->Prop}(h0:Zv A.n A.S m a=none->∀σ',Ext F σ σ'->W2 σ' F H Y A T sp->R 0 6 σ')
 (h1:∀x,Zv A.n A.S m a=some x->x+m<=A.n->∀σ',Ext F σ σ'->W2 σ' F H Y {A with S:=Go.Bu.take A.S x (x+m)} T sp->R (x:Int) 0 σ'):X0.c (aW Y.fr) (m:Int) (a:Int) σ R:=by
 have b:Go.Bu.Bounded A.S A.n:=by obtain⟨u,s,p,_⟩:=h.a.free;exact p.kU
 refine h.a.Bs _ _ λσ' e r=>?_;have d:=h.lM e r;cases ht:Zv A.n A.S m a with
 | none=>
  have j:Go.Bu.kR A.n A.S (m:Int) (a:Int)=6:=by unfold Go.Bu.kR;rw[hok,zB rfl];simp only[dE];rw[ht]
  have g:Go.Bu.kI A.n A.S (m:Int) (a:Int)=0:=by unfold Go.Bu.kI;rw[hok,zB rfl];simp only[dE];rw[ht]
  have i:Go.Bu.kA A.n A.S (m:Int) (a:Int)=A.S:=by unfold Go.Bu.kA;rw[hok,zB rfl];simp only[dE];rw[ht]
  rw[j,g];rw[i]at d;exact h0 ht σ' e d
 | some x=>
  have j:Go.Bu.kR A.n A.S (m:Int) (a:Int)=0:=by unfold Go.Bu.kR;rw[hok,zB rfl];simp only[dE];rw[ht]
  have g:Go.Bu.kI A.n A.S (m:Int) (a:Int)=x:=by unfold Go.Bu.kI;rw[hok,zB rfl];simp only[dE];rw[ht]
  have i:Go.Bu.kA A.n A.S (m:Int) (a:Int)=Go.Bu.take A.S x (x+m):=by unfold Go.Bu.kA;rw[hok,zB rfl];simp only[dE];rw[ht]
  rw[j,g];rw[i]at d;exact h1 x ht (Go.Bu.pn b ht).1 σ' e d
theorem Woi {size:Nat}{A':AR}{sp':Sp}(h:UZ A sp size=some (A',sp')):A'.n=A.n:=by
 unfold UZ at h;split at h
 ·cases h
 ·cases h;rfl
def Fits (σ:Hp)(F H F' H':Rg):Prop:=(∀b,F' b->Grow F σ b)/\∀b,H' b->H b
theorem Ni (h:W2 σ F H Y A T sp){m a no:Nat}(h1:1<=m)(h2:m<=64)(ha:a=1\/a=2\/a=4\/a=8\/a=16)(hn1:1<=no)(hn2:no<=1000){R:Int->Int->Hp->Prop}
 (h0:(dA A sp m a no).1=none->∀σ',Ext (gK F H) σ σ'->W2 σ' F H Y (dA A sp m a no).2.1 T (dA A sp m a no).2.2->R 0 6 σ')
 (hR:∀x,(dA A sp m a no).1=some x->x+m<=A.n->∀σ' F' H',Fits σ F H F' H'->Ext (gK F H) σ σ'->W2 σ' F' H' Y (dA A sp m a no).2.1 T (dA A sp m a no).2.2->R (x:Int) 0 σ') :
 YS.c (aW Y.p) (m:Int) (a:Int) (no:Int) σ R:=by
 refine YS.o ?_;have G:=WgB h1 h2 ha;have es:∀{a b:Hp},Ext H a b->Ext (gK F H) a b:=λe=>e.sub λb j=>.inr j;have r:∀{a b:Hp},Ext F a b->Ext (gK F H) a b:=λe=>e.sub λb j=>.inl j;have fin:∀(v:Hp) (x:Nat) (A1:AR) (sp1:Sp),Ext (gK F H) σ v->x+m<=A.n->W2 v F H Y {A1 with S:=Go.Bu.take A1.S x (x+m)} T sp1->dA A sp m a no=(some x,dU A1 x m no,sp1) →
  bQ (some ⟨Y.p,0,none⟩) λU=>fY (U.add 3) v λV=>XO.c V (x:Int) (m:Int) v λt55 u=>bQ (some ⟨Y.p,0,none⟩) λaa=>fY (aa.add 4) u λQ=>Yk.c Q (x:Int) (m:Int) (no:Int) u λt63 v3=>R (x:Int) 0 v3:=by
  intro v x A1 sp1 e hxm z y;have P:x<=1000000:=by have:=h.a.lay.n2;omega
  refine aG (z.a.hd.rP rfl (z.a.Use _ _ λu t2 C Z=>?_));have g:=z.lM C Z;refine aG (g.a.hd.rP rfl (g.a.Set x m P hn1 hn2 λv3 t3 e3 X=>?_));have L:=g.qp e3 X;refine hR x (by rw[y]) hxm v3 (Grow F u) (Cut H u) ⟨λb j=>?_,λb j=>j.1⟩ ((e.trans (r C)).trans (r e3)) (by rw[y];exact L);rcases j with j|j
  ·exact .inl j
  ·exact .inr (zJ (e.trans (r C)).1 j)
 refine aG (h.a.hd.rP rfl (h.take G (λJ v e z=>?_) λx J D v e z=>?_))
 ·refine Jn.intro (cJ rfl ?_);have N:(if(a:Int)>(m:Int)then(a:Int)else(m:Int))=((max m a:Nat):Int):=by
   by_cases hgt:(a:Int)>(m:Int)
   ·rw[zB hgt];omega
   ·rw[zA hgt];omega
  rw[N];refine ZV (a:=bN) (λ(t:Int) w=>w=v/\(t=16\/t=32/\16<max m a\/t=64/\32<max m a)) (λt _=>100-t.toNat) ⟨rfl,.inl rfl⟩ ?_;rintro(t:Int) w ⟨rfl,hcase⟩;have ha16:a<=16:=by omega
  refine cI (λhlt=>?_) λhge=>?_
  ·have:t=16\/t=32:=by omega
   rcases this with rfl|rfl
   ·exact ar O O ⟨⟨rfl,O⟩,by decide⟩
   ·exact ar O O ⟨⟨rfl,O⟩,by decide⟩
  ·have W:t=((Ke (max m a):Nat):Int):=by
    unfold Ke;by_cases c1:max m a<=16
    ·rw[zB c1];omega
    ·rw[zA c1];by_cases c2:max m a<=32
     ·rw[zB c2];omega
     ·rw[zA c2];omega
   subst W;have M:Ke (max m a)=16\/Ke (max m a)=32\/Ke (max m a)=64:=by omega
   refine Wlr z M (λy σ' K s=>?_) λA' B y σ' K s=>?_
   ·have d:dA A sp m a no=(none,A,sp):=by unfold dA;rw[J];simp only;rw[y]
    exact cJ rfl (h0 (by rw[d]) σ' ((r e).trans K) (by rw[d];exact s))
   ·refine cG rfl (aG (s.a.hd.rP rfl (s.take G (λE u C g=>?_) λx E D u C g=>?_)))
    ·have d:dA A sp m a no=(none,A',B):=by unfold dA;rw[J];simp only;rw[y];simp only;rw[E]
     exact cJ rfl (h0 (by rw[d]) u (((r e).trans K).trans (r C)) (by rw[d];exact g))
    ·have d:dA A sp m a no=(some x,dU A' x m no,B):=by unfold dA;rw[J];simp only;rw[y];simp only;rw[E]
     exact cG rfl (fin u x A' B (((r e).trans K).trans (r C)) (by rw[←Woi y];exact D) g d)
 ·have d:dA A sp m a no=(some x,dU A x m no,sp):=by unfold dA;rw[J]
  refine Jn.intro (cG rfl (cG rfl (fin v x A sp (r e) D z d)))
theorem Fits.refl:Fits σ F H F H:=⟨λb a=>.inl a,λb a=>a⟩
theorem Wkh (h:W2 σ F H Y A T sp)(k:Int){R:aN}(hR:∀σ' F' H',Fits σ F H F' H'->Ext (gK F H) σ σ'->W2 σ' F' H' Y (cO A sp k).1 T (cO A sp k).2->R (Va A sp k) σ') :
 Ys.c (aW Y.p) k σ R:=by
 refine Ys.o ?_;refine UE h.a k (λE=>?_) λx hx L=>?_
 ·have e1:Va A sp k=1:=by unfold Va;rw[E];rfl
  have z:cO A sp k=(A,sp):=by unfold cO;rw[E];rfl
  have:=hR σ F H Fits.refl (Ext.refl _ _) (by rw[z];exact h);rw[e1]at this;exact cJ rfl this
 ·subst hx;have E:A.ck (x:Int)=true:=by unfold AR.ck;simp;omega
  obtain⟨c,Q,q,t,r,K,B,W,_,_,N⟩:=h.a.at_ L;have ht2:=h.a.lay.sf;obtain⟨_,_,_,P,hp4,_⟩:=N;refine cG rfl (aG (h.a.hd.rS rfl (h.a.Ao (d:=1) K O ?_)));simp only[zA (show ¬(1=0) by omega),zW];refine cA (m:=x+1) O O ?_;have Z:Va A sp x=match (dA A sp c.aF 1 (x+1)).1 with
   | some y=>G5 c Q y
   | none=>6:=by unfold Va;rw[E,zB rfl];simp only[dE];rw[K,B];rfl
  have eS:cO A sp x=match dA A sp c.aF 1 (x+1)with
   | (some y,A',w)=>(if G5 c Q y=0 then{A' with cB:=A'.cB.set x (iQ c Q y)}else A',w)
   | (none,A',w)=>(A',w):=by unfold cO;rw[E,zB rfl];simp only[dE];rw[K,B];rfl
  refine Ni (a:=1) h P O (.inl rfl) O O (λD σ' e u=>?_) λy D hyn σ' F' H' i e u=>?_
  ·have:=hR σ' F H Fits.refl e;rw[Z,eS,D]at this;generalize dA A sp c.aF 1 (x+1)=g at *;obtain⟨g1,g2,g3⟩:=g;simp only at D;subst D;exact cJ rfl (this u)
  ·have C:(dA A sp c.aF 1 (x+1)).2.1.tb=A.tb/\(dA A sp c.aF 1 (x+1)).2.1.cB=A.cB:=by
    unfold dA;split
    ·exact⟨rfl,rfl⟩
    ·split
     ·exact⟨rfl,rfl⟩
     ·rename_i A1 sp1 hga;have:A1.tb=A.tb/\A1.cB=A.cB:=by
       unfold UZ at hga;split at hga
       ·cases hga
       ·cases hga;exact⟨rfl,rfl⟩
      split
      ·exact this
      ·exact this
   have s:=λσ' F' H'=>hR σ' F' H';rw[Z,eS]at s;generalize dA A sp c.aF 1 (x+1)=g at *;obtain⟨g1,A',w⟩:=g;simp only at D u C s;subst D;simp only at s;have hWc:=u;obtain⟨G,U,⟨ps,hC⟩,_,J⟩:=u.a.vn W (by rw[C.1];exact K) (by rw[C.2];exact B);have hn2:=h.a.lay.n2;refine cG rfl (aG (u.a.hd.rS rfl (u.a.mV W (RX hC O (λh9 v z=>?_) λX v ps' z M=>?_))))
   ·have:=s v F' H' i (e.pc z) (by rw[h9];exact u.bK z);rw[h9]at this;exact this
   ·have V:=J v _ _ (Grow G σ') _ z (λb j=>j) M (Hl U λb j=>j);have S:=u.qp (z.sub U) V;have:=s v (Grow F' σ') (Cut H' σ') ⟨λb j=>?_,λb j=>i.2 b j.1⟩ (e.fH (z.sub U) λb j=>?_) (by rw[X];exact S)
    ·rw[X]at this;exact this
    ·rcases j with j|j
     ·exact i.1 b j
     ·exact .inr (zJ e.1 j)
    ·rcases i.1 b j with h1|h1
     ·exact .inl (.inl h1)
     ·exact .inr h1
theorem GP (A:AR)(sp:Sp)(m a no:Nat):(dA A sp m a no).2.1.tb=A.tb/\(dA A sp m a no).2.1.cB=A.cB/\(dA A sp m a no).2.1.cE=A.cE/\(dA A sp m a no).2.1.room=A.room/\(dA A sp m a no).2.1.runs=A.runs/\(dA A sp m a no).2.1.n=A.n:=by
 unfold dA;split
 ·exact⟨rfl,rfl,rfl,rfl,rfl,rfl⟩
 ·split
  ·exact⟨rfl,rfl,rfl,rfl,rfl,rfl⟩
  ·rename_i A1 sp1 hga;have:A1.tb=A.tb/\A1.cB=A.cB/\A1.cE=A.cE/\A1.room=A.room/\A1.runs=A.runs/\A1.n=A.n:=by
    unfold UZ at hga;split at hga
    ·cases hga
    ·cases hga;exact⟨rfl,rfl,rfl,rfl,rfl,rfl⟩
   split
   ·exact this
   ·exact this
theorem PC:∀a:Nat,a<17->1<=a->((bits .and .i64 (a:Int) ((a:Int)-1) != 0) = !(a==1||(a==2||(a==4||(a==8||a==16))))):=by decide
theorem PN (h:W2 σ F H Y A T sp)(m a:Int){R:Int->Int->Hp->Prop}(hR:∀σ' F' H',Fits σ F H F' H'->Ext (gK F H) σ σ'->W2 σ' F' H' Y (cD A sp m a).1 T (cD A sp m a).2->R ((Z7 A sp m a:Nat):Int) (QG A sp m a) σ') :
 WT.c (aW Y.p) m a σ R:=by
 refine WT.o ?_;have K:Ky m a=false->R 0 1 σ:=λu=>by
  have e1:QG A sp m a=1:=by unfold QG;rw[u];rfl
  have E:cD A sp m a=(A,sp):=by unfold cD;rw[u];rfl
  have W:Z7 A sp m a=0:=by unfold Z7;rw[u];rfl
  have:=hR σ F H Fits.refl (Ext.refl _ _) (by rw[E];exact h);rw[e1,W]at this;exact this
 have d:¬(1<=m/\m<=64/\(a=1\/a=2\/a=4\/a=8\/a=16))->R 0 1 σ:=λhn=>K (by
  rw[←uR];intro hp;unfold Ky at hp;simp at hp;omega)
 refine Vj h.a (cG rfl (bZ.intro (cI (λX=>bZ.intro (cJ rfl (bZ.intro (cJ rfl (bZ.intro (cJ rfl (cJ rfl (d O)))))))) λX=>?_)));refine bZ.intro (cI (λc2=>bZ.intro (cJ rfl (bZ.intro (cJ rfl (cJ rfl (d O)))))) λc2=>?_);refine bZ.intro (cI (λc3=>bZ.intro (cJ rfl (cJ rfl (d O)))) λc3=>?_);refine bZ.intro (cI (λc4=>cJ rfl (d O)) λc4=>ar O O ?_);obtain⟨y,rfl⟩:=zn (show 0<=m by omega);obtain⟨z,rfl⟩:=zn (show 0<=a by omega);rw[PC z O O];refine cU (λN=>?_) λN=>?_
 ·refine d (λhh=>?_);simp at N;omega
 ·have V:z=1\/z=2\/z=4\/z=8\/z=16:=by
   simp at N;omega
  have u:Ky (y:Int) (z:Int)=true:=by
   unfold Ky;simp;omega
  have S:QG A sp y z=if(dA A sp y z 41).1.isSome then 0 else 6:=by unfold QG;rw[u,zB rfl];rfl
  have P:Z7 A sp y z=(dA A sp y z 41).1.getD 0:=by unfold Z7;rw[u,zB rfl];rfl
  have U:cD A sp y z=match dA A sp y z 41 with
   | (some x,A',r)=>({A' with runs:=cD.mset2 A'.runs x y},r)
   | (none,A',r)=>(A',r):=by unfold cD;rw[u,zB rfl];rfl
  refine Ni (no:=41) h O O V O O (λB σ' e w=>?_) λx B hyn σ' F' H' s e w=>?_
  ·have:=hR σ' F H Fits.refl e;rw[S,U,P,B]at this;generalize dA A sp y z 41=g at *;obtain⟨g1,g2,g3⟩:=g;simp only at B;subst B;exact cJ rfl (this w)
  ·have j:=λσ' F' H'=>hR σ' F' H';rw[S,U,P]at j;generalize dA A sp y z 41=g at *;obtain⟨g1,A',r⟩:=g;simp only at B w j;subst B;simp only at j;obtain⟨Z,hm,D⟩:=w.a.tJ;refine cG rfl (aG (w.a.hd.rM rfl ⟨_,_,rfl,hm,λv Q G=>?_⟩));have C:dN v Y.rn .i64 bN (dG (iS A'.runs) (x:Int) (y:Int)):=G;rw[Wld]at C;have L:=D v _ Q C;have E:Ext F' σ' v:=Q.ext.sub λb M=>by subst M;exact Z
   have J:=w.lM E L;exact j v F' H' s (e.fH E λb M=>by
    rcases s.1 b M with h1|h1
    ·exact .inl (.inl h1)
    ·exact .inr h1) J
theorem R6 (h:W2 σ F H Y A T sp){R:aN}(hR:∀σ',Ext (gK F H) σ σ'->W2 σ' (Cut F σ) (Cut H σ) Y (eL A sp).1 T (eL A sp).2->R ((yX A:Nat):Int) σ') :
 Yh.c (aW Y.p) σ R:=by
 refine Yh.o ?_;have es:∀{a b:Hp},Ext (Cut H σ) a b->Ext (gK F H) a b:=λe=>e.sub λb u=>.inr u.1;have V:∀{a b:Hp},Ext (Cut F σ) a b->Ext (gK F H) a b:=λe=>e.sub λb u=>.inl u.1;obtain⟨G,hG,q,hT,_⟩:=h.a.p9;refine Vj h.a (cG rfl (aG (h.a.hd.rP rfl (Wk9 hT λs v1 X d=>?_))));have hn2:=h.a.lay.n2;have W:=h.a.lay.st;have C:=d.lB;have U:(Kt A.st 0).length<=64:=by
  unfold Kt;refine zJ (qB _ _) ?_;rw[sH];omega
 have y:∀k∈Kt A.st 0,k<=64:=λk M=>by
  unfold Kt at M;have:=(zF.1 M).1;rw[zQ]at this;omega
 have hsl:=aH.cut d.gE;refine ZV (a:=bN) (λ(t:Int) w=>∃i:Nat,t=(i:Int)/\i<=(Kt A.st 0).length/\Ext (gK F H) σ w/\W2 w (Cut F σ) (Cut H σ) Y (((Kt A.st 0).take i).foldl VB (A,sp)).1 T (((Kt A.st 0).take i).foldl VB (A,sp)).2/\cT s 1 (ints (Kt A.st 0)) w (λb=>σ.size<=b)) (λt _=>(Kt A.st 0).length-t.toNat)
  ⟨0,rfl,O,bO.to X,h.cut.bK X,d.gE⟩ ?_
 rintro t w ⟨i,rfl,hi,e,z,hs⟩;refine cI (λhlt=>?_) λhge=>?_
 ·have B:i<(Kt A.st 0).length:=by omega
  have Z:(Kt A.st 0)[i]?=some (Kt A.st 0)[i]:=cM B;have E:(Kt A.st 0).take (i+1)=(Kt A.st 0).take i++[(Kt A.st 0)[i]]:=by rw[zl,Z];rfl
  have M:=y _ (zf B);generalize (Kt A.st 0)[i]=k at *;refine hs.sI Z (aG (z.a.hd.rP rfl (z.a.FF _ λw2 t2 N Q=>?_)));have r:=z.lM N Q;refine aG (r.a.hd.rP rfl (cA (m:=k*16) O O (r.a.vC _ _ λw3 t3 D L=>?_)));have j:=r.lM D L;refine aG (j.C0 (cA (m:=k*16) O O (Te j.s j.g j.o2 _ _ λw4 J K=>?_)));have S:=j.space J K;have P:cT s 1 (ints (Kt A.st 0)) w4 (λb=>σ.size<=b):=aH.bU (aH.bU (aH.bU hs N λb _ u x=>by have:=x.2;omega) D λb _ u x=>by have:=x.2;omega) J λb _ u x=>by have:=x.2;omega
  refine cA (m:=i+1) O O ⟨⟨i+1,rfl,O,((e.trans (V N)).trans (V D)).trans (es J),?_,P⟩,O⟩;rw[E,pY];exact S
 ·have:i=(Kt A.st 0).length:=by omega
  subst this;rw[zo]at z;rw[C];exact hR w e z
end Go.Ar
namespace Go.Proofs
open Go.Vc
set_option maxRecDepth 100000
def WP.Be:Hn:=.seq (.o 1) (.seq (.o 1) (.block (.loop [(1,.one bN),(2,.one bN),(3,.one bN),(10,.one .b),(11,.one .b)] (.block (.seq (.o 4) (.seq (.seq (.o 2) (.cond (.seq (.o 5) (.leaf)) (.leaf))) .leaf))))))
def WP.L9 (data:Sl)(a:Int)(b:Int)(limit:Int)(cmp:Fv)(σ:Hp)(R:aP):Prop:=
 Xb [bN,bN,bN,.b,.b] (λI=>I a b limit true true σ) λJ (a1:Int) (b1:Int) (limit1:Int) (wasBalanced:Bool) (wasPartitioned:Bool) v=>
 Ar .i64 (b1-a1) λlength=>
 If (decide (length<=12)) (Wr.c data a1 b1 cmp v λv1=>
  R v1)
  False
theorem WP.xM {data:Sl}{a:Int}{b:Int}{limit:Int}{cmp:Fv}{σ:Hp}{R:aP}(hv:WP.L9 data a b limit cmp σ R):WP.c data a b limit cmp σ R:=
 Wa Tryz.func267 (x:=WP.Be) (args:=[.slice data.a data.len data.cap,.int .i64 a,.int .i64 b,.int .i64 limit,.func (.func cmp.f) cmp.first cmp.captured]) (rs:=[]) (R:=R) (R0 hv)
end Go.Proofs
namespace Go.Ar
open Go Go.Vc Go.Proofs
variable {σ:Hp}{Q:Rg}{key:Nat->Nat}
def kH (key:Nat->Nat)(l:List Nat)(h:Nat):List Nat:=l.takeWhile (λg=>decide (key g<key h))++h::l.dropWhile (λg=>decide (key g<key h))
def U0 (key:Nat->Nat)(l:List Nat):List Nat:=l.foldl (kH key) []
theorem DY (l:List Nat)(h:Nat):(kH key l h).Perm (h::l):=by
 unfold kH;refine List.perm_middle.trans ?_;rw[FN]
theorem S1 {l:List Nat}{h:Nat}(hs:l.Pairwise (λa b=>key a<key b))(hne:∀g∈l,key g≠key h):(kH key l h).Pairwise (λa b=>key a<key b):=by
 induction l with
 | nil=>simp[kH]
 | cons g l ih=>
  rw[pB]at hs;unfold kH;by_cases hg:key g<key h
  ·rw[List.takeWhile_cons_of_pos (by simpa using hg),List.dropWhile_cons_of_pos (by simpa using hg),oR,pB];refine⟨λb d=>?_,ih hs.2 λx i=>hne x (mJ _ i)⟩;have:=(DY l h).mem_iff.1 d;rcases zR.1 this with h1|h1
   ·subst h1;exact hg
   ·exact hs.1 b h1
  ·have e:key h<key g:=by have:=hne g (nE);omega
   rw[IS (by simpa using hg),List.dropWhile_cons_of_neg (by simpa using hg),sU,pB];refine⟨λb d=>?_,pB.2 hs⟩;rcases zR.1 d with h1|h1
   ·subst h1;exact e
   ·have:=hs.1 b h1;omega
theorem LG {s:List Nat}{h j:Nat}(hs:s.Pairwise (λa b=>key a<key b))(hj:j<=s.length)(h1:∀g∈s.drop j,key h<key g)(h2:∀g,j≠0->s[j-1]?=some g->key g<key h):kH key s h=s.take j++h::s.drop j:=by
 have x:∀g∈s.take j,key g<key h:=by
  intro g hg;obtain⟨i,p⟩:=zM hg;have u:=(cQ.1 p).1;rw[zP]at u;rw[zb,zB O]at p;have r:s[j-1]?=some (s[j-1]' O):=cM _;have m:=h2 _ O r;by_cases hij:i=j-1
  ·subst hij;rw[r]at p;cases p;exact m
  ·have:=nB.1 hs i (j-1) O O O;have w:s[i]' O=g:=by
    have:=cM (l:=s) (i:=i) O;rw[this]at p;exact Option.some.inj p
   rw[w]at this;omega
 have e:kH key (s.take j++s.drop j) h=s.take j++h::s.drop j:=by
  unfold kH;rw[List.takeWhile_append_of_pos (by intro g hg;simpa using x g hg),List.dropWhile_append_of_pos (by intro g hg;simpa using x g hg)];cases hd:s.drop j with
  | nil=>simp
  | cons g d=>
   have:=h1 g (by rw[hd];exact nE);rw[IS aE,List.dropWhile_cons_of_neg aE,lZ]
 rw[qL]at e;exact e
theorem KE (l:List Nat):(U0 key l).Perm l:=by
 have:∀(m acc:List Nat),(m.foldl (kH key) acc).Perm (m++acc):=by
  intro m
  induction m with
  | nil=>intro acc;exact List.Perm.refl _
  | cons h m ih=>
   intro acc;rw[oE];refine(ih _).trans ?_;refine((DY acc h).append_left m).trans ?_;exact List.perm_middle
 have:=this l []
 rwa [lZ]at this
theorem MR (l:List Nat){i h:Nat}(hh:l[i]?=some h):U0 key (l.take (i+1))=kH key (U0 key (l.take i)) h:=by
 unfold U0;rw[zl,hh,wV,pY];rfl
theorem GZ {l:List Nat}(hn:l.Pairwise (λa b=>key a≠key b)):∀i,(U0 key (l.take i)).Pairwise (λa b=>key a<key b)
 | 0=>by simp[U0]
 | i+1=>by
  have ih:=GZ hn i;cases hh:l[i]? with
  | none=>
   have:l.take (i+1)=l.take i:=by rw[zl,hh];simp
   rw[this];exact ih
  | some h=>
   rw[MR l hh];refine S1 ih λg m=>?_;have:=(KE (l.take i)).mem_iff.1 m;obtain⟨a,j⟩:=zM this;have e:=(cQ.1 j).1;rw[zP]at e;rw[zb,zB O]at j;have d:=(cQ.1 hh).1;have:=nB.1 hn a i O d O;rw[(cQ.1 j).2,(cQ.1 hh).2]at this;exact this
theorem TG (l:List Nat)(i x:Nat):(ints l).set i (.int .i64 (x:Int))=ints (l.set i x):=by simp[ints,wQ]
theorem _root_.Go.Vc.bS.CM {s:Sl}{l:List Nat}(h:bS s 1 (ints l) σ Q){i x:Nat}(hx:l[i]?=some x){K:Int->Prop}(hK:K (x:Int)):Ix s.a s.len (i:Int) 1 λa=>gW (· = σ) bN a K:=by
 have j:=(cQ.1 hx).1;obtain⟨b,o,g,d⟩:=h.gE.cell (Mu hx);have p:=h.lB;rw[g];refine ix O O ?_;refine⟨(x:Int),λm e=>?_,hK⟩;rw[e,add_lit,show o+(i:Int).toNat*1=o+i by omega];exact d
theorem _root_.Go.Vc.bS.Bv {s:Sl}{l:List Nat}(h:bS s 1 (ints l) σ Q){i x:Nat}(hi:i<l.length){K:aP}(hK:∀σ',Ext Q σ σ'->bS s 1 (ints (l.set i x)) σ' Q->K σ'):Ix s.a s.len (i:Int) 1 λa=>cY a (.int .i64 (x:Int)) σ K:=by
 have p:=h.lB;rcases h.2 with⟨h0,_⟩|⟨b,cs,hq,ha,hb,hle,hcl,ht⟩
 ·omega
 rw[ha];refine ix O O ?_;refine h.st (j:=i) (by rw[QP];exact hi) (λm d=>?_) λσ' e g=>hK σ' e (by rw[←TG];exact g);rw[ha]at d;cases d;rw[add_lit];congr 1;omega
def xw (f:Fv)(key:Nat->Nat)(l:List Nat)(Q:Rg)(σ:Hp):Prop:=∀x∈l,∀y∈l,∀(σ':Hp) (R:aN),Ext Q σ σ'->(∀(d:Int) σ'',bO σ' σ''->(d<0↔key x<key y)->R d σ'') →
 V2 Tryz.prog f [.int .i64 (x:Int),.int .i64 (y:Int)] [.one bN] σ' R
theorem Wnp (P D:List Nat)(g h:Nat):((P++g::h::D).set (P.length+1) g).set P.length h=P++h::g::D:=by
 rw[Ci _ _ O,show P.length+1-P.length=1 by omega,Ci _ _ (zD _),tB];rfl
set_option maxRecDepth 4000 in
theorem SV {s:Sl}{l:List Nat}{f:Fv}(h:bS s 1 (ints l) σ Q)(hl:l.length<=1000)(hn:l.Pairwise (λa b=>key a≠key b))(hc:xw f key l Q σ){R:aP}
 (hR:∀σ',Ext Q σ σ'->bS s 1 (ints (U0 key l)) σ' Q->R σ'):Wr.c s 0 (l.length:Int) f σ R:=by
 refine Wr.o ?_;rcases AF l.length with h0|hpos
 ·have V:l=[]:=BK.1 h0;subst V;refine ar O O (ZV (a:=bN) (λ(t:Int) v=>t=1/\v=σ) (λ_ _=>0) ⟨rfl,rfl⟩ ?_);rintro t v ⟨rfl,rfl⟩;refine fJ aA (hR v (Ext.refl _ _) h)
 refine cA (m:=1) O O (ZV (a:=bN) (λ(t:Int) v=>∃i:Nat,t=(i:Int)/\1<=i/\i<=l.length/\Ext Q σ v/\bS s 1 (ints (U0 key (l.take i)++l.drop i)) v Q) (λt _=>l.length-t.toNat) ⟨1,rfl,zD _,hpos,Ext.refl _ _,?_⟩ ?_)
 ·have:U0 key (l.take 1)=l.take 1:=by
   cases l with
   | nil=>rfl
   | cons x l=>rfl
  rw[this,qL];exact h
 rintro t v ⟨i,rfl,hi1,hi,e,S⟩;refine cI (λhlt=>?_) λhge=>?_
 ·have r:i<l.length:=by omega
  have hx:l[i]?=some l[i]:=cM r;have E:l.drop i=l[i]::l.drop (i+1):=ur r;have Y:=zf r;rw[E]at S;generalize l[i]=x at *;have hsl:(U0 key (l.take i)).length=i:=by rw[(KE _).length_eq,zP];omega
  have M:=GZ hn i;have hsm:∀g∈U0 key (l.take i),g∈l/\key g≠key x:=by
   intro g A;have:=(KE (l.take i)).mem_iff.1 A;refine⟨qt this,?_⟩;obtain⟨a,ha⟩:=zM this;have aa:=(cQ.1 ha).1;rw[zP]at aa;rw[zb,zB O]at ha;have:=nB.1 hn a i O r O;rw[(cQ.1 ha).2,(cQ.1 hx).2]at this;exact this
  have N:=MR (key:=key) l hx;generalize U0 key (l.take i)=S0 at *;refine ZV (a:=bN) (λ(t:Int) w=>∃j:Nat,t=(j:Int)/\j<=i/\Ext Q σ w/\bS s 1 (ints (S0.take j++x::(S0.drop j++l.drop (i+1)))) w Q/\∀g∈S0.drop j,key x<key g) (λt _=>t.toNat)
   ⟨i,rfl,zD _,e,?_,λg A=>by rw[D4 O]at A;simp at A⟩ ?_
  ·rw[qx O,D4 O,sU];exact S
  rintro t w ⟨j,rfl,hj,W,p,C⟩;have fin:(∀g,j≠0->S0[j-1]?=some g->key g<key x)->Ar .i64 ((i:Int)+1) λi2=>(∃i':Nat,i2=(i':Int)/\1<=i'/\i'<=l.length/\Ext Q σ w/\bS s 1 (ints (U0 key (l.take i')++l.drop i')) w Q)/\l.length-i2.toNat<l.length-(i:Int).toNat:=by
   intro h2;refine cA (m:=i+1) O O ⟨⟨i+1,rfl,O,O,W,?_⟩,O⟩;rw[N,LG M O C h2,mE,oR];exact p
  refine Jn.intro ⟨(· = w),rfl,cI (λc1=>?_) λc1=>cG rfl (fin λg hj0=>O)⟩;have B:j-1<S0.length:=by omega
  have A:S0[j-1]?=some S0[j-1]:=cM B;have U:S0.take j=S0.take (j-1)++[S0[j-1]]:=by
   have:=zl (l:=S0) (i:=j-1);rw[show j-1+1=j by omega,A]at this;exact this
  have sB:S0.drop (j-1)=S0[j-1]::S0.drop j:=by
   have:=ur (l:=S0) B;rw[show j-1+1=j by omega]at this;exact this
  have L:=hsm _ (zf B);generalize S0[j-1]=g at *;have y:S0.take j++x::(S0.drop j++l.drop (i+1))=S0.take (j-1)++g::x::(S0.drop j++l.drop (i+1)):=by rw[U];simp
  have D:(S0.take (j-1)).length=j-1:=by rw[zP];omega
  rw[y]at p;have K:(S0.take (j-1)++g::x::(S0.drop j++l.drop (i+1)))[j]?=some x:=by
   rw[zp O,D,show j-(j-1)=1 by omega];rfl
  have H:(S0.take (j-1)++g::x::(S0.drop j++l.drop (i+1)))[j-1]?=some g:=by
   rw[zp O,D,tB];rfl
  refine p.CM K (cA (m:=j-1) O O (p.CM H (hc x Y g L.1 w _ W λd w2 e2 hd=>?_)));have u:=aI.bK p e2;have J:=W.trans (bO.to e2);by_cases hlt2:key x<key g
  ·refine cJ (zT (hd.2 hlt2)) ⟨(· = w2),rfl,cA (m:=j-1) O O (cA (m:=j-1) O O (u.CM H (u.CM K ?_)))⟩;refine u.Bv (i:=j) aE λw3 e3 Z=>Z.Bv (i:=j-1) aE λw4 e4 P=>?_;have G:=Wnp (S0.take (j-1)) (S0.drop j++l.drop (i+1)) g x;rw[D,show j-1+1=j by omega]at G;rw[G]at P;refine cA (m:=j-1) O O ⟨⟨j-1,rfl,O,(J.trans e3).trans e4,?_,λz F=>?_⟩,O⟩
   ·rw[sB];exact P
   ·rw[sB]at F;rcases zR.1 F with h1|h1
    ·subst h1;exact hlt2
    ·exact C z h1
  ·refine cG (zg λhh=>hlt2 (hd.1 hh)) ?_;have X:key g<key x:=by have:=L.2;omega
   refine cA (m:=i+1) O O ⟨⟨i+1,rfl,O,O,J,?_⟩,O⟩;rw[N,LG M (j:=j) O C λz _ F=>by rw[A]at F;cases F;exact X];rw[mE,oR,y];exact u
 ·have:i=l.length:=by omega
  subst this;rw[zo,List.drop_length,lZ]at S;exact hR v e S
theorem TI {e:Int}{K:Int->Prop}(h0:0<=e)(h1:e<256)(hK:K e):Ar .u8 e K:=by
 have a:IntKind.u8.wrap e=e:=by
  unfold IntKind.wrap;simp[IntKind.bits,IntKind.signed];omega
 unfold Ar;rw[a];exact hK
set_option maxRecDepth 100000 in
theorem Rm {n:Nat}(hn:n<=12){R:aN}(hR:∀t,R t σ):ZT.c (n:Int) σ R:=by
 refine ZT.o ?_;refine ZJ.o ?_;refine Jn.intro (fJ O (Jn.intro (fJ O (Jn.intro (fJ O ?_)))));refine TI O O ?_;have a:n=0\/n=1\/n=2\/n=3\/n=4\/n=5\/n=6\/n=7\/n=8\/n=9\/n=10\/n=11\/n=12:=by omega
 rcases a with rfl|rfl|rfl|rfl|rfl|rfl|rfl|rfl|rfl|rfl|rfl|rfl|rfl<;>exact⟨_,O,rfl,hR _⟩
theorem PL {s:Sl}{l:List Nat}{f:Fv}(h:bS s 1 (ints l) σ Q)(hl:l.length<=12)(hn:l.Pairwise (λa b=>key a≠key b))(hc:xw f key l Q σ){R:aP}
 (hR:∀σ',Ext Q σ σ'->bS s 1 (ints (U0 key l)) σ' Q->R σ'):WR.c s f σ R:=by
 refine WR.o ?_;have g:=h.lB;rw[g];have j:IntKind.u64.wrap (l.length:Int)=(l.length:Int):=by
  unfold IntKind.wrap;simp[IntKind.bits,IntKind.signed];omega
 unfold Ar;rw[j];refine Rm hl λt=>WP.xM ?_;unfold WP.L9;refine NG (a:=bN) (bb:=bN) (c:=bN) (d:=.b) (e:=.b) (λ(x:Int) (y:Int) _ _ _ v=>x=0/\y=(l.length:Int)/\v=σ) (λ_ _ _ _ _ _=>0) ⟨rfl,rfl,rfl⟩ ?_;rintro x y z u w v ⟨rfl,rfl,rfl⟩;refine ar O O (oK O ?_);exact SV h O hn hc hR
end Go.Ar
namespace Go.Ar
open Go Go.Vc Go.Proofs
variable {σ:Hp}{F:Rg}{p q:Nat}{st:List Nat}
def jZ (st:List Nat)(h:Nat):Nat:=Vb st h*100000+used st h*1000+(999-h)
def VJ (st:List Nat):List Nat:=(List.range (st.length/16)).filter λh=>0<gD st (16*h) (16*h+16) 2
theorem Gu (st:List Nat)(h:Nat):used st h<=16:=by
 unfold used gD;refine zJ y9 ?_;rw[zP];omega
theorem Di (st:List Nat)(h:Nat):Vb st h<=2:=by
 unfold Vb;split
 ·omega
 ·split<;>omega
theorem Nq {g h:Nat}(hg:g<=64)(hh:h<=64):C3 st g h=decide (jZ st g<jZ st h):=by
 have e:=Gu st g;have d:=Gu st h;have b:=Di st g;have a:=Di st h;unfold C3 jZ;rw[qN];simp only[rO,zG,zV,zY];omega
theorem Uv {α:Type}{P Q:α->Bool}:∀{l:List α},(∀x∈l,P x=Q x)->l.takeWhile P=l.takeWhile Q
 | [],_=>rfl
 | x::l,h=>by
  rw[Ap,Ap,h x nE,Uv λy hy=>h y (mJ _ hy)]
theorem Uw {α:Type}{P Q:α->Bool}:∀{l:List α},(∀x∈l,P x=Q x)->l.dropWhile P=l.dropWhile Q
 | [],_=>rfl
 | x::l,h=>by
  rw[FP,FP,h x nE,Uw λy hy=>h y (mJ _ hy)]
theorem V3 (hl:st.length<=1024):∀h∈VJ st,16*h+16<=st.length/\h<=64:=by
 intro h hh;unfold VJ at hh;have:=(zF.1 hh).1;rw[zQ]at this;omega
theorem Uy (hl:st.length<=1024):eN st=U0 (jZ st) (VJ st):=by
 have key:∀(l acc:List Nat),(∀x∈l,x<=64)->(∀x∈acc,x<=64)->l.foldl (qE st) acc=l.foldl (kH (jZ st)) acc:=by
  intro l
  induction l with
  | nil=>intro acc _ _;rfl
  | cons h l ih=>
   intro acc h1 h2;have b:=h1 h nE;have e:qE st acc h=kH (jZ st) acc h:=by
    unfold qE kH;rw[Uv λg d=>Nq (h2 g d) b,Uw λg d=>Nq (h2 g d) b]
   rw[oE,oE,e];refine ih _ (λx a=>h1 x (mJ _ a)) λx a=>?_;rcases zR.1 ((DY acc h).mem_iff.1 a)with h3|h3
   ·rw[h3];exact b
   ·exact h2 x h3
 exact key _ [] (λx a=>(V3 hl x a).2) aA
theorem Sd (hl:st.length<=1024):(VJ st).Pairwise λa b=>jZ st a≠jZ st b:=by
 have e:(VJ st).Pairwise (· ≠ ·):=List.Pairwise.sublist vU Am;refine List.Pairwise.imp_of_mem (λ{a b} i d g=>?_) e;have j:=(V3 hl a i).2;have m:=(V3 hl b d).2;have:=Gu st a;have:=Gu st b;unfold jZ;omega
theorem Jw:∀{n m p:Nat},n<=m->(∀j,j<n->st[p+j]?=some 2)->(n=m\/st[p+n]?≠some 2)->gB st p m=n
 | 0,m,p,_,_,he=>by
  unfold gB;rcases he with h|h
  ·rw[←h];simp
  ·cases m with
   | zero=>simp
   | succ m=>
    cases hd:st[p]? with
    | none=>
     have:=List.getElem?_eq_none_iff.1 hd;rw[D4 this];simp
    | some x=>
     have d:=(cQ.1 hd).1;rw[ur d,vK,IS]
     ·rfl
     ·have b:=(cQ.1 hd).2;rw[b];intro h2;rw[zt,hd]at h;exact h (by simpa using h2)
 | n+1,m,p,hm,ha,he=>by
  have a:=ha 0 O;rw[zt]at a;have d:=(cQ.1 a).1;have b:=(cQ.1 a).2;have e:=Jw (n:=n) (m:=m-1) (p:=p+1) O (λj g=>by rw[show p+1+j=p+(j+1) by omega];exact ha _ O) (by
   rcases he with h|h
   ·left;omega
   ·right;rw[show p+1+n=p+(n+1) by omega];exact h)
  unfold gB at *;obtain⟨k,rfl⟩:∃k,m=k+1:=⟨m-1,O⟩;rw[ur d,vK,List.takeWhile_cons_of_pos (by rw[b];rfl),zN];rw[FD]at e;rw[e]
theorem MI (e:Nat):∀(f f' x:Nat),e-x<f->e-x<f'->Q7 st e f x=Q7 st e f' x:=by
 intro f
 induction f with
 | zero=>intro f' x h;omega
 | succ f ih=>
  intro f' x h1 h2;obtain⟨g,rfl⟩:∃g,f'=g+1:=⟨f'-1,O⟩;unfold Q7;by_cases hc:e<=x
  ·rw[zB hc,zB hc]
  ·rw[zA hc,zA hc];split
   ·exact ih g _ O O
   ·rw[ih g (x+gB st x (e-x)+1) O O]
theorem WiF {want:Int}{x:Nat}(h:want<=(x:Int)):∀l,gQ want x l=[]
 | []=>rfl
 | r::l=>by unfold gQ;rw[zB h]
theorem Wow {want:Int}{x:Nat}(h:¬want<=(x:Int))(r:Nat×Nat)(l:List (Nat×Nat)):gQ want x (r::l)=r::gQ want (x+r.2) l:=by
 show(if want<=(x:Int)then[]else r::gQ want (x+r.2) l)=_
 rw[zA h]
theorem TH {e x f:Nat}(hx:x<e)(hf:e-x<f):Q7 st e f x=if gB st x (e-x)=0 then Q7 st e f (x+1)else(x,gB st x (e-x))::Q7 st e f (x+gB st x (e-x)+1):=by
 obtain⟨g,rfl⟩:∃g,f=g+1:=⟨f-1,O⟩;rw[Q7,zA O];split
 ·exact MI e _ _ _ O O
 ·rw[MI e g (g+1) _ O O]
theorem Whw {e x f:Nat}(hx:e<=x):Q7 st e f x=[]:=by
 cases f with
 | zero=>rfl
 | succ f=>rw[Q7,zB hx]
theorem WkW (h:gL σ p q st){n2:Nat}(hb:bX σ n2 [.pointer (some ⟨p,0,none⟩)]){Q:Rg}(hq:¬Q p/\¬Q q/\¬Q n2)(hl:st.length<=1024){l:List Nat}(hm:∀x∈l,16*x+16<=st.length) :
 xw ⟨233,#[],#[.pointer (some ⟨n2,0,none⟩)]⟩ (jZ st) l Q σ:=by
 intro x hx y hy σ' R e hR;refine Gm (all := #[.int .i64 (x:Int),.int .i64 (y:Int),.pointer (some ⟨n2,0,none⟩)]) (by kernel_rfl) aA ?_;show XL.c (x:Int) (y:Int) ⟨n2,0,none⟩ σ' R;refine XL.o ?_;have g:=h.bU e hq.1 hq.2.1;have i:=e.bV hb hq.2.2;have d:=hm x hx;have a:=hm y hy;have E:=Gu st x;have A:=Gu st y;have C:=Di st x;have D:=Di st y;refine⟨(· = σ'),rfl,⟨_,λm hm=>by rw[hm,i.cell];rfl,⟨_,λm hm=>by rw[hm,i.cell];rfl,?_⟩⟩⟩;refine yF g d λB=>⟨rfl,yF g a λF=>⟨rfl,FC g d (FC g a (ar O O ?_))⟩⟩;refine cU (λs=>?_) λs=>?_
 ·have u:((Vb st x:Nat):Int)-((Vb st y:Nat):Int)≠0:=by simpa using s
  refine hR _ σ' (Ext.refl _ _) ?_;unfold jZ;omega
 ·have z:((Vb st x:Nat):Int)-((Vb st y:Nat):Int)=0:=by simpa using s
  refine g.jH (v:=1) d (g.jH (v:=1) a ?_);have j:gD st (16*x) (16*x+16) 1=used st x:=rfl;have r:gD st (16*y) (16*y+16) 1=used st y:=rfl;rw[j,r];refine ar O O (cU (λb=>?_) λb=>?_)
  ·have u:((used st x:Nat):Int)-((used st y:Nat):Int)≠0:=by simpa using b
   refine hR _ σ' (Ext.refl _ _) ?_;unfold jZ;omega
  ·have w:((used st x:Nat):Int)-((used st y:Nat):Int)=0:=by simpa using b
   refine ar O O (hR _ σ' (Ext.refl _ _) ?_);unfold jZ;omega
theorem Pn (l:List (Nat×Nat))(r:Nat×Nat):rV (l++[r])=rV l++[.int .i64 (r.1:Int),.int .i64 (r.2:Int)]:=by simp[rV]
theorem V5 (n:Nat)(P:Nat->Bool):(List.range (n+1)).filter P=(List.range n).filter P++(if P n then[n]else[]):=by
 rw[mD,yw]
 congr 1
 cases h:P n<;>simp[h]
set_option maxRecDepth 4000 in
theorem S2 (h:gL σ p q st)(want:Int)(h12:(VJ st).length<=12){R:Sl->Int->Hp->Prop}(h0:want<0->∀σ',bO σ σ'->R ⟨none,0,0⟩ 1 σ')
 (h1:¬want<0->∀s σ',bO σ σ'->bS s 2 (rV (Ht st want)) σ' (λb=>σ.size<=b)->R s 0 σ'):Yy.c (aW p) want σ R:=by
 refine Yy.o ?_;have n2:=h.n2;refine nw (cs:=[.pointer (some ⟨p,0,none⟩)]) λu hz e L=>L.yx rfl (HY (h.bK e) (cG rfl (cI (λhw=>h0 hw u e) λhw=>?_)));have hu:=h.bK e;refine L.yx rfl (DA hu ?_);refine KA (a:=.s) (bb:=bN) (λ(A:Sl) (t:Int) v=>∃k:Nat,t=(k:Int)/\k<=st.length/16/\bO u v/\bS A 1 (ints ((List.range k).filter λh=>0<gD st (16*h) (16*h+16) 2)) v (λb=>u.size<=b)) (λ_ t _=>st.length/16-t.toNat)
  ⟨0,rfl,O,Ext.refl _ _,bS.nil _ _ _ _⟩ ?_
 rintro A t v ⟨k,rfl,hk,ev,B⟩;have hv:=hu.bK ev;have hbv:=ev.bV L id;refine cI (λhlt=>?_) λhge=>?_
 ·have F:16*k+16<=st.length:=by omega
  have hlen:=B.lB;have hfl:((List.range k).filter λh=>0<gD st (16*h) (16*h+16) 2).length<=k:=zJ (qB _ _) (by rw[sH];omega);refine hbv.yx rfl (yF hv F λc=>hv.jH (v:=2) F (cI (λhc=>?_) λhc=>?_))
  ·have P:0<gD st (16*k) (16*k+16) 2:=by omega
   refine B.push (vs:=[.int .i64 (k:Int)]) (λb L=>zJ ev.1 L) rfl rfl (by simp[dP]) O O λs' v' hl' e' S=>?_;refine cA (m:=k+1) O O ⟨⟨k+1,rfl,O,Ext.fresh ev e' λi hi=>hi,?_⟩,O⟩;rw[V5,zB (by simpa using P),Vv];exact S
  ·refine cA (m:=k+1) O O ⟨⟨k+1,rfl,O,ev,?_⟩,O⟩;rw[V5,zA aE,lZ];exact B
 have hkk:k=st.length/16:=by omega
 subst hkk;have hplt:=h.lt;have hcmp:=WkW hv hbv (Q:=λb=>u.size<=b) ⟨O,O,O⟩ n2 (l:=VJ st) λx hx=>(V3 n2 x hx).1;refine PL B h12 (Sd n2) hcmp λw ew H=>?_;have H:bS A 1 (ints (U0 (jZ st) (VJ st))) w (λb=>u.size<=b):=H;rw[←Uy n2]at H;have E:bO u w:=Ext.fresh ev ew λi hi=>hi;have hT:=hu.bK E;have hbw:=E.bV L id;have hol:=H.lB;have hmem:∀x∈eN st,16*x+16<=st.length:=λx hx=>by
  rw[Uy n2]at hx;exact(V3 n2 x ((KE _).mem_iff.1 hx)).1
 have hlen12:(eN st).length<=12:=by rw[Uy n2,(KE _).length_eq];exact h12
 have hslo:=aH.cut H.gE;refine N2 (a:=.s) (bb:=bN) (c:=bN) (λ(out:Sl) (d:Int) (t:Int) v=>∃(k:Nat) (D:List (Nat×Nat)) (m:Nat),t=(k:Int)/\k<=(eN st).length/\d=(m:Int)/\m<=16*k/\D.length<=16*k/\bO w v/\bS out 2 (rV D) v (λb=>w.size<=b)/\D++gQ want m (((eN st).drop k).flatMap (Vd st))=Ht st want) (λ_ _ t _=>(eN st).length-t.toNat)
  ⟨0,[],0,rfl,O,rfl,O,by simp,Ext.refl _ _,bS.nil _ _ _ _,by simp[Ht]⟩ ?_
 rintro out d t v ⟨k,D,m,rfl,hk,rfl,hm,hD,K,Z,J⟩;have hTv:=hT.bK K;have hbv2:=K.bV hbw id;refine cI (λhlt=>?_) λhge=>?_
 ·have F:k<(eN st).length:=by omega
  have hx:(eN st)[k]?=some (eN st)[k]:=cM F;have hxm:=hmem _ (zf F);have sB:(eN st).drop k=(eN st)[k]::(eN st).drop (k+1):=ur F;rw[sB,qb]at J;generalize (eN st)[k]=x at *;have hsl2:=aH.bK hslo K;refine hsl2.sI hx ?_;refine N2 (a:=.s) (bb:=bN) (c:=bN) (λ(out:Sl) (d:Int) (t:Int) z=>∃(i:Nat) (D:List (Nat×Nat)) (m:Nat),t=(i:Int)/\i<=17/\d=(m:Int)/\m<=16*k+i/\m<=16*k+16/\D.length<=16*k+i/\D.length<=16*k+16/\bO w z/\bS out 2 (rV D) z (λb=>w.size<=b)/\D++gQ want m (Q7 st (16*x+16) 17 (16*x+i)++((eN st).drop (k+1)).flatMap (Vd st))=Ht st want) (λ_ _ t _=>20-t.toNat)
   ⟨0,D,m,rfl,O,rfl,O,O,O,O,K,Z,by simpa[Vd]using J⟩ ?_
  rintro C g t2 z ⟨i,D2,m2,rfl,hi,rfl,hm1,hm2,hD1,hD2,X,G,r⟩;have hTz:=hT.bK X;have hbz:=X.bV hbw id;have hlz:C.len=D2.length:=by have:=G.1;rw[CW]at this;omega
  refine cI (λhlt3=>?_) λhge3=>?_
  ·have hi':i<16:=by omega
   refine cI (λhdone=>?_) λhgo=>?_
   ·rw[WiF O,lZ]at r;rw[r]at G;exact h1 hw C z ((Ext.trans e E).trans X) (aI.mono G λb _ L=>by have:=(Ext.trans e E).1;omega)
   ·refine ZV (a:=bN) (λ(t:Int) y=>y=z/\∃n:Nat,t=(n:Int)/\i+n<=16/\∀j,j<n->st[16*x+i+j]?=some 2) (λt _=>20-t.toNat) ⟨rfl,0,rfl,O,λj hj=>O⟩ ?_;rintro t3 y ⟨rfl,n,rfl,hn,M⟩;have N:(i+n=16\/st[16*x+i+n]?≠some 2)->If (decide ((n:Int)>0)) (Ar .i64 ((x:Int)*16) λt73=>Ar .i64 (t73+(i:Int)) λt75=>Nw (.cells #[.int .i64 t75,.int .i64 (n:Int)] 92 (0,0)) y λn78 v13=>
     App C 2 16 92 [.int .i64 0,.int .i64 0] ⟨some n78,1,1⟩ v13 λY v14=>Ar .i64 ((m2:Int)+(n:Int)) λg=>Ar .i64 ((i:Int)+(n:Int)) λi1=>Ar .i64 (i1+1) λi2=>
     (∃(i:Nat) (D:List (Nat×Nat)) (m:Nat),i2=(i:Int)/\i<=17/\g=(m:Int)/\m<=16*k+i/\m<=16*k+16/\D.length<=16*k+i/\D.length<=16*k+16/\bO w v14/\bS Y 2 (rV D) v14 (λb=>w.size<=b)/\D++gQ want m (Q7 st (16*x+16) 17 (16*x+i)++((eN st).drop (k+1)).flatMap (Vd st))=Ht st want)/\20-i2.toNat<20-(i:Int).toNat)
     (Ar .i64 ((i:Int)+1) λi3=>(∃(i:Nat) (D:List (Nat×Nat)) (m:Nat),i3=(i:Int)/\i<=17/\(m2:Int)=(m:Int)/\m<=16*k+i/\m<=16*k+16/\D.length<=16*k+i/\D.length<=16*k+16/\bO w y/\bS C 2 (rV D) y (λb=>w.size<=b)/\D++gQ want m (Q7 st (16*x+16) 17 (16*x+i)++((eN st).drop (k+1)).flatMap (Vd st))=Ht st want)/\20-i3.toNat<20-(i:Int).toNat):=by
     intro hst;have hrl:gB st (16*x+i) (16*x+16-(16*x+i))=n:=Jw O M (by
      rcases hst with h|h
      ·left;omega
      ·right;exact h)
     rw[TH O O,hrl]at r;refine cI (λP=>?_) λhz0=>?_
     ·rw[zA O,oR,Wow O]at r;refine cA (m:=x*16) O O (cA (m:=16*x+i) O O ?_);refine G.push (vs:=[.int .i64 ((16*x+i:Nat):Int),.int .i64 (n:Int)]) (λb L=>zJ X.1 L) rfl rfl (by simp[dP]) O O λs' v' hl' e' S=>?_;refine cA (m:=m2+n) O O (cA (m:=i+n) O O (cA (m:=i+n+1) O O ⟨⟨i+n+1,D2++[(16*x+i,n)],m2+n,rfl,O,rfl,O,O,by simp;omega,?_,Ext.fresh X e' λi hi=>hi,?_,?_⟩,O⟩))
      ·simp;have:D2.length<16*k+16:=by omega
       omega
      ·rw[Pn];exact S
      ·rw[←r,mE,show 16*x+(i+n+1)=16*x+i+n+1 by omega];rfl
     ·rw[zB O]at r;exact cA (m:=i+1) O O ⟨⟨i+1,D2,m2,rfl,O,rfl,O,O,O,O,X,G,r⟩,O⟩
    refine cA (m:=i+n) O O (bZ.intro (cI (λhc4=>?_) λhc4=>cG rfl (N (.inl O))));refine hbz.yx rfl (yF hTz hxm λc=>cA (m:=i+n) O O ?_);have hidx:16*x+i+n<st.length:=by omega
    have U:st[16*x+i+n]?=some st[16*x+i+n]:=cM hidx;have V:=hTz.part (s:=⟨some ⟨q,16*x,none⟩,16,c⟩) (n:=16) rfl rfl hxm;refine V.sI (i:=i+n) (x:=st[16*x+i+n]) ?_ ?_
    ·rw[zb,zB O,zq,show 16*x+(i+n)=16*x+i+n by omega];exact U
    have e2:(((st[16*x+i+n]:Nat):Int)==2)=(st[16*x+i+n]==2):=lP _ 2;rw[e2];refine cU (λW=>?_) λW=>?_
    ·have h2:st[16*x+i+n]=2:=by simpa using W
     refine cA (m:=n+1) O O ⟨⟨rfl,n+1,rfl,O,λj hj=>?_⟩,O⟩;by_cases hjn:j=n
     ·subst hjn;rw[U,h2]
     ·exact M j O
    ·have h2:st[16*x+i+n]≠2:=by simpa using W
     refine N (.inr ?_);rw[U];intro e5;exact h2 (Option.some.inj e5)
  ·rw[Whw O,sU]at r;exact cA (m:=k+1) O O ⟨⟨k+1,D2,m2,rfl,O,rfl,O,O,X,G,r⟩,O⟩
 ·have:k=(eN st).length:=by omega
  subst this;rw[List.drop_length,List.flatMap_nil]at J;have:gQ want m []=[]:=rfl;rw[this,lZ]at J;rw[J]at Z;exact h1 hw out v ((Ext.trans e E).trans K) (aI.mono Z λb _ L=>by have:=(Ext.trans e E).1;omega)
end Go.Ar
namespace Go.Ar
open Go Go.Vc Go.Proofs
open Go.Bu (Zg QW Zv jH)
variable {σ:Hp}{F H:Rg}{p hs:Nat}{A:AR}{sp:Sp}{Y:Lay}{T:Nat->Hp->Rg->Prop}
theorem I8 {want:Int}:∀(x:Nat) (l:List (Nat×Nat)),(gQ want x l).length<=l.length/\∀r∈gQ want x l,r∈l
 | _,[]=>⟨zD _,λr h=>h⟩
 | x,r::l=>by
  have ih:=I8 (want:=want) (x+r.2) l;show(if want<=(x:Int)then[]else r::gQ want (x+r.2) l).length<=_/\∀q∈(if want<=(x:Int)then[]else r::gQ want (x+r.2) l),_
  split
  ·exact⟨Nat.zero_le _,λq h=>by simp at h⟩
  ·refine⟨by simp only[zN];omega,λq a=>?_⟩;rcases zR.1 a with h|h
   ·subst h;exact nE
   ·exact mJ _ (ih.2 q h)
theorem Uc {st:List Nat}{e:Nat}:∀(f x:Nat),(Q7 st e f x).length<=f/\∀r∈Q7 st e f x,r.1+r.2<=e
 | 0,x=>⟨zD _,λr h=>by simp[Q7]at h⟩
 | f+1,x=>by
  have h1:=Uc (st:=st) (e:=e) f (x+1);have a:=Uc (st:=st) (e:=e) f (x+gB st x (e-x)+1);have d:gB st x (e-x)<=e-x:=by
   unfold gB;refine zJ (List.takeWhile_sublist _).length_le ?_;rw[zP];omega
  unfold Q7;split
  ·exact⟨Nat.zero_le _,λr h=>by simp at h⟩
  ·split
   ·exact⟨by have:=h1.1;omega,h1.2⟩
   ·refine⟨by simp only[zN];have:=a.1;omega,λr b=>?_⟩;rcases zR.1 b with h|h
    ·subst h;simp only;omega
    ·exact a.2 r h
theorem Tt {st:List Nat}(hl:st.length<=1024)(want:Int):(Ht st want).length<=2000/\∀r∈Ht st want,r.1+r.2<=st.length:=by
 have m:∀x∈eN st,16*x+16<=st.length:=λx a=>by
  rw[Uy hl]at a;exact(V3 hl x ((KE _).mem_iff.1 a)).1
 have j:(eN st).length<=64:=by
  rw[Uy hl,(KE _).length_eq];refine zJ (qB _ _) ?_;rw[sH];omega
 have b:∀l:List Nat,(l.flatMap (Vd st)).length<=17*l.length:=by
  intro l
  induction l with
  | nil=>simp
  | cons x l ih=>
   rw[qb,zK,zN];have:=(Uc (st:=st) (e:=16*x+16) 17 (16*x)).1;have e:Vd st x=Q7 st (16*x+16) 17 (16*x):=rfl;rw[e];omega
 have g:=I8 (want:=want) 0 ((eN st).flatMap (Vd st));refine⟨?_,λr i=>?_⟩
 ·have:=b (eN st);have:=g.1;unfold Ht;omega
 ·have:=g.2 r i;rw[tv]at this;obtain⟨x,a,d⟩:=this;have s:=(Uc (st:=st) (e:=16*x+16) 17 (16*x)).2 r d;have p:=m x a;omega
def rz (want:Int):Int:=if want<0 then 1 else 0
theorem SD (h:W2 σ F H Y A T sp)(want:Int)(h12:(VJ (YL A).st).length<=12){R:Int->Int->Hp->Prop}(hR:∀σ' F' H',Fits σ F H F' H'->Ext (gK F H) σ σ'->W2 σ' F' H' Y (dV A sp want).1 T (dV A sp want).2->R ((mZ A want:Nat):Int) (rz want) σ') :
 Xn.c (aW Y.p) want σ R:=by
 refine Xn.o ?_;refine Vj h.a (cG rfl (cI (λJ=>?_) λJ=>aG (h.a.hd.rS rfl (Rr h.a rfl λv e hA=>?_))))
 ·have e1:dV A sp want=(A,sp):=by unfold dV;rw[zB J]
  have e2:mZ A want=0:=by unfold mZ;rw[zB J]
  have e3:rz want=1:=by unfold rz;rw[zB J]
  have:=hR σ F H Fits.refl (Ext.refl _ _) (by rw[e1];exact h);rw[e2,e3]at this;exact this
 have e1:dV A sp want=(Ht (YL A).st want).foldl fF (YL A,sp):=by unfold dV;rw[zA J];rfl
 have e2:mZ A want=((Ht (YL A).st want).map (·.2)).sum:=by unfold mZ;rw[zA J];rfl
 have e3:rz want=0:=by unfold rz;rw[zA J]
 rw[e1,e2,e3]at hR;have hW:=h.qp e hA;have W:(YL A).st.length<=1024:=by have:=hA.lay.st;have:=hA.lay.n2;omega
 obtain⟨_,_,q,hT,_⟩:=hW.a.p9;refine aG (hW.a.hd.rP rfl (S2 hT want h12 (λZ=>absurd Z J) λ_ s v1 D G=>?_));have d:=Tt W want;generalize Ht (YL A).st want=P at *;have hlen:s.len=P.length:=by have:=G.1;rw[CW]at this;omega
 have N:=hW.cut.bK D;refine cG rfl (aG (N.a.hd.rP rfl (aG (N.C0 ?_))));refine nw (cs:=[.func (.func 192) #[.pointer (some ⟨Y.tr,0,none⟩)] #[],.func (.func 193) #[.pointer (some ⟨Y.hs,0,none⟩)] #[]]) λv2 hz2 L hb2=>?_;have hW2:=N.bK L;have esz1:=D.1;have es:∀{a b:Hp},Ext (Cut (Cut H σ) v) a b->Ext (gK F H) a b:=λe=>e.sub λb d=>.inr d.1.1;have ea:∀{a b:Hp},Ext (Cut (Grow F σ) v) a b->Ext (gK (Grow F σ) H) a b:=λe=>e.sub λb d=>.inl d.1;have es':∀{a b:Hp},Ext (Cut (Cut H σ) v) a b->Ext (gK (Grow F σ) H) a b:=λe=>e.sub λb d=>.inr d.1.1;have nF:∀b,v.size<=b->¬Cut (Grow F σ) v b:=λb d hc=>by have:=hc.2;omega
 have nH:∀b,v.size<=b->¬Cut (Cut H σ) v b:=λb d hc=>by have:=hc.2;omega
 have hs2:cT s 2 (rV P) v2 (λb=>v.size<=b):=aH.bK G.gE L;refine KA (a:=bN) (bb:=bN) (λ(S:Int) (t:Int) w=>∃i:Nat,t=(i:Int)/\i<=P.length/\S=(((P.take i).map (·.2)).sum:Nat)/\((P.take i).map (·.2)).sum<=1024*i/\Ext (gK (Grow F σ) H) v w/\W2 w (Cut (Grow F σ) v) (Cut (Cut H σ) v) Y ((P.take i).foldl fF (YL A,sp)).1 T ((P.take i).foldl fF (YL A,sp)).2/\cT s 2 (rV P) w (λb=>v.size<=b)/\bX w v1.size [.func (.func 192) #[.pointer (some ⟨Y.tr,0,none⟩)] #[],.func (.func 193) #[.pointer (some ⟨Y.hs,0,none⟩)] #[]]) (λ_ t _=>P.length-t.toNat)
  ⟨0,rfl,O,rfl,by simp,(bO.to D).pc L,hW2,hs2,hb2⟩ ?_
 rintro S t w ⟨i,rfl,hi,rfl,hsum,ew,M,V,hbw⟩;refine cI (λZ=>?_) λhge=>?_
 ·have aa:i<P.length:=by omega
  have hx:P[i]?=some P[i]:=cM aa;have U:P.take (i+1)=P.take i++[P[i]]:=by rw[zl,hx];rfl
  have hbr:=d.2 _ (zf aa);generalize P[i]=r at *;refine Om V hx ?_;refine nw (cs:=[.int .i64 0,.int .i64 0]) λv4 hz4 e4 hb4=>hb4.s1 aA λv5 o5 b5=>b5.s1 aA λv6 o6 b6=>?_;have C:bO w v6:=Ext.fresh (Ext.fresh e4 o5.ext λi hi=>O) o6.ext λi hi=>by omega
  have ad:bX v6 w.size [.int .i64 (r.1:Int),.int .i64 (r.2:Int)]:=b6;have hW6:=M.bK C;have X:=C.bV hbw id;have ab:=aH.bK V C;have ac:v.size<=w.size:=ew.1;have E:v.size<=v1.size:=D.1;refine ZV (a:=bN) (λ(t:Int) z=>∃j:Nat,t=(j:Int)/\j<=2/\Ext (gK (Grow F σ) H) v z/\W2 z (Cut (Grow F σ) v) (Cut (Cut H σ) v) Y (if j=0 then((P.take i).foldl fF (YL A,sp)).1 else(fF ((P.take i).foldl fF (YL A,sp)) r).1) T (if j<=1 then((P.take i).foldl fF (YL A,sp)).2 else(fF ((P.take i).foldl fF (YL A,sp)) r).2)/\cT s 2 (rV P) z (λb=>v.size<=b)/\bX z v1.size [.func (.func 192) #[.pointer (some ⟨Y.tr,0,none⟩)] #[],.func (.func 193) #[.pointer (some ⟨Y.hs,0,none⟩)] #[]]/\bX z w.size [.int .i64 (r.1:Int),.int .i64 (r.2:Int)]) (λt _=>2-t.toNat)
   ⟨0,rfl,O,ew.pc C,hW6,ab,X,ad⟩ ?_
  rintro t z ⟨j,rfl,hj,ez,u,K,x,Q⟩;refine cI (λhlt2=>?_) λhge2=>?_
  ·have hj2:j=0\/j=1:=by omega
   rcases hj2 with rfl|rfl
   ·refine ix O O ?_;refine⟨⟨192,#[.pointer (some ⟨Y.tr,0,none⟩)],#[]⟩,by rw[add_lit,x.cell];rfl,Q.rI rfl (Q.rI rfl ?_)⟩;refine Gm (all := #[.pointer (some ⟨Y.tr,0,none⟩),.int .i64 (r.1:Int),.int .i64 (r.2:Int)]) (by kernel_rfl) aA ?_;rw[zB rfl,zB O]at u;show W8.c (aW Y.tr) (r.1:Int) (r.2:Int) z _;refine u.a.Rel _ _ λz2 t2 y hA5=>?_;refine cA (m:=1) O O ⟨⟨1,rfl,O,ez.trans (ea y),?_,aH.bU K y λb _ d=>nF b d,y.bV x (nF _ E),y.bV Q (nF _ ac)⟩,O⟩;rw[zA O,zB O];exact u.lM y hA5
   ·refine ix O O ?_;refine⟨⟨193,#[.pointer (some ⟨Y.hs,0,none⟩)],#[]⟩,by rw[add_lit,x.cell];rfl,Q.rI rfl (Q.rI rfl ?_)⟩;refine Gm (all := #[.pointer (some ⟨Y.hs,0,none⟩),.int .i64 (r.1:Int),.int .i64 (r.2:Int)]) (by kernel_rfl) aA ?_;rw[zA O,zB O]at u;show XG.c (aW Y.hs) (r.1:Int) (r.2:Int) z _;refine WgP u.s u.g u.o2 _ _ λz2 y hS5=>?_;refine cA (m:=2) O O ⟨⟨2,rfl,O,ez.trans (es' y),?_,aH.bU K y λb _ d=>nH b d,y.bV x (nH _ E),y.bV Q (nH _ ac)⟩,O⟩;rw[zA O,zA O];exact u.space y hS5
  ·have hjj:j=2:=by omega
   subst hjj;rw[zA O,zA O]at u;have B:((P.take (i+1)).map (·.2)).sum=((P.take i).map (·.2)).sum+r.2:=by rw[U];simp
   refine Q.rI rfl (cA (m:=((P.take i).map (·.2)).sum+r.2) O O (cA (m:=i+1) O O ⟨⟨i+1,rfl,O,by rw[B],by rw[B];omega,ez,?_,K,x⟩,O⟩));rw[U,pY];exact u
 ·have:i=P.length:=by omega
  subst this;rw[zo]at M ⊢;refine hR w (Cut (Grow F σ) v) (Cut (Cut H σ) v) ⟨λb d=>d.1,λb d=>d.1.1⟩ ((e.sub λb d=>.inl d).fH ew λb d=>?_) M;rcases d with(d|d)|d
  ·exact .inl (.inl d)
  ·exact .inr d
  ·exact .inl (.inr d)
theorem LD {s:Sl}{l:List Nat}(h:cT s 1 (eY l) σ F){k q:Nat}(hq:l[k]?=some q){K:Option Addr->Prop}(hK:K (some ⟨q,0,none⟩)):Ix s.a s.len (k:Int) 1 λa=>gW (λm=>bO σ m) .p a K:=by
 have r:=(cQ.1 hq).1;obtain⟨b,o,g,d⟩:=h.cell (j:=k) (v:=.pointer (some ⟨q,0,none⟩)) (by simp[eY,hq]);have i:=h.1;simp[eY]at i;rw[g];refine ix O O ⟨_,λm e=>?_,hK⟩;rw[add_lit,show o+(k:Int).toNat*1=o+k by omega,Q0 e (Q4 d) id];exact d
theorem cX.A0 (h:cX σ F Y A T){k q:Nat}(hq:Y.fM[k]?=some q){K:Option Addr->Prop}(hK:K (some ⟨q,0,none⟩)):Ix Y.dJ.a Y.dJ.len (k:Int) 1 λa=>gW (λm=>bO σ m) .p a K:=by
 obtain⟨G,d,b⟩:=h.sep.get .dJ;exact LD (bS.gE b) hq hK
theorem cX.AA (h:cX σ F Y A T){k q:Nat}(hq:Y.gF[k]?=some q){K:Option Addr->Prop}(hK:K (some ⟨q,0,none⟩)):Ix Y.cL.a Y.cL.len (k:Int) 1 λa=>gW (λm=>bO σ m) .p a K:=by
 obtain⟨G,d,b⟩:=h.sep.get .cL;exact LD (bS.gE b) hq hK
theorem cX.xq (h:cX σ F Y A T){i:Nat}{c:CK}{x:c.T}(hx:(nQ Y)[i]?=some (c.v x)){K:c.T->Prop}(hK:K x):gW (λm=>bO σ m) c (Addr.add ⟨Y.p,0,none⟩ i) K:=by
 refine⟨x,λm a=>?_,hK⟩;rw[add_lit,(Ext.bV a h.hd id).cell,zI];exact hx
theorem cX.cE (h:cX σ F Y A (cF A Y)){k q:Nat}{c:bY}{t:fT}(h1:Y.gF[k]?=some q)(h2:A.tb[k]?=some c)(h3:A.cE[k]?=some t):∃G:Rg,(∀b,G b->F b)/\iT σ G q c.batch A.room t:=by
 obtain⟨G,d,a,_⟩:=h.xz h1 h2 h3;exact⟨G,d,a⟩
theorem Sa {c:bY}{s:Sl}{tb:List bY}(h:cT s 3 (gA tb) σ F){k ty:Nat}(hc:tb[k]?=some c){K:Addr->Hp->Prop}(hK:∀v,bO σ v->bX v σ.size [.int .i64 (c.size:Int),.int .i64 (c.aF:Int),.int .i64 (c.batch:Int)]->K ⟨σ.size,0,none⟩ v) :
 Ix s.a s.len (k:Int) 3 λa31=>fL .i64 (a31.add 0) σ λt32=>fL .i64 (a31.add 1) σ λt321=>fL .i64 (a31.add 2) σ λt322=>
  Nw (.cells #[.int .i64 0,.int .i64 0,.int .i64 0] ty (0,0)) σ λn14 v2=>cY (n14.add 0) (.int .i64 t32) v2 λv3=>cY (n14.add 1) (.int .i64 t321) v3 λv4=>cY (n14.add 2) (.int .i64 t322) v4 λv5=>K n14 v5:=by
 have g:=HQ hc;have D:=(cQ.1 hc).1;obtain⟨b,o,m,C⟩:=h.cell g.1;obtain⟨E,o1,e,w⟩:=h.cell g.2.1;obtain⟨p,o2,d,A⟩:=h.cell g.2.2;rw[m]at e d;cases e;cases d;have y:=h.1;rw[KT]at y;rw[m];refine ix O O ?_;rw[add_lit,show o+(k:Int).toNat*3=o+3*k by omega];refine dZ (by simpa using C) (dZ (by rw[ug];exact w) (dZ (by rw[ug];exact A) ?_));refine nw (cs:=[.int .i64 0,.int .i64 0,.int .i64 0]) λv2 B u p=>p.s1 aA λv3 o3 r=>r.s1 aA λv4 o4 z=>z.s1 aA λv5 o5 x=>?_;exact hK v5 (Ext.fresh (Ext.fresh (Ext.fresh u o3.ext λi j=>O) o4.ext λi j=>O) o5.ext λi j=>O) x
def part {α:Type}(f:bY->α->Nat)(tb:List bY)(l:List α)(i:Nat):Nat:=(((tb.zip l).take i).map λx=>f x.1 x.2).sum
theorem HZ {α:Type}{f:bY->α->Nat}{tb:List bY}{l:List α}{i:Nat}{c:bY}{x:α}(hc:tb[i]?=some c)(hx:l[i]?=some x):part f tb l (i+1)=part f tb l i+f c x:=by
 unfold part;have:(tb.zip l)[i]?=some (c,x):=by rw[List.getElem?_zip_eq_some];exact⟨hc,hx⟩
 rw[zl,this];simp
theorem Cq {α:Type}{f:bY->α->Nat}{tb:List bY}{l:List α}(h:l.length=tb.length):part f tb l tb.length=((tb.zip l).map λx=>f x.1 x.2).sum:=by
 unfold part;rw[qx (by rw[List.length_zip];omega)]
theorem IC:∀{l:List (Int×Int)} {n x:Int},(l.map (·.1)).Nodup->(n,x)∈l->(l.map (·.2)).sum=x+((l.filter λy=>!(y.1==n)).map (·.2)).sum
 | [],_,_,_,h=>by simp at h
 | y::l,n,x,hn,h=>by
  simp only[zH,zr]at hn;rcases zR.1 h with h1|h1
  ·subst h1;have:l.filter (λy=>!(y.1==n))=l:=by
    rw[rp];intro z hz;have:z.1≠n:=λe=>hn.1 (zC.2 ⟨z,hz,e⟩);simpa using this
   rw[wH aA,this];simp
  ·have a:y.1≠n:=λe=>hn.1 (zC.2 ⟨_,h1,e.symm⟩);rw[wE (by simpa using a)];simp only[zH,zS];rw[IC hn.2 h1];omega
theorem OX (l:List (Nat×Nat)):((iS l).map (·.2)).sum=(((l.map (·.2)).sum:Nat):Int):=by
 induction l with
 | nil=>rfl
 | cons x l ih=>
  have:iS (x::l)=((x.1:Int),(x.2:Int))::iS l:=rfl;rw[this];simp only[zH,zS];rw[ih];omega
theorem Wev (h:cX σ F Y A (cF A Y))(hr:VD A<=1000000){R:Int->Int->Int->Int->Int->Int->Hp->Prop}
 (hR:∀σ',bO σ σ'->Kd A<=40000000000/\Ue A<=40000000000/\QN A<=40000000000/\Vf A<=40000000000->R (Kd A:Nat) (Ue A:Nat) (QN A:Nat) (Vf A:Nat) (VD A:Nat) (jH A.n A.S:Nat) σ'):X9.c (aW Y.p) σ R:=by
 refine X9.o ?_;have htl:=h.r9;have ht2:=h.lay.sf;refine Vj h (cG rfl (aG (h.hd.rS rfl ?_)));refine NG (a:=bN) (bb:=bN) (c:=bN) (d:=bN) (e:=bN) (λ(H room C E t:Int) v=>∃i:Nat,t=(i:Int)/\i<=A.tb.length/\bO σ v/\H=(part (λc (t:fT)=>t.bs.flatten.length*c.size) A.tb A.cE i:Nat)/\room=(part (λc b=>Q6 b*c.size) A.tb A.cB i:Nat)/\C=(part (λc (b:List cH)=>b.length*c.tail) A.tb A.cB i:Nat)/\E=(part (λc (b:List cH)=>b.length*c.aF) A.tb A.cB i:Nat) ∧
  part (λc (t:fT)=>t.bs.flatten.length*c.size) A.tb A.cE i<=i*1000000000/\part (λc b=>Q6 b*c.size) A.tb A.cB i<=i*1000000000/\part (λc (b:List cH)=>b.length*c.tail) A.tb A.cB i<=i*1000000000/\part (λc (b:List cH)=>b.length*c.aF) A.tb A.cB i<=i*1000000000) (λ_ _ _ _ t _=>A.tb.length-t.toNat)
  ⟨0,rfl,O,Ext.refl _ _,by simp[part],by simp[part],by simp[part],by simp[part],by simp[part],by simp[part],by simp[part],by simp[part]⟩ ?_
 rintro H room C E t v ⟨i,rfl,hi,e,rfl,rfl,rfl,rfl,b1,b2,b3,b4⟩;have hv:=h.bK e;refine cI (λhlt=>?_) λhge=>?_
 ·have hi':i<A.tb.length:=by simp only at hlt;omega
  obtain⟨c,b,q,t,r,K,j,hq,ht,X,hok⟩:=h.at_ hi';obtain⟨G,hG,htab⟩:=hv.sep.get .dH;refine Sa htab K λv5 e5 b5=>?_;have h5:=hv.bK e5;refine b5.rI rfl (b5.rI rfl (b5.rI rfl (Ls hok λv6 e6=>?_)));have h6:=h5.bK e6;have b6:=e6.bV b5 id;obtain⟨G1,ps,_,hC⟩:=h6.cB hq K j;refine aG (h6.hd.rS rfl (h6.mV hq (Wkm hC λs v7 e7 hrow=>?_)));have h7:=h6.bK e7;have b7:=e7.bV b6 id;have hsl:s.len=b.length:=by have:=hrow.1;rw[Io,zX]at this;omega
  refine⟨λm=>bO v7 m,Ext.refl _ _,aG (h7.xq (c:=.s) (x:=Y.cL) rfl (h7.AA X ⟨(c.size:Int),λm W=>by rw[add_lit,(Ext.bV W b7 id).cell];rfl,?_⟩))⟩;obtain⟨G2,_,aa⟩:=h7.cE X K ht;refine P3 aa λs2 v8 e8 hl8 hrow8=>⟨e8,?_⟩;have h8:=h7.bK e8;have b8:=e8.bV b7 id;have U:=aa.flat;have M:=hC.room;have L:=hC.oD;obtain⟨hz1,B,_,hp1,mC,_⟩:=hok;have hm1:t.bs.flatten.length*c.size<=1000000000:=zJ (nC U B) O;have hm2:Q6 b*c.size<=1000000000:=zJ (nC M B) O;have Q:c.tail<=1024:=by unfold bY.tail;omega
  have hm3:b.length*c.tail<=1000000000:=zJ (nC L Q) O;have hm4:b.length*c.aF<=1000000000:=zJ (nC L mC) O;have s1:=HZ (f:=λc (t:fT)=>t.bs.flatten.length*c.size) K ht;have N:=HZ (f:=λc b=>Q6 b*c.size) K j;have s3:=HZ (f:=λc (b:List cH)=>b.length*c.tail) K j;have s4:=HZ (f:=λc (b:List cH)=>b.length*c.aF) K j;refine cA (m:=t.bs.flatten.length*c.size) (by rw[hl8];simp) O (cA (m:=part (λc (t:fT)=>t.bs.flatten.length*c.size) A.tb A.cE (i+1)) (by rw[s1];simp) (by rw[s1];omega) ?_);refine⟨λm=>bO v8 m,Ext.refl _ _,aG (h8.xq (c:=.s) (x:=Y.dJ) rfl (h8.A0 hq ⟨(c.size:Int),λm W=>by rw[add_lit,(Ext.bV W b8 id).cell];rfl,?_⟩))⟩;obtain⟨G3,ps3,_,hC8⟩:=h8.cB hq K j;refine Wnc hC8 λv9 e9=>⟨e9,?_⟩;have b9:=e9.bV b8 id;refine cA (m:=Q6 b*c.size) aA O (cA (m:=part (λc b=>Q6 b*c.size) A.tb A.cB (i+1)) (by rw[N];simp) (by rw[N];omega) ?_);refine cA (m:=b.length*c.tail) (by rw[hsl];simp) O (cA (m:=part (λc (b:List cH)=>b.length*c.tail) A.tb A.cB (i+1)) (by rw[s3];simp) (by rw[s3];omega) ?_);refine b9.rI rfl (cA (m:=b.length*c.aF) (by rw[hsl];simp) O (cA (m:=part (λc (b:List cH)=>b.length*c.aF) A.tb A.cB (i+1)) (by rw[s4];simp) (by rw[s4];omega) ?_));refine cA (m:=i+1) O O ⟨⟨i+1,rfl,O,((((Ext.trans e e5).trans e6).trans e7).trans e8).trans e9,rfl,rfl,rfl,rfl,by rw[s1];omega,by rw[N];omega,by rw[s3];omega,by rw[s4];omega⟩,O⟩
 ·have:i=A.tb.length:=by simp only at hge;omega
  subst this;obtain⟨_,W,_⟩:=hv.tJ;have hsum:=OX A.runs;refine aG (hv.hd.rM rfl (xI (c:=bN) (a:=bN) (x0:=(0:Int)) W (λg (z:Int) w=>bO v w/\(g.map (·.1)).Nodup/\(∀y∈g,0<=(y.2:Int))/\0<=z/\z+(g.map (·.2)).sum=((VD A:Nat):Int)) (λw hz V=>⟨V,W.nodup,λy hy=>?_,O,?_⟩) (λz w hI=>?_) ?_))
  ·obtain⟨r,_,rfl⟩:=zC.1 hy;show(0:Int)<=(r.2:Int);omega
  ·rw[Int.zero_add];exact hsum
  ·obtain⟨V,_,_,_,hz⟩:=hI;have hz':z=((VD A:Nat):Int):=by simpa using hz
   subst hz';have hw:=hv.bK V;obtain⟨sb,ms,hB,_⟩:=hw.free;refine aG (hw.hd.rP rfl (Go.Bu.vG hB ?_));rw[Cq h.lay.cE]at b1 ⊢;rw[Cq h.lay.cB]at b2 b3 b4 ⊢;rw[Cq h.lay.cB,Cq h.lay.cB];have hcM:Kd A<=A.tb.length*1000000000:=b1;have hcR:Ue A<=A.tb.length*1000000000:=b2;have hcT:QN A<=A.tb.length*1000000000:=b3;have hcS:Vf A<=A.tb.length*1000000000:=b4;exact hR w (Ext.trans e V) ⟨O,O,O,O⟩
  ·rintro g n (x:Int) (z:Int) w w' J ⟨V,hn,D,Z,hz⟩ hx ho hlt hJ;have hd:=IC hn hx;have hxp:0<=x:=D _ hx;have P:0<=((g.filter λy=>!(y.1==n)).map (·.2)).sum:=by
    have:∀l:List (Int×Int),(∀y∈l,0<=y.2)->0<=(l.map (·.2)).sum:=by
     intro l
     induction l with
     | nil=>intro _;simp
     | cons y l ih=>
      intro hl;have:=ih λu hu=>hl u (mJ _ hu);have:=hl y nE;simp only[zH,zS];omega
    exact this _ λy hy=>D y (zF.1 hy).1
   have B:z+x+((g.filter λy=>!(y.1==n)).map (·.2)).sum=((VD A:Nat):Int):=by
    exact(Int.add_assoc z x _).trans ((congrArg (λ(u:Int)=>z+u) hd.symm).trans hz)
   have ab:(0:Int)<=x:=hxp;have hup:z+x<=((VD A:Nat):Int):=Int.le_trans (Int.le_add_of_nonneg_right P) (Int.le_of_eq B);have hlo:(0:Int)<=z+x:=Int.add_nonneg Z ab;refine ar ?_ ?_ (hJ (z+x) w' rfl rfl ⟨Ext.fresh V ho.ext λi hi=>O,?_,λy hy=>D y (zF.1 hy).1,?_,B⟩)
   ·show -9223372036854775808<=(z:Int)+(x:Int);omega
   ·show(z:Int)+(x:Int)<=9223372036854775807;omega
   ·exact List.Nodup.sublist (List.filter_sublist.map _) hn
   ·exact Int.add_nonneg Z ab
end Go.Ar