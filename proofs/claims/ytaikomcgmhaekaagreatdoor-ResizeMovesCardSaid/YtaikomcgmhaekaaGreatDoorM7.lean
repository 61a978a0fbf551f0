/- Texts joined. -/
import Derived.Shelf.SlSortCmp.NoneTotal
import Derived.Ground.SlsfProg
import Derived.Test.YtaikomcgmhaekaaGreatDoorProg
import Derived.Test.YtaikomcgmhaekaaGreatDoorM6
set_option linter.unusedVariables false
set_option linter.unusedSimpArgs false
namespace Go.Ar
open Go.Bu (YS Q8 j6 Zx qt iA VR UK dG take KU KM Bounded)
variable {A:AR}{sp:Sp}{k:Nat}{c:cD}{ss:List cM}
theorem CS {st:List Nat}{a m v:Nat}(hl:a+m<=st.length):v∈(st.drop a).take m↔∃p,a<=p/\p<a+m/\gf st p=v:=by
 constructor
 ·intro hm;obtain⟨i,b⟩:=zN hm;rw[zY]at b;split at b
  ·rename_i hlt;rw[zn]at b;refine⟨a+i,O,O,?_⟩;unfold gf;rw[zM,b];rfl
  ·cases b
 ·rintro⟨p,h1,h2,h3⟩;have hp:p<st.length:=by omega
  unfold gf at h3;rw[zM,cQ hp]at h3;refine zE (i:=p-a) ?_;rw[zY,zB O,zn,show a+(p-a)=p by omega,cQ hp];exact congrArg some h3
theorem H7 {st:List Nat}{a b v:Nat}(hab:a<=b)(hb:b<=st.length):gB st a b v=0↔∀p,a<=p->p<b->gf st p≠v:=by
 unfold gB;rw[xB,CS O];constructor
 ·intro h p d g e;exact h ⟨p,d,O,e⟩
 ·rintro h ⟨p,d,g,e⟩;exact h p d O e
theorem D4 {s m v:Nat}(h1:1<=m)(h2:s+m<=sp.st.length)(h:∀p,s<=p->p<s+m->gf sp.st p≠0):dX sp (s:Int) (m:Int) v=sp.set s m v:=by
 unfold dX fF;rw[zB (VQ.2 ⟨h1,h2⟩),dE,dE,(Pq h2).2 h];rfl
theorem Lq {s m v:Nat}(h2:s+m<=sp.st.length)(p:Nat):gf (sp.set s m v).st p=if s<=p/\p<s+m then v else gf sp.st p:=HZ h2
theorem IY {s m v x:Nat}(h:¬(s<=x/32/\x/32<s+m)):(sp.set s m v).wd x=sp.wd x:=by
 show(if s*32<=x/\x<(s+m)*32 then 0 else sp.wd x)=_
 rw[zA O]
structure BE (A B:AR) (sp sp':Sp) (l:List Nat):Prop where
 st:St A B sp sp'
 f:∀p,B.f p=if p/16∈l then 0 else A.f p
 ow:B.ow=A.ow
 cF:B.cF=A.cF
 cI:B.cI=A.cI
 runs:B.runs=A.runs
 wd:∀x,x/32/16∉l->sp'.wd x=sp.wd x
 gf:∀p,p/16∉l->gf sp'.st p=gf sp.st p
 pk:sp'.pk=sp.pk
theorem ζ (h:GA A)(hw:Ow A sp){g:Nat}(hg:16*g+16<=A.n)(hi:∀p,p/16=g->2<=A.f p):BE A (VN (A,sp) g).1 sp (VN (A,sp) g).2 [g]:=by
 have w:∀p,16*g<=p/\p<16*g+16↔p/16=g:=λp=>by omega
 have e1:(VN (A,sp) g).1.st=fY A.st (16*g) (16*g+16) 0:=by
  show jK A.st (g:Int)=_;have C:uw A.st g=true:=by
   unfold uw;have r:=hi (16*g) O;have i:=(H7 (st:=A.st) (a:=16*g) (b:=16*g+16) (v:=1) O (by rw[h.pg.len];exact hg)).2 λp D E e=>by
    have:=hi p O;unfold AR.f at this;omega
   unfold AR.f gf at r;have B:A.st.getD (16*g) 0≠0:=by omega
   rw[i,bne_iff_ne.2 B];rfl
  unfold jK lG;rw[Hc (by rw[h.pg.len];exact hg),zB rfl,dE,C];rfl
 have e2:(VN (A,sp) g).1.S=take A.S (g*16) (g*16+16):=Od (n:=A.n) (S:=A.S) (a:=g*16) (m:=16) O O λp D E=>by rw[h.pg.fr];exact hi p O
 have y:(VN (A,sp) g).2=sp.set (g*16) 16 0:=D4 (sp:=sp) (s:=g*16) (m:=16) (v:=0) O (by rw[hw.l];omega) λp D E=>hw.own p (by have:=hi p O;omega);have z:g*16+16<=sp.st.length:=by rw[hw.l];omega
 have j:∀p,(VN (A,sp) g).1.f p=if p/16=g then 0 else A.f p:=λp=>by
  unfold AR.f;rw[e1,HZ (by rw[h.pg.len];exact hg)];by_cases hp:p/16=g
  ·rw[zB hp,zB ((w p).2 hp)]
  ·rw[zA hp,zA (λd=>hp ((w p).1 d))]
 have u:∀p,gf (VN (A,sp) g).2.st p=if p/16=g then 0 else gf sp.st p:=λp=>by
  rw[y,Lq z];by_cases hp:p/16=g
  ·rw[zB hp,zB O]
  ·rw[zA hp,zA O]
 have pg:PG (VN (A,sp) g).1:=by
  refine⟨by rw[e1,QH];exact h.pg.len,h.pg.n1,h.pg.n2,h.pg.n16,λp=>?_,λp=>?_,λp=>?_,λp=>?_⟩
  ·rw[j];have:=h.pg.le p;split<;>omega
  ·rw[j];show _↔A.ow p≠0;have:=h.pg.us p;by_cases hp:p/16=g
   ·rw[zB hp];have:=hi p hp;constructor
    ·intro d;omega
    ·intro d;have:=(h.pg.us p).2 d;omega
   ·rw[zA hp];exact this
  ·rw[j,e2,KM];have:=h.pg.fr p;by_cases hp:p/16=g
   ·rw[zB hp];constructor
    ·rintro⟨_,d⟩;exact(d O).elim
    ·intro d;omega
   ·rw[zA hp];constructor
    ·rintro⟨d,_⟩;exact this.1 d
    ·intro d;exact⟨this.2 d,O⟩
  ·rw[j,j];have e:p/16*16/16=p/16:=by omega
   rw[e];split
   ·exact Iff.rfl
   ·exact h.pg.hp p
 have G:GA (VN (A,sp) g).1:=⟨pg,h.tb,h.lc,h.lt,h.cI,h.one,h.ow,h.jJ,h.qq,h.gH,h.j3,h.oL,h.lP,h.oE⟩;refine⟨⟨G,⟨by rw[y];show(fY _ _ _ _).length=A.n;rw[QH];exact hw.l,λp hp=>?_,λp hp=>?_,λp=>?_⟩,rfl,rfl,rfl,λp r i=>?_,λp r i=>?_,λp r i=>?_⟩,λp=>?_,rfl,rfl,rfl,rfl,λx d=>?_,λp hp=>?_,?_⟩
 ·rw[j]at hp;rw[u];split at hp
  ·exact(hp rfl).elim
  ·rename_i hn;rw[zA hn];exact hw.own p hp
 ·rw[j]at hp;rw[u];split at hp
  ·cases hp
  ·rename_i hn;rw[zA hn];exact hw.cl p hp
 ·rw[u];have:=hw.le p;split<;>omega
 ·rw[u];by_cases hp:p/16=g
  ·have:=hi p hp;omega
  ·rw[zA hp]
 ·rw[j]at i;rw[u];split at i
  ·rename_i hp;rw[zB hp]
  ·exact(r i).elim
 ·rw[j]at i;split at i
  ·exact(i rfl).elim
  ·exact(i r).elim
 ·rw[j];simp
 ·rw[y];exact IY λF=>d aE
 ·rw[u,zA (by simpa using hp)]
 ·rw[y];rfl
theorem J7:∀(l:List Nat) {A:AR} {sp:Sp},GA A->Ow A sp->l.Nodup->(∀g∈l,16*g+16<=A.n/\∀p,p/16=g->2<=A.f p)->BE A (l.foldl VN (A,sp)).1 sp (l.foldl VN (A,sp)).2 l
 | [],A,sp,h,hw,_,_=>⟨St.refl h hw,λp=>by simp,rfl,rfl,rfl,rfl,λ_ _=>rfl,λ_ _=>rfl,rfl⟩
 | g::l,A,sp,h,hw,hn,hi=>by
  have hn':=zo.1 hn;have t:=ζ h hw (hi g aA).1 (hi g aA).2;have k:=J7 l (A:=(VN (A,sp) g).1) (sp:=(VN (A,sp) g).2) t.st.ga t.st.ow hn'.2 λd a=>by
   refine⟨by rw[t.st.n];exact(hi d (by simp[a])).1,λp hp=>?_⟩;rw[t.f,zA (by simp;rintro rfl;exact hn'.1 (hp▸a))];exact(hi d (by simp[a])).2 p hp
  rw[lp];refine⟨t.st.trans k.st,λp=>?_,k.ow.trans t.ow,k.cF.trans t.cF,k.cI.trans t.cI,k.runs.trans t.runs,λx b=>?_,λp hp=>?_,k.pk.trans t.pk⟩
  ·rw[k.f,t.f];by_cases h1:p/16∈l
   ·rw[zB h1,zB (by simp[h1])]
   ·rw[zA h1];by_cases h2:p/16=g
    ·rw[zB (by simp[h2]),zB (by simp[h2])]
    ·rw[zA (by simp[h2]),zA (by simp[h1,h2])]
  ·simp only[zW,not_or]at b;exact(k.wd x b.2).trans (t.wd x (by simpa using b.1))
  ·simp only[zW,not_or]at hp;exact(k.gf p hp.2).trans (t.gf p (by simpa using hp.1))
theorem Fc (h:GA A){g:Nat}:g∈KQ A.st 0↔16*g+16<=A.n/\∀p,p/16=g->2<=A.f p:=by
 have s:=h.pg.n16;unfold KQ;rw[zH,ze,h.pg.len];have j:∀(d:16*g+16<=A.n),(Vt A.st g==0)=true↔∀p,p/16=g->A.f p≠1:=λd=>by
  have i:=H7 (st:=A.st) (a:=16*g) (b:=16*g+16) (v:=1) O (by rw[h.pg.len];exact d);have e:(Vt A.st g==0)=true↔gB A.st (16*g) (16*g+16) 1=0:=by
   unfold Vt;split
   ·rename_i hx;simp[hx]
   ·rename_i hx;constructor
    ·intro hy;split at hy<;>simp at hy
    ·intro hy;exact(hx hy).elim
  rw[e,i];constructor
  ·intro hx p hp;exact hx p O O
  ·intro hx p p1 p2;exact hx p O
 simp only[zF,bne_iff_ne,ne_eq];constructor
 ·rintro⟨h1,i,h3⟩;have d:16*g+16<=A.n:=by omega
  refine⟨d,λp hp=>?_⟩;have m:=(j d).1 h3 p hp;have r:A.f p≠0:=λe=>i ((h.pg.kJ (q:=16*g) O).1 e);omega
 ·rintro⟨d,i⟩;refine⟨O,λe=>?_,(j d).2 λp hp e=>?_⟩
  ·have e:A.f (16*g)=0:=e;have:=i (16*g) O;omega
  ·have:=i p hp;omega
theorem MU (st:List Nat)(k:Nat):(KQ st k).Nodup:=List.nodup_range.filter _
theorem WlG (h:GA A)(hw:Ow A sp):BE A (eH A sp).1 sp (eH A sp).2 (KQ A.st 0):=J7 _ h hw (MU _ _) λg a=>(Fc h).1 a
structure DJ (A B:AR) (sp sp':Sp) (rs:List (Nat×Nat)):Prop where
 st:St A B sp sp'
 i:∀p,iY rs p->A.f p=2/\B.f p=3/\gf sp'.st p=1
 o:∀p,¬iY rs p->B.f p=A.f p/\gf sp'.st p=gf sp.st p
 ow:B.ow=A.ow
 cF:B.cF=A.cF
 cI:B.cI=A.cI
 runs:B.runs=A.runs
 wd:∀x,¬iY rs (x/32)->sp'.wd x=sp.wd x
 pk:sp'.pk=sp.pk
theorem Ρ (h:GA A)(hw:Ow A sp){a m:Nat}(h1:1<=m)(hi:∀p,a<=p->p<a+m->A.f p=2):DJ A (fK (A,sp) (a,m)).1 sp (fK (A,sp) (a,m)).2 [(a,m)]:=by
 have w:a+m<=A.n:=by have:=h.pg.lt (p:=a+m-1) (by rw[hi _ O O];omega);omega
 have d:∀p,iY [(a,m)] p↔a<=p/\p<a+m:=λp=>by simp[iY]
 have e1:(fK (A,sp) (a,m)).1.st=fY A.st a (a+m) 3:=Bo h1 (by rw[h.pg.len];exact w) λp u y=>by
  have:=hi p u y;unfold AR.f at this;rw[this];simp
 have i:a+m<=sp.st.length:=by rw[hw.l];exact w
 have s:(fK (A,sp) (a,m)).2=sp.set a m 1:=D4 h1 i λp u y=>hw.own p (by rw[hi p u y];omega);have b:∀p,(fK (A,sp) (a,m)).1.f p=if a<=p/\p<a+m then 3 else A.f p:=λp=>by unfold AR.f;rw[e1,HZ (by rw[h.pg.len];exact w)]
 have g:∀p,gf (fK (A,sp) (a,m)).2.st p=if a<=p/\p<a+m then 1 else gf sp.st p:=λp=>by rw[s,Lq i]
 have j:∀p,(fK (A,sp) (a,m)).1.f p=0↔A.f p=0:=λp=>by
  rw[b];split
  ·rename_i hp;rw[hi p hp.1 hp.2];omega
  ·exact Iff.rfl
 have pg:PG (fK (A,sp) (a,m)).1:=by
  refine⟨by rw[e1,QH];exact h.pg.len,h.pg.n1,h.pg.n2,h.pg.n16,λp=>?_,λp=>?_,λp=>?_,A9 h.pg j⟩
  ·rw[b];have:=h.pg.le p;split<;>omega
  ·rw[b];show _↔A.ow p≠0;rw[←h.pg.us p];split
   ·rename_i hp;rw[hi p hp.1 hp.2];omega
   ·exact Iff.rfl
  ·rw[b];show A.S p=true↔_;rw[h.pg.fr p];split
   ·rename_i hp;rw[hi p hp.1 hp.2];omega
   ·exact Iff.rfl
 have B:GA (fK (A,sp) (a,m)).1:=⟨pg,h.tb,h.lc,h.lt,h.cI,h.one,h.ow,h.jJ,h.qq,h.gH,h.j3,h.oL,h.lP,h.oE⟩;refine⟨⟨B,⟨by rw[s];show(fY _ _ _ _).length=A.n;rw[QH];exact hw.l,λp hp=>?_,λp hp=>?_,λp=>?_⟩,rfl,rfl,rfl,λp h1 r=>?_,λp h1 r=>(h1 ((j p).1 r)).elim,λp h1 r=>(r ((j p).2 h1)).elim⟩,λp hp=>?_,λp hp=>?_,rfl,rfl,rfl,rfl,λx z=>?_,?_⟩
 ·rw[g];split
  ·omega
  ·rename_i hn;exact hw.own p λe=>hp ((j p).2 e)
 ·rw[b]at hp;rw[g];split at hp
  ·rename_i hn;rw[zB hn]
  ·rename_i hn;rw[zA hn];exact hw.cl p hp
 ·rw[g];have:=hw.le p;split<;>omega
 ·rw[g,zA λhp=>by have:=hi p hp.1 hp.2;omega]
 ·rw[d]at hp;rw[b,g,zB hp,zB hp];exact⟨hi p hp.1 hp.2,rfl,rfl⟩
 ·rw[d]at hp;rw[b,g,zA hp,zA hp];exact⟨rfl,rfl⟩
 ·rw[d]at z;rw[s];exact IY z
 ·rw[s];rfl
theorem JT:∀(rs:List (Nat×Nat)) {A:AR} {sp:Sp},GA A->Ow A sp->(∀r∈rs,1<=r.2/\∀p,r.1<=p->p<r.1+r.2->A.f p=2)->rs.Pairwise (λa b=>a.1+a.2<=b.1\/b.1+b.2<=a.1) →
 DJ A (rs.foldl fK (A,sp)).1 sp (rs.foldl fK (A,sp)).2 rs
 | [],A,sp,h,hw,_,_=>⟨St.refl h hw,λp ⟨r,hr,_⟩=>by simp at hr,λp _=>⟨rfl,rfl⟩,rfl,rfl,rfl,rfl,λ_ _=>rfl,rfl⟩
 | (a,m)::rs,A,sp,h,hw,hi,hd=>by
  have hd':=nB.1 hd;have j:=hi (a,m) (mY ..);have t:=Ρ h hw j.1 j.2;have e:∀p,iY [(a,m)] p↔a<=p/\p<a+m:=λp=>by simp[iY]
  have d:∀p,iY ((a,m)::rs) p↔(a<=p/\p<a+m)\/iY rs p:=λp=>by simp[iY]
  have k:=JT rs (A:=(fK (A,sp) (a,m)).1) (sp:=(fK (A,sp) (a,m)).2) t.st.ga t.st.ow (λr hr=>by
   have:=hi r (mM _ hr);refine⟨this.1,λp z B=>?_⟩;have u:=hd'.1 r hr;simp only at u;rw[(t.o p (by rw[e];omega)).1];exact this.2 p z B) hd'.2
  rw[lp];refine⟨t.st.trans k.st,λp hp=>?_,λp hp=>?_,k.ow.trans t.ow,k.cF.trans t.cF,k.cI.trans t.cI,k.runs.trans t.runs,λx u=>?_,k.pk.trans t.pk⟩
  ·by_cases s:iY rs p
   ·have:=k.i p s;refine⟨?_,this.2⟩;by_cases g:a<=p/\p<a+m
    ·exact j.2 p g.1 g.2
    ·rw[←(t.o p (by rw[e];exact g)).1];exact this.1
   ·have g:a<=p/\p<a+m:=((d p).1 hp).resolve_right s;have w:=t.i p ((e p).2 g);have y:=k.o p s;exact⟨w.1,y.1.trans w.2.1,y.2.trans w.2.2⟩
  ·rw[d]at hp;have s:¬iY rs p:=λh=>hp (.inr h);have g:¬iY [(a,m)] p:=λh=>hp (.inl ((e p).1 h));exact⟨(k.o p s).1.trans (t.o p g).1,(k.o p s).2.trans (t.o p g).2⟩
  ·rw[d]at u;exact(k.wd x λh=>u (.inr h)).trans (t.wd x λh=>u (.inl ((e _).1 h)))
theorem Ty {st:List Nat}{p m:Nat}(hl:p+m<=st.length):gp st p m<=m/\(∀x,p<=x->x<p+gp st p m->gf st x=2)/\(gp st p m<m->gf st (p+gp st p m)≠2):=by
 have key:∀(l:List Nat),(l.takeWhile (· == 2)).length<=l.length/\(∀i,i<(l.takeWhile (· == 2)).length->l[i]?=some 2)/\((l.takeWhile (· == 2)).length<l.length->l[(l.takeWhile (· == 2)).length]?≠some 2):=by
  intro l
  induction l with
  | nil=>simp
  | cons x l ih=>
   rw[wy];by_cases hx:x=2
   ·subst hx;simp only[beq_self_eq_true,zT,zV];refine⟨O,λi g=>?_,λa=>?_⟩
    ·cases i with
     | zero=>rfl
     | succ i=>simpa using ih.2.1 i O
    ·simpa using ih.2.2 O
   ·have:(x==2)=false:=by simpa using hx
    simp[this,hx]
 have k:=key ((st.drop p).take m);have b:((st.drop p).take m).length=m:=by simp;omega
 have get:∀i,i<m->((st.drop p).take m)[i]?=some (gf st (p+i)):=λi g=>by
  rw[zY,zB g,zn];unfold gf;rw[zM,cQ O];rfl
 rw[b]at k;refine⟨k.1,λx s j=>?_,λa=>?_⟩
 ·have d:=k.2.1 (x-p) (by unfold gp at j;omega);have r:gp st p m<=m:=k.1;rw[get _ O,show p+(x-p)=x by omega]at d;exact Option.some.inj d
 ·have d:=k.2.2 a;have e:(((st.drop p).take m).takeWhile (· == 2)).length=gp st p m:=rfl;rw[e,get _ a]at d;exact λe=>d (congrArg some e)
theorem VY {st:List Nat}{e:Nat}(he:e<=st.length):∀(f p:Nat),(∀r∈Kq st e f p,1<=r.2/\p<=r.1/\r.1+r.2<=e/\∀x,r.1<=x->x<r.1+r.2->gf st x=2)/\(Kq st e f p).Pairwise (λa b=>a.1+a.2<=b.1) ∧
 (e-p<f->∀x,p<=x->x<e->gf st x=2->iY (Kq st e f p) x)/\((Kq st e f p).map (·.2)).sum<=e-p
 | 0,p=>⟨by simp[Kq],by simp[Kq],λh=>O,by simp[Kq]⟩
 | f+1,p=>by
  rw[Kq];split
  ·rename_i hp;exact⟨by simp,by simp,λ_ x h1 h2=>O,by simp⟩
  ·rename_i hp;have hr:=Ty (st:=st) (p:=p) (m:=e-p) O;split
   ·rename_i h0;obtain⟨i,s,j,y⟩:=VY he f (p+1);refine⟨λr d=>?_,s,λu x h1 h2 g=>?_,O⟩
    ·have:=i r d;exact⟨this.1,O,this.2.2⟩
    ·by_cases hx:x=p
     ·subst hx;rw[h0]at hr;exact(hr.2.2 O (by simpa using g)).elim
     ·exact j O x O h2 g
   ·rename_i h0;obtain⟨i,s,j,y⟩:=VY he f (p+gp st p (e-p)+1);refine⟨λr d=>?_,nB.2 ⟨λr d=>?_,s⟩,λu x h1 h2 g=>?_,?_⟩
    ·rcases zW.1 d with rfl|d
     ·exact⟨by simp only;omega,zC _,by simp only;omega,hr.2.1⟩
     ·have:=i r d;exact⟨this.1,O,this.2.2⟩
    ·have:=i r d;simp only;omega
    ·by_cases hx:x<p+gp st p (e-p)
     ·exact⟨_,mY ..,h1,hx⟩
     ·by_cases hx2:x=p+gp st p (e-p)
      ·subst hx2;exact(hr.2.2 O g).elim
      ·obtain⟨r,d,w⟩:=j O x O h2 g;exact⟨r,mM _ d,w⟩
    ·simp only[zX,mN];omega
theorem RG (st:List Nat)(l:List Nat)(h:Nat):(mW st l h).Perm (h::l):=by
 unfold mW;refine List.perm_middle.trans ?_;rw[Au]
theorem Ey (st:List Nat):(eJ st).Perm ((List.range (st.length/16)).filter λh=>0<gB st (16*h) (16*h+16) 2):=by
 unfold eJ;have key:∀(l m:List Nat),(l.foldl (mW st) m).Perm (l++m):=by
  intro l
  induction l with
  | nil=>intro m;exact List.Perm.refl _
  | cons x l ih=>
   intro m;rw[lp,lT];refine(ih _).trans ?_;refine((RG st m x).append_left l).trans ?_;exact List.perm_middle
 simpa using key _ []
theorem DE (want:Int):∀(x:Nat) (l:List (Nat×Nat)),(gU want x l).Sublist l
 | x,[]=>by simp[gU]
 | x,r::l=>by
  rw[gU];split
  ·exact List.nil_sublist _
  ·exact(DE want (x+r.2) l).cons_cons r
theorem JH {want:Int}:∀(x:Nat) (l:List (Nat×Nat)),(∀r∈l,1<=r.2)->((x+(l.map (·.2)).sum:Nat):Int)<=want->gU want x l=l
 | x,[],_,_=>by simp[gU]
 | x,r::l,hp,hs=>by
  have:=hp r aA;simp only[zX,mN]at hs;rw[gU,zA O,JH (x+r.2) l (λq a=>hp q (by simp[a])) O]
theorem NT {st:List Nat}(h16:st.length%16=0):(∀r∈(eJ st).flatMap (Vs st),1<=r.2/\∀x,r.1<=x->x<r.1+r.2->gf st x=2)/\((eJ st).flatMap (Vs st)).Pairwise (λa b=>a.1+a.2<=b.1\/b.1+b.2<=a.1) ∧
 (∀x,gf st x=2->iY ((eJ st).flatMap (Vs st)) x)/\(((eJ st).flatMap (Vs st)).map (·.2)).sum<=st.length:=by
 have hp:=Ey st;have d:∀h∈eJ st,16*h+16<=st.length:=λh y=>by
  have:=(zH.1 (hp.subset y)).1;rw[ze]at this;omega
 have s:(eJ st).Nodup:=hp.nodup_iff.2 (List.nodup_range.filter _);have A:(eJ st).length<=st.length/16:=by
  rw[hp.length_eq];exact zP (ny _ _) aA
 refine⟨λr m=>?_,?_,λx B=>?_,?_⟩
 ·obtain⟨h,y,m⟩:=r6.1 m;have:=(VY (d h y) 17 (16*h)).1 r m;exact⟨this.1,this.2.2.2⟩
 ·have key:∀l:List Nat,l.Nodup->(∀h∈l,16*h+16<=st.length)->(l.flatMap (Vs st)).Pairwise (λa b=>a.1+a.2<=b.1\/b.1+b.2<=a.1):=by
   intro l
   induction l with
   | nil=>intro _ _;simp
   | cons h l ih=>
    intro p hl;have p:=zo.1 p;rw[mU];refine pC.2 ⟨(VY (hl h aA) 17 (16*h)).2.1.imp λ{a b} w=>.inl w,ih p.2 λg i=>hl g (by simp[i]),λa G b u=>?_⟩;obtain⟨g,i,u⟩:=r6.1 u;have j:=(VY (hl h aA) 17 (16*h)).1 a G;have D:=(VY (hl g (by simp[i])) 17 (16*g)).1 b u;have E:h≠g:=λe=>p.1 (e▸i);omega
  exact key _ s d
 ·have F:x<st.length:=EG O;have C:x/16∈eJ st:=hp.symm.subset (zH.2 ⟨ze.2 O,by
   have:gB st (16*(x/16)) (16*(x/16)+16) 2≠0:=λz=>by
    rw[H7 O O]at z;exact z x O O B
   simp;omega⟩)
  obtain⟨r,m,j⟩:=(VY (d _ C) 17 (16*(x/16))).2.2.1 O x O O B;exact⟨r,r6.2 ⟨_,C,m⟩,j⟩
 ·have key:∀l:List Nat,(∀h∈l,16*h+16<=st.length)->((l.flatMap (Vs st)).map (·.2)).sum<=16*l.length:=by
   intro l
   induction l with
   | nil=>intro _;simp
   | cons h l ih=>
    intro hl;have j:=(VY (hl h aA) 17 (16*h)).2.2.2;have D:=ih λg i=>hl g (by simp[i]);rw[mU,lr,xS,zV];have j:((Vs st h).map (·.2)).sum<=16*h+16-16*h:=j;omega
  have:=key _ d;omega
theorem Iw (h:GA A)(hw:Ow A sp){want:Int}(h0:0<=want):DJ (YP A) (dV A sp want).1 sp (dV A sp want).2 (UB A want)/\(1024<=want->∀p,(dV A sp want).1.f p≠2):=by
 obtain⟨o,_,_⟩:=UY h;have d:(YP A).st.length%16=0:=by rw[o.ga.pg.len];exact o.ga.pg.n16
 obtain⟨j,s,w,u⟩:=NT d;have a:=DE want 0 ((eJ (YP A).st).flatMap (Vs (YP A).st));have e:dV A sp want=(UB A want).foldl fK (YP A,sp):=by unfold dV;rw[zA O]
 rw[e];have t:=JT (UB A want) o.ga (hw.kp o.kp) (λr g=>j r (a.subset g)) (s.sublist a);refine⟨t,λm p hp=>?_⟩;have x:=o.ga.pg.n2;have b:UB A want=(eJ (YP A).st).flatMap (Vs (YP A).st):=JH 0 _ (λr g=>(j r g).1) (by
  rw[o.ga.pg.len]at u;omega)
 by_cases hi:iY (UB A want) p
 ·rw[(t.i p hi).2.1]at hp;omega
 ·rw[(t.o p hi).1]at hp;exact hi (by rw[b];exact w p hp)
theorem NW (h:GA A)(hw:Ow A sp)(want:Int):St A (dV A sp want).1 sp (dV A sp want).2/\(dV A sp want).1.runs=A.runs/\(dV A sp want).1.cF=A.cF/\∀j y,fo (dV A sp want).1 j y↔fo A j y:=by
 by_cases h0:0<=want
 ·obtain⟨t,_⟩:=Iw h hw h0;obtain⟨o,e,k⟩:=UY h;refine⟨(o.st hw).trans t.st,t.runs.trans o.runs,t.cF.trans e,λj y=>?_⟩;rw[←k];unfold fo Cl;rw[t.cI,t.st.tb]
 ·have e:dV A sp want=(A,sp):=by unfold dV;rw[zB O]
  rw[e];exact⟨St.refl h hw,rfl,rfl,λ_ _=>Iff.rfl⟩
end Go.Ar
namespace Go.Ar
structure Pc where
 k:Nat
 cls:Int
 addr:Nat
 size:Nat
 dT:Bool
 deriving DecidableEq
structure Wd where
 tb:List cD
 sp:Sp
 bT:List AR
 held:List Pc
structure Act where
 kd:Int
 ar:Int
 cl:Int
 a:Int
 b:Int
 l:List Int
abbrev Key:=Nat×Int×Nat
def Pc.key (p:Pc):Key:=(p.k,p.cls,p.addr)
def l6 (k:Nat)(cls x:Int)(p:Pc):Bool:=p.k==k&&(p.cls==cls&&((p.addr:Int)==x && !p.dT))
def uo (held:List Pc)(k:Nat)(cls x:Int):Option Nat:=held.findIdx? (l6 k cls x)
def jM (held:List Pc)(k:Nat)(cls:Int)(l:List Int):Bool:=l.all (λx=>(uo held k cls x).isSome)&&decide l.Nodup
def l9 (k:Nat)(cls:Int)(held:List Pc)(x:Int):List Pc:=match uo held k cls x with
 | some i=>held.take i++held.drop (i+1)
 | none=>held
def vp (held:List Pc)(k:Nat)(cls:Int)(l:List Int):List Pc:=l.foldl (l9 k cls) held
def eE (k:Nat)(cls:Int)(l:List Int)(p:Pc):Bool:=p.k==k&&(p.cls==cls&&l.contains (p.addr:Int))
def GX (held:List Pc)(k:Nat)(cls:Int)(l:List Int)(m:Bool):List Pc:=held.map λp=>if eE k cls l p then{p with dT:=m}else p
def uZ (us:List AR)(held:List Pc):List Pc:=held.filter λp=>!p.dT||(match us[p.k]? with
 | some A=>xh A (p.addr:Int)
 | none=>false)
def pX (tb:List cD)(k:Int):Nat:=((tb[k.toNat]?).map (·.size)).getD 0
def Wd.put (W:Wd)(k:Nat)(A:AR)(sp:Sp)(held:List Pc):Wd:={W with sp:=sp,bT:=W.bT.set k A,held:=held}
def Hd (A:AR)(p:Pc):Prop:=(p.cls = -1/\p.dT=false/\∃r∈A.runs,p.addr=r.1*256/\p.size=r.2*256) ∨
 ∃(j:Nat) (c:cD),p.cls=j/\A.tb[j]?=some c/\p.size=c.size/\fo A j (p.addr:Int)/\(p.dT=true↔iu A j (p.addr:Int))
structure WI (W:Wd):Prop where
 ga:∀(k:Nat) (A:AR),W.bT[k]?=some A->GA A
 ow:∀(k:Nat) (A:AR),W.bT[k]?=some A->Ow A W.sp
 tb:∀(k:Nat) (A:AR),W.bT[k]?=some A->A.tb=W.tb
 low:∀(k:Nat) (A:AR),W.bT[k]?=some A->∀p,p<16->A.f p=0
 own:∀p,gf W.sp.st p≠0->∃(k:Nat) (A:AR),W.bT[k]?=some A/\A.f p≠0
 one:∀p (k l:Nat) (A B:AR),W.bT[k]?=some A->W.bT[l]?=some B->A.f p≠0->B.f p≠0->k=l
 hk:(W.held.map Pc.key).Nodup
 hf:∀p∈W.held,∃A,W.bT[p.k]?=some A/\Hd A p
 ht:∀(k:Nat) (A:AR),W.bT[k]?=some A->∀(j:Nat) (y:Int),fo A j y->∃p∈W.held,p.k=k/\p.cls=j/\(p.addr:Int)=y
 hr:∀(k:Nat) (A:AR),W.bT[k]?=some A->∀r∈A.runs,∃p∈W.held,p.k=k/\p.cls = -1/\p.addr=r.1*256
variable {W:Wd}{k:Nat}{A:AR}
theorem VL {α:Type}{l:List α}{k j:Nat}{x y:α}(h:(l.set k x)[j]?=some y):(j=k/\y=x/\k<l.length)\/(j≠k/\l[j]?=some y):=by
 by_cases hjk:j=k
 ·subst hjk;have a:j<l.length:=by have:=(cV.1 h).1;simpa using this
  rw[zK a]at h;exact .inl ⟨rfl,(Option.some.inj h).symm,a⟩
 ·rw[zd (Ne.symm hjk)]at h;exact .inr ⟨hjk,h⟩
theorem WI.unique (h:WI W){p q:Pc}(hp:p∈W.held)(hq:q∈W.held)(e:p.key=q.key):p=q:=by
 obtain⟨i,d⟩:=zN hp;obtain⟨j,g⟩:=zN hq;obtain⟨a,rfl⟩:=cV.1 d;obtain⟨b,rfl⟩:=cV.1 g;have:=zr.1 h.hk;rcases pa i j with hl|hl|hl
 ·exact(this i j (by simpa using a) (by simpa using b) hl (by simpa using e)).elim
 ·subst hl;rfl
 ·exact(this j i (by simpa using b) (by simpa using a) hl (by simpa using e.symm)).elim
theorem WI.step (h:WI W)(hk:W.bT[k]?=some A){B:AR}{sp':Sp}{held':List Pc}(s:St A B W.sp sp')(h1:(held'.map Pc.key).Nodup)(h2:∀p∈held',p.k=k->Hd B p)(h3:∀p,p.k≠k->(p∈held'↔p∈W.held))
 (h4:∀(j:Nat) (y:Int),fo B j y->∃p∈held',p.k=k/\p.cls=j/\(p.addr:Int)=y) (h5:∀r∈B.runs,∃p∈held',p.k=k/\p.cls = -1/\p.addr=r.1*256):WI (W.put k B sp' held'):=by
 have x:=(cV.1 hk).1;have g:(W.bT.set k B)[k]?=some B:=zK x;have G:∀{j:Nat} {C:AR},j≠k->W.bT[j]?=some C->(W.bT.set k B)[j]?=some C:=λa d=>(zd (Ne.symm a)).trans d;have e:∀{j:Nat} {C:AR},j≠k->W.bT[j]?=some C->∀p,C.f p≠0->A.f p=0/\B.f p=0/\gf sp'.st p=gf W.sp.st p:=by
  intro j C a d p hp;have m:A.f p=0:=Classical.byContradiction λw=>a (h.one p j k C A d hk hp w);have u:B.f p=0:=Classical.byContradiction λw=>by
   have:=(s.new p m w).1;exact(h.ow j C d).own p hp this
  exact⟨m,u,s.same p m u⟩
 refine⟨λj C a=>?_,λj C a=>?_,λj C a=>?_,λj C a p hp=>?_,λp hp=>?_,λp j l C D a H d z=>?_,h1,λp hp=>?_,λj C a i y F=>?_,λj C a r hr=>?_⟩
 ·rcases VL a with⟨rfl,rfl,_⟩|⟨_,a⟩
  ·exact s.ga
  ·exact h.ga j C a
 ·rcases VL a with⟨rfl,rfl,_⟩|⟨b,a⟩
  ·exact s.ow
  ·have o:=h.ow j C a;have K:=h.ow k A hk;refine⟨?_,λp hp=>?_,λp hp=>?_,s.ow.le⟩
   ·show sp'.st.length=C.n;rw[s.ow.l,s.n,←K.l,o.l]
   ·show gf sp'.st p≠0;rw[(e b a p hp).2.2];exact o.own p hp
   ·show gf sp'.st p=1;rw[(e b a p O).2.2];exact o.cl p hp
 ·rcases VL a with⟨rfl,rfl,_⟩|⟨_,a⟩
  ·exact s.tb.trans (h.tb _ A hk)
  ·exact h.tb j C a
 ·rcases VL a with⟨rfl,rfl,_⟩|⟨_,a⟩
  ·apply Classical.byContradiction;intro w;have:=s.new p (h.low _ A hk p hp) w;omega
  ·exact h.low j C a p hp
 ·have hp:gf sp'.st p≠0:=hp;by_cases u:B.f p=0
  ·by_cases m:A.f p=0
   ·rw[s.same p m u]at hp;obtain⟨j,C,a,d⟩:=h.own p hp;have b:j≠k:=by
     rintro rfl;rw[hk]at a;cases a;exact d m
    exact⟨j,C,G b a,d⟩
   ·exact(hp (s.gone p m u)).elim
  ·exact⟨k,B,g,u⟩
 ·rcases VL a with⟨rfl,rfl,_⟩|⟨b,hj'⟩
  ·rcases VL H with⟨rfl,rfl,_⟩|⟨hne2,hl'⟩
   ·rfl
   ·exact(d (e hne2 hl' p z).2.1).elim
  ·rcases VL H with⟨rfl,rfl,_⟩|⟨hne2,hl'⟩
   ·exact(z (e b hj' p d).2.1).elim
   ·exact h.one p j l C D hj' hl' d z
 ·by_cases hpk:p.k=k
  ·exact⟨B,by rw[hpk];exact g,h2 p hp hpk⟩
  ·obtain⟨C,d,J⟩:=h.hf p ((h3 p hpk).1 hp);exact⟨C,G hpk d,J⟩
 ·rcases VL a with⟨rfl,rfl,_⟩|⟨b,a⟩
  ·exact h4 i y F
  ·obtain⟨p,hp,e1,e2,E⟩:=h.ht j C a i y F;exact⟨p,(h3 p (by rw[e1];exact b)).2 hp,e1,e2,E⟩
 ·rcases VL a with⟨rfl,rfl,_⟩|⟨b,a⟩
  ·exact h5 r hr
  ·obtain⟨p,hp,e1,e2,E⟩:=h.hr j C a r hr;exact⟨p,(h3 p (by rw[e1];exact b)).2 hp,e1,e2,E⟩
theorem Hd.to {B:AR}{p:Pc}(h:Hd A p)(e1:B.tb=A.tb)(e2:B.runs=A.runs)(e3:∀j y,fo A j y->fo B j y)(e4:∀j y,iu B j y↔iu A j y):Hd B p:=by
 rcases h with⟨h1,h2,r,hr,h3⟩|⟨j,c,h1,h2,h3,h4,h5⟩
 ·exact .inl ⟨h1,h2,r,by rw[e2];exact hr,h3⟩
 ·exact .inr ⟨j,c,h1,by rw[e1];exact h2,h3,e3 _ _ h4,by rw[e4];exact h5⟩
theorem WI.hd (h:WI W)(hk:W.bT[k]?=some A){p:Pc}(hp:p∈W.held)(e:p.k=k):Hd A p:=by
 obtain⟨C,a,b⟩:=h.hf p hp;rw[e,hk]at a;cases a;exact b
theorem WI.jz (h:WI W)(hk:W.bT[k]?=some A){B:AR}{sp':Sp}(s:St A B W.sp sp')(e2:B.runs=A.runs)(e3:∀j y,fo B j y↔fo A j y)(e4:B.cF=A.cF):WI (W.put k B sp' W.held):=
 h.step hk s h.hk (λp hp e=>(h.hd hk hp e).to s.tb e2 (λj y=>(e3 j y).2) λj y=>by unfold iu;rw[e4]) (λ_ _=>Iff.rfl) (λj y a=>h.ht k A hk j y ((e3 j y).1 a)) λr hr=>h.hr k A hk r (by rw[←e2];exact hr)
theorem WI.cls (h:WI W){p:Pc}(hp:p∈W.held){j:Nat}(e:p.cls=j)(hk:W.bT[p.k]?=some A):∃c,A.tb[j]?=some c/\p.size=c.size/\fo A j (p.addr:Int)/\(p.dT=true↔iu A j (p.addr:Int)):=by
 rcases h.hd hk hp rfl with⟨h1,_⟩|⟨i,c,h1,h2,h3,h4,h5⟩
 ·omega
 ·obtain rfl:i=j:=by omega
  exact⟨c,h2,h3,h4,h5⟩
theorem WI.run (h:WI W){p:Pc}(hp:p∈W.held)(e:p.cls = -1)(hk:W.bT[p.k]?=some A):p.dT=false/\∃r∈A.runs,p.addr=r.1*256/\p.size=r.2*256:=by
 rcases h.hd hk hp rfl with⟨_,h2⟩|⟨i,c,h1,_⟩
 ·exact h2
 ·omega
theorem Vj {k:Nat}{cls x:Int}{p:Pc}:l6 k cls x p=true↔p.k=k/\p.cls=cls/\(p.addr:Int)=x/\p.dT=false:=by
 simp[l6]
theorem Ql {k:Nat}{cls:Int}{l:List Int}{p:Pc}:eE k cls l p=true↔p.k=k/\p.cls=cls/\(p.addr:Int)∈l:=by
 simp[eE]
theorem R9 {held:List Pc}{k:Nat}{cls x:Int}{i:Nat}(h:uo held k cls x=some i):∃p,held[i]?=some p/\l6 k cls x p=true:=by
 obtain⟨a,hp,_⟩:=pd.1 h;exact⟨held[i],cQ a,hp⟩
theorem Mc {held:List Pc}{k:Nat}{cls x:Int}{p:Pc}(hp:p∈held)(h:l6 k cls x p=true):(uo held k cls x).isSome=true:=by
 unfold uo;rw[List.findIdx?_isSome,kM];exact⟨p,hp,h⟩
theorem Vl {held:List Pc}{k:Nat}{cls:Int}{l:List Int}:jM held k cls l=true↔(∀x∈l,∃p∈held,l6 k cls x p=true)/\l.Nodup:=by
 unfold jM;rw[zF,kK,zU];refine and_congr_left λ_=>forall_congr' λx=>imp_congr_right λa=>?_;unfold uo;rw[List.findIdx?_isSome,kM]
theorem Wds {held:List Pc}(hn:(held.map Pc.key).Nodup){i:Nat}{p:Pc}(hi:held[i]?=some p):held.take i++held.drop (i+1)=held.filter λq=>!(q.key==p.key):=by
 induction held generalizing i with
 | nil=>simp at hi
 | cons q l ih=>
  rw[zX,zo]at hn;cases i with
  | zero=>
   simp only[uz,Option.some.injEq]at hi;subst hi;have:l.filter (λr=>!(r.key==q.key))=l:=by
    rw[qF];intro r hr;have:r.key≠q.key:=λe=>hn.1 (zD.2 ⟨r,hr,e⟩);simpa using this
   simp[this]
  | succ i=>
   have hi:l[i]?=some p:=by simpa using hi
   have a:q.key≠p.key:=λe=>hn.1 (zD.2 ⟨p,zE hi,e.symm⟩);rw[rZ,yg,lT,ih hn.2 hi,sK];have:(!(q.key==p.key))=true:=by simpa using a
   rw[this];rfl
theorem UD {held:List Pc}(hn:(held.map Pc.key).Nodup)(f:Pc->Bool):((held.filter f).map Pc.key).Nodup:=hn.sublist (List.filter_sublist.map _)
theorem DS {k:Nat}{cls:Int}:∀(l:List Int) {held:List Pc},(held.map Pc.key).Nodup->(∀x∈l,∃p∈held,l6 k cls x p=true)->l.Nodup->vp held k cls l=held.filter λp=>!eE k cls l p
 | [],held,_,_,_=>by
  have:∀p,eE k cls [] p=false:=λp=>by simp[eE]
  exact(qF.2 λp _=>by rw[this];rfl).symm
 | x::l,held,hn,ho,hl=>by
  obtain⟨p,hp,B⟩:=ho x aA;obtain⟨i,m⟩:=qh.1 (Mc hp B);obtain⟨q,A,j⟩:=R9 m;have d:=zo.1 hl;have e1:l9 k cls held x=held.filter λr=>!(r.key==q.key):=by unfold l9;rw[m];exact Wds hn A
  obtain⟨C,E,D,F⟩:=Vj.1 j;have w:=DS l (held:=held.filter λr=>!(r.key==q.key)) (UD hn _) (λy s=>by
   obtain⟨r,u,g⟩:=ho y (by simp[s]);refine⟨r,zH.2 ⟨u,?_⟩,g⟩;have:r.key≠q.key:=λe=>by
    have G:r.addr=q.addr:=congrArg (λz:Key=>z.2.2) e;have:=(Vj.1 g).2.2.1;have:y=x:=by omega
    subst this;exact d.1 s
   simpa using this) d.2
  unfold vp at w ⊢;rw[lp,e1,w,Cb];apply wL;intro r u;have e:(r.key==q.key)=(r.k==k&&(r.cls==cls&&(r.addr:Int)==x)):=by
   rw[nP];simp only[Pc.key,za,zF,Prod.mk.injEq];constructor
   ·rintro⟨a,b,c⟩;exact⟨O,O,O⟩
   ·rintro⟨a,b,c⟩;exact⟨O,O,O⟩
  rw[e];unfold eE;rw[List.contains_cons];cases r.k==k<;>cases r.cls==cls<;>cases((r.addr:Int)==x)<;>cases l.contains (r.addr:Int)<;>rfl
theorem Kc {held:List Pc}{k:Nat}{cls:Int}{l:List Int}{m:Bool}{p:Pc}:p∈GX held k cls l m↔∃q∈held,p=if eE k cls l q then{q with dT:=m}else q:=by
 unfold GX;rw[zD];constructor
 ·rintro⟨q,hq,rfl⟩;exact⟨q,hq,rfl⟩
 ·rintro⟨q,hq,rfl⟩;exact⟨q,hq,rfl⟩
theorem LC {held:List Pc}{k:Nat}{cls:Int}{l:List Int}{m:Bool}:(GX held k cls l m).map Pc.key=held.map Pc.key:=by
 unfold GX;rw[mC];apply k5;intro p _;simp only[Function.comp];split<;>rfl
theorem Ap (hk:W.bT[k]?=some A)(h:WI W):WI (W.put k A W.sp W.held):=h.jz hk (St.refl (h.ga k A hk) (h.ow k A hk)) rfl (λ_ _=>Iff.rfl) rfl
theorem Ck (h:GA A){j:Nat}{c:cD}{ss:List cM}(hc:Cl A j c ss){l:Nat}{s:cM}{i:Nat}(hs:ss[l]?=some s)(hi:i<c.n){x:Nat}(h1:at_ c s i<=x)(h2:x<at_ c s i+c.size):Ux A (x:Int)=some ((j:Int),at_ c s i):=by
 have b:=h.cI j c ss hc;have hp:=HM b.pos hi h1 h2;have a:=h.used hc (zE hs) hp.1 hp.2;have e:=h.pg.lt (p:=x/256) (by rw[a.1];omega);have m:=h.pg.n2;have d:=hc.lt;have g:=h.tb;unfold Ux;rw[zA O,dE];simp only;rw[zB (show x/256<1024 by omega),a.2,zA O,zA O,Nat.add_sub_cancel,hc.1,hc.2];simp only;rw[(JU b).2 ⟨l,s,i,hs,hi,rfl,O,O⟩];rfl
theorem H9 (h:GA A){r:Nat×Nat}(hr:r∈A.runs){x:Nat}(h1:r.1*256<=x)(h2:x<(r.1+r.2)*256):Ux A (x:Int)=some (-1,r.1*256):=by
 have a:=h.jy hr (p:=x/256) O O;have b:=h.pg.lt (p:=x/256) (by rw[a.1];omega);have d:=h.pg.n2;unfold Ux;rw[zA O,dE];simp only;rw[zB (show x/256<1024 by omega),a.2,zA O,zB rfl,Gg h.iN hr O O];rfl
theorem Hl (h:GA A){x:Int}{k:Int}{a:Nat}(hf:Ux A x=some (k,a)):(k = -1/\∃r∈A.runs,a=r.1*256/\((r.1*256:Nat):Int)<=x/\x<(((r.1+r.2)*256:Nat):Int)) ∨
 ∃(j:Nat) (c:cD) (ss:List cM) (l:Nat) (s:cM) (i:Nat),k=j/\Cl A j c ss/\ss[l]?=some s/\i<c.n/\a=at_ c s i/\((at_ c s i:Nat):Int)<=x/\x<((at_ c s i+c.size:Nat):Int):=by
 unfold Ux at hf;split at hf
 ·cases hf
 ·rename_i hx;obtain⟨y,rfl⟩:=zf (show 0<=x by omega);rw[dE]at hf;simp only at hf;by_cases hlt:y/256<1024
  ·rw[zB hlt]at hf;split at hf
   ·cases hf
   ·split at hf
    ·rename_i h0 h41;obtain⟨r,d,b⟩:=qA.1 hf;have g:=sg d;have hp:=sy d;simp at hp;cases b;exact .inl ⟨rfl,r,g,rfl,O,O⟩
    ·rename_i h0 h41;split at hf
     ·rename_i c ss h1 h2;obtain⟨B,w,b⟩:=qA.1 hf;cases b;have e:Cl A (A.ow (y/256)-1) c ss:=⟨h1,h2⟩;obtain⟨l,s,i,p,m,rfl,z,u⟩:=(JU (h.cI _ _ _ e)).1 w;exact .inr ⟨_,c,ss,l,s,i,rfl,e,p,m,rfl,z,u⟩
     ·cases hf
  ·rw[zA hlt,zB rfl]at hf;cases hf
theorem fo.find (h:GA A){j:Nat}{x:Int}(hx:fo A j x):∃y:Nat,x=y/\Ux A x=some ((j:Int),y):=by
 obtain⟨c,g,a,m⟩:=hx;have b:=h.cI j c g a;obtain⟨l,s,i,e,d,rfl,p⟩:=(Un b).1 m;exact⟨_,rfl,Ck h a e d (zC _) (by have:=b.pos;omega)⟩
theorem BL (h:GA A){x:Int}:xh A x=true↔(∃j,fo A j x)\/∃r∈A.runs,x=((r.1*256:Nat):Int):=by
 constructor
 ·intro hx;unfold xh at hx;split at hx
  ·rename_i k a d;split at hx
   ·rename_i he;rcases Hl h d with⟨rfl,r,hr,rfl,_⟩|⟨j,c,e,l,s,i,rfl,b,hs,hi,rfl,_⟩
    ·exact .inr ⟨r,hr,he.symm⟩
    ·rw[zA O,dE,b.1,b.2]at hx;exact .inl ⟨j,c,e,b,by simpa[Tk]using hx⟩
   ·cases hx
  ·cases hx
 ·rintro(⟨j,hj⟩|⟨r,hr,rfl⟩)
  ·obtain⟨y,rfl,d⟩:=hj.find h;obtain⟨c,e,b,g⟩:=hj;unfold xh;rw[d];simp only;rw[zB True.intro,zA O,dE,b.1,b.2];unfold Tk at g;show(eD c e (y:Int)==some true)=true;rw[g];rfl
  ·unfold xh;have:=h.gH r hr;rw[H9 h hr (zC _) O];simp
theorem WI.vt (h:WI W)(hk:W.bT[k]?=some A){cl:Int}{l:List Int}(ho:jM W.held k cl l=true){j:Nat}(e:cl=j):∀x∈l,¬iu A j x:=by
 intro x hx hin;obtain⟨p,hp,a⟩:=(Vl.1 ho).1 x hx;obtain⟨g,i,m,d⟩:=Vj.1 a;obtain⟨c,_,_,_,b⟩:=h.cls hp (j:=j) (by rw[i,e]) (by rw[g];exact hk);rw[m]at b;rw[b.2 hin]at d;cases d
theorem WI.grow (h:WI W)(hk:W.bT[k]?=some A)(x:Int):WI (W.put k (cR A W.sp x).1 (cR A W.sp x).2 W.held):=by
 obtain⟨s,e1,e2,a,_⟩:=MB (h.ga k A hk) (h.ow k A hk) x;exact h.jz hk s e1 a e2
theorem WI.from (h:WI W)(hk:W.bT[k]?=some A)(cl m:Int):WI (W.put k (YU A cl m) W.sp (W.held++(Yy A cl m).map λy=>⟨k,cl,y,pX W.tb cl,false⟩)):=by
 obtain⟨o,e1,e2,F,C,B⟩:=Fm (h.ga k A hk) cl m;have tb:(YU A cl m).tb=A.tb:=o.kp.tb;have g:∀y∈Yy A cl m,∃j:Nat,cl=j/\j<A.tb.length:=λy d=>F (λe=>by rw[e]at d;simp at d);have u:∀y∈Yy A cl m,∀p∈W.held,¬(p.k=k/\p.cls=cl/\p.addr=y):=by
  rintro y d p hp ⟨L,G,K⟩;obtain⟨j,rfl,_⟩:=g y d;obtain⟨c,_,_,ht,_⟩:=h.cls hp G (by rw[L];exact hk);rw[K]at ht;exact C y d (by rw[dE];exact ht)
 refine h.step hk (o.st (h.ow k A hk)) ?_ (λp hp e=>?_) (λp w=>?_) (λj y d=>?_) λr hr=>?_
 ·rw[lr,n0];refine⟨h.hk,?_,λa M b E e=>?_⟩
  ·rw[mC];exact List.Pairwise.map (R:=(· ≠ ·)) _ (λa b z e=>z (by simpa[Pc.key]using e)) e2
  ·subst e;obtain⟨p,hp,rfl⟩:=zD.1 M;obtain⟨q,H,e⟩:=zD.1 E;obtain⟨y,d,rfl⟩:=zD.1 H;simp only[Pc.key,Prod.mk.injEq]at e;exact u y d p hp ⟨e.1.symm,e.2.1.symm,e.2.2.symm⟩
 ·rcases zS.1 hp with hp|hp
  ·exact(h.hd hk hp e).to tb o.runs (λj y i=>(B j y).2 (.inl i)) λj y=>by unfold iu;rw[e1]
  ·obtain⟨y,d,rfl⟩:=zD.1 hp;obtain⟨j,rfl,i⟩:=g y d;refine .inr ⟨j,A.tb[j],rfl,by rw[tb];exact cQ i,?_,(B j y).2 (.inr ⟨(dE j).symm,y,d,rfl⟩),?_⟩
   ·show pX W.tb (j:Int)=_;unfold pX;rw[dE,←h.tb k A hk,cQ i];rfl
   ·constructor
    ·intro hx;cases hx
    ·rintro⟨t,ht,hx⟩;rw[e1]at ht;obtain⟨c,J,N,D,s⟩:=(h.ga k A hk).cl i;rw[ht]at s;cases s;exact(C y d (by rw[dE];exact(Vx D).2 ((h.ga k A hk).lP j c J t D ht _ hx))).elim
 ·rw[zS];constructor
  ·rintro(hp|hp)
   ·exact hp
   ·obtain⟨y,_,rfl⟩:=zD.1 hp;exact(w rfl).elim
  ·exact .inl
 ·rcases(B j y).1 d with d|⟨rfl,x,hx,rfl⟩
  ·obtain⟨p,hp,q⟩:=h.ht k A hk j y d;exact⟨p,l7 _ hp,q⟩
  ·obtain⟨j,rfl,_⟩:=g x hx;exact⟨_,px _ (zD.2 ⟨x,hx,rfl⟩),rfl,by simp,rfl⟩
 ·rw[o.runs]at hr;obtain⟨p,hp,q⟩:=h.hr k A hk r hr;exact⟨p,l7 _ hp,q⟩
theorem WI.yT (h:WI W){cl:Int}{l:List Int}(ho:jM W.held k cl l=true):vp W.held k cl l=W.held.filter λp=>!eE k cl l p:=
 DS l h.hk (Vl.1 ho).1 (Vl.1 ho).2
theorem WI.toC (h:WI W)(hk:W.bT[k]?=some A){cl:Int}{l:List Int}(ho:jM W.held k cl l=true):WI (W.put k (Zh A cl l) W.sp (if Km A cl l=0 then vp W.held k cl l else W.held)):=by
 have ga:=h.ga k A hk;obtain⟨o,e1,e2,F⟩:=BJ ga (k:=cl) (xs:=l) λg x m=>by
  obtain⟨j,c,J,rfl,_⟩:=Dr ga g;rw[dE];exact h.vt hk ho rfl x m
 by_cases g:Km A cl l=0
 ·rw[zB g,h.yT ho];obtain⟨j,c,J,rfl,L,K⟩:=Dr ga g;have e2:=e2 g;rw[dE]at e2;refine h.step hk (o.st (h.ow k A hk)) (UD h.hk _) (λp hp e=>?_) (λp w=>?_) (λi y H=>?_) λr hr=>?_
  ·have s:=zH.1 hp;have z:eE k (j:Int) l p=false:=by simpa using s.2
   rcases h.hd hk s.1 e with⟨h1,h2,r,hr,h3⟩|⟨i,d,h1,h2,h3,h4,h5⟩
   ·exact .inl ⟨h1,h2,r,by rw[o.runs];exact hr,h3⟩
   ·refine .inr ⟨i,d,h1,by rw[o.kp.tb];exact h2,h3,(e2 i _).2 ⟨h4,λ⟨a,b⟩=>?_⟩,by unfold iu at h5 ⊢;rw[e1];exact h5⟩;have:eE k (j:Int) l p=true:=Ql.2 ⟨e,by rw[h1,a],b⟩;rw[z]at this;cases this
  ·rw[zH];have:eE k (j:Int) l p=false:=by
    apply nQ.2;intro m;exact w (Ql.1 m).1
   rw[this];simp
  ·obtain⟨E,C⟩:=(e2 i y).1 H;obtain⟨p,hp,D,B,u⟩:=h.ht k A hk i y E;refine⟨p,zH.2 ⟨hp,?_⟩,D,B,u⟩;have:eE k (j:Int) l p=false:=by
    apply nQ.2;intro m;obtain⟨_,M,G⟩:=Ql.1 m;exact C ⟨O,by rw[←u];exact G⟩
   rw[this];rfl
  ·rw[o.runs]at hr;obtain⟨p,hp,D,B,u⟩:=h.hr k A hk r hr;refine⟨p,zH.2 ⟨hp,?_⟩,D,B,u⟩;have:eE k (j:Int) l p=false:=by
    apply nQ.2;intro m;have:=(Ql.1 m).2.1;omega
   rw[this];rfl
 ·rw[zA g,F g];exact Ap hk h
theorem WI.move (h:WI W)(hk:W.bT[k]?=some A){B:AR}{j:Nat}{l:List Int}{m:Bool}(o:Ob A B)(e1:∀i y,fo B i y↔fo A i y)(e2:∀i y,iu B i y↔if i=j/\y∈l then m=true else iu A i y):WI (W.put k B W.sp (GX W.held k (j:Int) l m)):=by
 refine h.step hk (o.st (h.ow k A hk)) (by rw[LC];exact h.hk) (λp hp e=>?_) (λp a=>?_) (λi y d=>?_) λr hr=>?_
 ·obtain⟨q,g,rfl⟩:=Kc.1 hp;have b:q.k=k:=by
   split at e<;>exact e
  rcases h.hd hk g b with⟨h1,h2,r,hr,h3⟩|⟨i,c,h1,h2,h3,h4,h5⟩
  ·have:eE k (j:Int) l q=false:=by
    apply nQ.2;intro hx;have:=(Ql.1 hx).2.1;omega
   rw[this];exact .inl ⟨h1,h2,r,by rw[o.runs];exact hr,h3⟩
  ·by_cases hx:eE k (j:Int) l q=true
   ·rw[zB hx];obtain⟨_,C,z⟩:=Ql.1 hx;have s:i=j:=by omega
    refine .inr ⟨i,c,h1,by rw[o.kp.tb];exact h2,h3,(e1 _ _).2 h4,?_⟩;show m=true↔iu B i (q.addr:Int);rw[e2,zB ⟨s,z⟩]
   ·rw[zA hx];refine .inr ⟨i,c,h1,by rw[o.kp.tb];exact h2,h3,(e1 _ _).2 h4,?_⟩;rw[e2,zA λd=>hx (Ql.2 ⟨b,by rw[h1,d.1],d.2⟩)];exact h5
 ·rw[Kc];constructor
  ·rintro⟨q,g,rfl⟩;have:eE k (j:Int) l q=false:=by
    apply nQ.2;intro hx;rw[zB hx]at a;exact a (Ql.1 hx).1
   rw[this];exact g
  ·intro hp;refine⟨p,hp,?_⟩;have:eE k (j:Int) l p=false:=by
    apply nQ.2;intro hx;exact a (Ql.1 hx).1
   rw[this];rfl
 ·obtain⟨p,hp,w,x,u⟩:=h.ht k A hk i y ((e1 i y).1 d);refine⟨_,Kc.2 ⟨p,hp,rfl⟩,?_,?_,?_⟩
  ·split<;>exact w
  ·split<;>exact x
  ·split<;>exact u
 ·rw[o.runs]at hr;obtain⟨p,hp,w,x,u⟩:=h.hr k A hk r hr;refine⟨_,Kc.2 ⟨p,hp,rfl⟩,?_,?_,?_⟩
  ·split<;>exact w
  ·split<;>exact x
  ·split<;>exact u
theorem Nq {held:List Pc}{k:Nat}{cls:Int}{m:Bool}:GX held k cls [] m=held:=by
 unfold GX;have:∀p,eE k cls [] p=false:=λp=>by simp[eE]
 simp[this]
theorem WI.xf (h:WI W)(hk:W.bT[k]?=some A)(cl:Int):WI (W.put k (ZV A cl) W.sp (GX W.held k cl (YQ A cl) false)):=by
 obtain⟨o,e1,e2,m,g,a⟩:=Eg (h.ga k A hk) cl;by_cases hv:YQ A cl=[]
 ·rw[hv,Nq];have d:∀j y,iu (ZV A cl) j y↔iu A j y:=λj y=>by rw[a,hv];simp
  refine h.step hk (o.st (h.ow k A hk)) h.hk (λp hp e=>(h.hd hk hp e).to o.kp.tb o.runs (λj y=>(e1 j y).2) d) (λ_ _=>Iff.rfl) (λj y b=>h.ht k A hk j y ((e1 j y).1 b)) λr hr=>h.hr k A hk r (by rw[←o.runs];exact hr)
 ·obtain⟨j,rfl,_⟩:=g hv;rw[dE]at a;exact h.move hk o e1 λi y=>by
   rw[a];split
   ·rename_i hx;simp[hx]
   ·rename_i hx;simp[hx]
theorem WI.toT (h:WI W)(hk:W.bT[k]?=some A){cl:Int}{l:List Int}(ho:jM W.held k cl l=true):WI (W.put k (KC A cl l) W.sp (if VM A cl l then GX W.held k cl l true else W.held)):=by
 by_cases a:VM A cl l=true
 ·have b:∃j:Nat,cl=j:=by
   have d:Gs A cl l=0:=by
    unfold VM at a;simp only[zF,zU]at a;exact a.1
   have b:A.ck cl=true:=by
    unfold Gs at d;split at d
    ·assumption
    ·cases d
   obtain⟨j,g,_⟩:=Gb.1 b;exact⟨j,g⟩
  obtain⟨j,rfl⟩:=b;obtain⟨o,e1,e2,_⟩:=ο (h.ga k A hk) (j:Int) (xs:=l) (Vl.1 ho).2 (by rw[dE];exact h.vt hk ho rfl);obtain⟨_,_,e2⟩:=e2 a;rw[dE]at e2;rw[a,zB rfl];exact h.move hk o e1 λi y=>by
   rw[e2];split
   ·rename_i hx;simp[hx]
   ·rename_i hx;simp[hx]
 ·have a:VM A cl l=false:=by simpa using a
  have e:KC A cl l=A:=by unfold KC;rw[a];rfl
  rw[a,e];exact Ap hk h
theorem WI.wA (h:WI W)(hk:W.bT[k]?=some A)(m a:Int):WI (W.put k (cE A W.sp m a).1 (cE A W.sp m a).2 (if QS A W.sp m a=0 then W.held++[⟨k, -1,Qo A W.sp m a*256,m.toNat*256,false⟩]else W.held)):=by
 rcases SR (h.ga k A hk) (h.ow k A hk) m a with⟨e,hE,_⟩|⟨x,A1,sp1,hp,hE,hV,e,htk,hor,s,et,ek⟩
 ·rw[zA hE,e];exact Ap hk h
 ·rw[zB hE,hV];have u:(cE A W.sp m a).1.runs=A.runs++[(x,m.toNat)]:=by rw[e]
  have w:∀r∈A.runs,r.1≠x:=by
   have hd:=s.ga.j3;rw[u]at hd;intro r hr e2;have i:=(pC.1 hd).2.2 r hr (x,m.toNat) aA;have z:=(h.ga k A hk).gH r hr;have g:=s.ga.gH (x,m.toNat) (by rw[u];simp);simp only at i g;omega
  refine h.step hk s ?_ (λp hp e=>?_) (λp B=>?_) (λj y D=>?_) λr hr=>?_
  ·rw[lr,n0];refine⟨h.hk,by simp,λb C d hd e2=>?_⟩;subst e2;obtain⟨p,hp,rfl⟩:=zD.1 C;simp only[zX,sx,zZ,Pc.key,Prod.mk.injEq]at hd;obtain⟨_,r,hr,g,_⟩:=h.run hp hd.2.1 (A:=A) (by rw[hd.1];exact hk);exact w r hr O
  ·rcases zS.1 hp with hp|hp
   ·rcases h.hd hk hp e with⟨i,z,r,hr,g⟩|⟨j,c,i,z,g,h4,h5⟩
    ·exact .inl ⟨i,z,r,by rw[u];exact l7 _ hr,g⟩
    ·exact .inr ⟨j,c,i,by rw[s.tb];exact z,g,(ek _ _).2 h4,by unfold iu at h5 ⊢;rw[et];exact h5⟩
   ·simp only[zZ]at hp;subst hp;exact .inl ⟨rfl,rfl,(x,m.toNat),by rw[u];simp,rfl,rfl⟩
  ·rw[zS];constructor
   ·rintro(hp|hp)
    ·exact hp
    ·simp only[zZ]at hp;subst hp;exact(B rfl).elim
   ·exact .inl
  ·obtain⟨p,hp,q⟩:=h.ht k A hk j y ((ek j y).1 D);exact⟨p,l7 _ hp,q⟩
  ·rw[u]at hr;rcases zS.1 hr with hr|hr
   ·obtain⟨p,hp,q⟩:=h.hr k A hk r hr;exact⟨p,l7 _ hp,q⟩
   ·simp only[zZ]at hr;subst hr;exact⟨_,px _ (zZ.2 rfl),rfl,rfl,rfl⟩
theorem WI.nD (h:WI W)(hk:W.bT[k]?=some A){r:Nat×Nat}(hr:r∈A.runs):jM W.held k (-1) [(r.1:Int)*256]=true:=by
 refine Vl.2 ⟨λx b=>?_,by simp⟩;simp only[zZ]at b;subst b;obtain⟨p,hp,a,d,e⟩:=h.hr k A hk r hr;exact⟨p,hp,Vj.2 ⟨a,d,O,(h.run hp d (by rw[a];exact hk)).1⟩⟩
theorem WI.wF (h:WI W)(hk:W.bT[k]?=some A)(x:Int):WI (W.put k (Q5 A x) W.sp (if Vy A x=0 then vp W.held k (-1) [x*256]else W.held)):=by
 have ga:=h.ga k A hk;obtain⟨⟨kp,g⟩,K,H,e1,e2⟩:=NQ ga x;by_cases h0:Vy A x=0
 ·rw[zB h0];obtain⟨r,hr,rfl,G⟩:=e2 h0;rw[h.yT (h.nD hk hr)];have m:∀p:Pc,eE k (-1) [(r.1:Int)*256] p=true↔p.k=k/\p.cls = -1/\p.addr=r.1*256:=λp=>by
   rw[Ql];simp only[zZ];constructor
   ·rintro⟨a,b,c⟩;exact⟨a,b,O⟩
   ·rintro⟨a,b,c⟩;exact⟨a,b,O⟩
  refine h.step hk (St.kp g (h.ow k A hk) kp) (UD h.hk _) (λp hp e=>?_) (λp B=>?_) (λi y J=>?_) λq d=>?_
  ·have s:=zH.1 hp;have u:¬eE k (-1) [(r.1:Int)*256] p=true:=by simpa using s.2
   rw[m]at u;rcases h.hd hk s.1 e with⟨h1,h2,q,d,w⟩|⟨j,c,h1,h2,w,F,z⟩
   ·refine .inl ⟨h1,h2,q,?_,w⟩;rw[G,zH];refine⟨d,?_⟩;have:q≠r:=by rintro rfl;exact u ⟨e,h1,w.1⟩
    simpa using this
   ·exact .inr ⟨j,c,h1,by rw[kp.tb];exact h2,w,(H _ _).2 F,by unfold iu at z ⊢;rw[K];exact z⟩
  ·rw[zH];have:eE k (-1) [(r.1:Int)*256] p=false:=by
    apply nQ.2;intro hx;exact B (Ql.1 hx).1
   rw[this];simp
  ·obtain⟨p,hp,D,E,C⟩:=h.ht k A hk i y ((H i y).1 J);refine⟨p,zH.2 ⟨hp,?_⟩,D,E,C⟩;have:eE k (-1) [(r.1:Int)*256] p=false:=by
    apply nQ.2;intro hx;have:=((m p).1 hx).2.1;omega
   rw[this];rfl
  ·rw[G,zH]at d;obtain⟨p,hp,D,E,C⟩:=h.hr k A hk q d.1;refine⟨p,zH.2 ⟨hp,?_⟩,D,E,C⟩;have:eE k (-1) [(r.1:Int)*256] p=false:=by
    apply nQ.2;intro hx;have w:=((m p).1 hx).2.2;have F:=ga.gH q d.1;have z:=ga.gH r hr;have:q=r:=ga.ig d.1 hr (x:=q.1) O O O O;subst this;simp at d
   rw[this];rfl
 ·rw[zA h0,e1 h0];exact Ap hk h
theorem WI.tick (h:WI W)(hk:W.bT[k]?=some A):WI (W.put k (HF A) W.sp (uZ (W.bT.set k (HF A)) W.held)):=by
 have ga:=h.ga k A hk;have t:=O0 ga;have g:=(cV.1 hk).1;have b:(W.bT.set k (HF A))[k]?=some (HF A):=zK g;have bV:∀p∈W.held,p∈uZ (W.bT.set k (HF A)) W.held↔(p.k=k->∀j:Nat,p.cls=j->fo (HF A) j (p.addr:Int)):=by
  intro p hp;unfold uZ;rw[zH];simp only[hp,uj,mQ,mS];by_cases hpk:p.k=k
  ·rw[hpk,b];simp only[true_implies];rcases h.hd hk hp hpk with⟨h1,h2,r,hr,h3⟩|⟨j,c,h1,h2,h3,h4,h5⟩
   ·exact⟨λ_ j m=>O,λ_=>.inl h2⟩
   ·constructor
    ·intro hx i D;obtain rfl:i=j:=by omega
     rcases hx with hx|hx
     ·refine(t.tk i _).2 ⟨h4,λz=>?_⟩;rw[h5.2 z]at hx;cases hx
     ·rcases(BL t.ob.ga).1 hx with⟨j',hj'⟩|⟨r,hr,e⟩
      ·obtain⟨y,e,hf⟩:=((t.tk j' _).1 hj').1.find ga;obtain⟨G,H,a⟩:=h4.find ga;rw[hf]at a;have:j'=i:=by
        have:=congrArg Prod.fst (Option.some.inj a);simp only at this;omega
       rw[←this];exact hj'
      ·rw[t.ob.runs]at hr;have:=ga.gH r hr;have K:=H9 ga hr (x:=r.1*256) (zC _) O;obtain⟨G,H,a⟩:=h4.find ga;rw[e,K]at a;have:=congrArg Prod.fst (Option.some.inj a);simp only at this;omega
    ·intro hx;by_cases hm:p.dT=true
     ·exact .inr ((BL t.ob.ga).2 (.inl ⟨j,hx j h1⟩))
     ·exact .inl (by simpa using hm)
  ·constructor
   ·intro _ hx;exact(hpk hx).elim
   ·intro _;obtain⟨C,E,J⟩:=h.hf p hp;rw[zd (Ne.symm hpk),E];rcases J with⟨h1,h2,_⟩|⟨j,c,_,_,_,h4,_⟩
    ·exact .inl h2
    ·exact .inr ((BL (h.ga _ C E)).2 (.inl ⟨j,h4⟩))
 have sub:∀p,p∈uZ (W.bT.set k (HF A)) W.held->p∈W.held:=λp hp=>(zH.1 hp).1;refine h.step hk (t.ob.st (h.ow k A hk)) (UD h.hk _) (λp hp e=>?_) (λp s=>⟨sub p,λhp=>(bV p hp).2 λe=>(s e).elim⟩) (λj y F=>?_) λr hr=>?_
 ·have u:=(bV p (sub p hp)).1 hp e;rcases h.hd hk (sub p hp) e with⟨h1,h2,r,hr,h3⟩|⟨j,c,h1,h2,h3,h4,h5⟩
  ·exact .inl ⟨h1,h2,r,by rw[t.ob.runs];exact hr,h3⟩
  ·have m:=u j h1;refine .inr ⟨j,c,h1,by rw[t.ob.kp.tb];exact h2,h3,m,?_⟩;rw[h5];exact⟨((t.tk j _).1 m).2,t.sub j _⟩
 ·obtain⟨p,hp,B,w,d⟩:=h.ht k A hk j y ((t.tk j y).1 F).1;refine⟨p,(bV p hp).2 λ_ i D=>?_,B,w,d⟩;obtain rfl:i=j:=by omega
  rw[d];exact F
 ·rw[t.ob.runs]at hr;obtain⟨p,hp,B,w,d⟩:=h.hr k A hk r hr;exact⟨p,(bV p hp).2 λ_ i D=>O,B,w,d⟩
theorem WI.mP (h:WI W){p:Pc}(hp:p∈W.held)(hk:W.bT[p.k]?=some A){x:Nat}(h1:p.addr<=x)(h2:x<p.addr+p.size):A.f (x/256)=1:=by
 have ga:=h.ga _ A hk;rcases h.hd hk hp rfl with⟨_,_,r,hr,e1,e2⟩|⟨j,c,_,hc,e1,ht,_⟩
 ·exact(ga.jy hr O O).1
 ·obtain⟨d,w,a,b⟩:=ht;have:d=c:=Option.some.inj (a.1.symm.trans hc);subst this;have g:=ga.cI j d w a;obtain⟨l,s,i,u,m,e,_⟩:=(Un g).1 b;have y:p.addr=at_ d s i:=Int.ofNat.inj e;have:=HM g.pos m (s:=s) (x:=x) O O;exact(ga.used a (zE u) this.1 this.2).1
theorem fo.lt (h:GA A){j:Nat}{x:Int}(hx:fo A j x):∃y:Nat,x=y/\y<262144:=by
 obtain⟨c,e,b,m⟩:=hx;have a:=h.cI j c e b;obtain⟨l,s,i,g,d,rfl,u⟩:=(Un a).1 m;have hp:=HM a.pos (s:=s) (x:=at_ c s i) d (zC _) (by have:=a.pos;omega);have r:=(h.used b (zE g) hp.1 hp.2).1;have:=h.pg.lt (p:=at_ c s i/256) O;have:=h.pg.n2;exact⟨_,rfl,O⟩
theorem GA.De (h:GA A):lx A:=by
 intro t ht xs hxs x hx;obtain⟨k,b⟩:=zN ht;have a:k<A.tb.length:=by rw[←h.lt];exact(cV.1 b).1
 obtain⟨c,e,i,d,_⟩:=h.cl a;obtain⟨y,rfl,g⟩:=fo.lt h ((Vx d).2 (h.lP k c e t d b x (List.mem_flatten.2 ⟨xs,hxs,hx⟩)));unfold iz;omega
theorem WI.ka (h:WI W){p:Pc}(hp:p∈W.held):p.addr<262144/\p.addr+p.size<=270000:=by
 obtain⟨A,i,d⟩:=h.hf p hp;have ga:=h.ga _ A i;have s:=ga.pg.n2;rcases d with⟨_,_,r,hr,h1,h2⟩|⟨j,c,_,hc,h2,h3,_⟩
 ·have w:=ga.fit hr;have u:=ga.gH r hr;omega
 ·obtain⟨y,e,x⟩:=h3.lt ga;obtain⟨m,g,a,_⟩:=h3;have:m=c:=Option.some.inj (a.1.symm.trans hc);subst this;have b:=(ga.cI j _ g a).ok;unfold cD.ok at b;omega
theorem yu:∀(N:Nat) (l:List Nat),l.Nodup->(∀x∈l,x<N)->l.length<=N
 | 0,l,_,h=>by
  cases l with
  | nil=>simp
  | cons x l=>have:=h x aA;omega
 | N+1,l,hn,h=>by
  have g:=yu N (l.filter (· != N)) (hn.sublist rR) λx b=>by
   have b:=zH.1 b;have:=h x b.1;have:x≠N:=by simpa using b.2
   omega
  have d:=List.length_eq_countP_add_countP (l:=l) (p:=(· != N));have i:l.countP (λa=>¬(a != N)=true)<=1:=by
   have e:l.countP (λa=>¬(a != N)=true)=l.count N:=by
    unfold List.count;apply List.countP_congr;intro x _;simp
   rw[e];exact AF.1 hn N
  rw[Ai]at d;omega
theorem WI.apart (h:WI W){p q:Pc}(hp:p∈W.held)(hq:q∈W.held){x:Nat}(p1:p.addr<=x)(p2:x<p.addr+p.size)(q1:q.addr<=x)(q2:x<q.addr+q.size):p=q:=by
 obtain⟨A,y,J⟩:=h.hf p hp;obtain⟨B,m,D⟩:=h.hf q hq;have e1:=h.mP hp y p1 p2;have e2:=h.mP hq m q1 q2;have z:p.k=q.k:=h.one (x/256) p.k q.k A B y m O O;rw[←z,y]at m;cases m;have ga:=h.ga _ A y;have L:=ga.tb;have own:∀{r:Pc},Hd A r->r.addr<=x->x<r.addr+r.size->(r.cls = -1/\A.ow (x/256)=41/\∃u∈A.runs,r.addr=u.1*256/\u.1<=x/256/\x/256<u.1+u.2) ∨
  ∃(j:Nat) (c:cD) (b:List cM) (l:Nat) (s:cM) (i:Nat),r.cls=j/\A.ow (x/256)=j+1/\Cl A j c b/\b[l]?=some s/\i<c.n/\r.addr=at_ c s i/\r.size=c.size:=by
  intro r hr r1 r2;rcases hr with⟨c1,_,u,hu,c2,c3⟩|⟨j,c,c1,c2,c3,c4,_⟩
  ·exact .inl ⟨c1,(ga.jy hu O O).2,u,hu,c2,O,O⟩
  ·obtain⟨d,b,a,K⟩:=c4;have:d=c:=Option.some.inj (a.1.symm.trans c2);subst this;have F:=ga.cI j d b a;obtain⟨l,s,i,E,C,e,_⟩:=(Un F).1 K;have G:r.addr=at_ d s i:=Int.ofNat.inj e;have g:=HM F.pos (s:=s) (x:=x) C O O;exact .inr ⟨j,d,b,l,s,i,c1,(ga.used a (zE E) g.1 g.2).2,a,E,C,G,c3⟩
 refine h.unique hp hq ?_;rcases own J p1 p2 with⟨a1,a2,u,hu,a3,a4,a5⟩|⟨j,c,b,l,s,i,a1,a2,a3,a4,a5,a6,a7⟩
 ·rcases own D q1 q2 with⟨b1,b2,w,hw,b3,b4,b5⟩|⟨j',d,ss',l',s',i',b1,b2,b3,b4,b5,b6,b7⟩
  ·have:=ga.ig hu hw a4 a5 b4 b5;subst this;unfold Pc.key;rw[z,a1,b1,a3,b3]
  ·have:=b3.lt;omega
 ·rcases own D q1 q2 with⟨b1,b2,w,hw,b3,b4,b5⟩|⟨j',d,ss',l',s',i',b1,b2,b3,b4,b5,b6,b7⟩
  ·have:=a3.lt;omega
  ·have H:j=j':=by omega
   subst H;obtain⟨rfl,rfl⟩:=a3.eq b3;have:=Ha (ga.cI j c b a3) a4 b4 a5 b5 (x:=x) O O O O;unfold Pc.key;rw[z,a1,b1,a6,b6,this.2.1,this.2.2]
theorem WI.size_pos (h:WI W){p:Pc}(hp:p∈W.held):8<=p.size/\p.size%8=0:=by
 obtain⟨A,g,d⟩:=h.hf p hp;have ga:=h.ga _ A g;rcases d with⟨_,_,r,hr,h1,h2⟩|⟨j,c,_,hc,h2,h3,_⟩
 ·have m:=ga.gH r hr;omega
 ·obtain⟨i,e,a,_⟩:=h3;have:i=c:=Option.some.inj (a.1.symm.trans hc);subst this;have b:=(ga.cI j _ e a).ok;unfold cD.ok at b;omega
theorem WI.len (h:WI W):W.held.length<=262144:=by
 have s:(W.held.map (·.addr)).Nodup:=by
  have m:=zr.1 h.hk;refine zr.2 λi j g r d e=>?_;have b:i<W.held.length:=by simpa using g
  have a:j<W.held.length:=by simpa using r
  refine m i j (by simpa using b) (by simpa using a) d ?_;simp only[qU]at e ⊢;have s1:=(h.size_pos (zb b)).1;have w:=(h.size_pos (zb a)).1;rw[h.apart (zb b) (zb a) (x:=W.held[i].addr) (zC _) O O O]
 have:=yu 262144 _ s λx u=>by
  obtain⟨p,hp,rfl⟩:=zD.1 u;exact(h.ka hp).1
 simpa using this
end Go.Ar
namespace Go.Ar
open Go.Vc (cB dO dK)
def mL (live:List (Int×Bk))(k x:Int):Nat:=live.countP λe=>e.2.2.2.1==k&&e.1==x
def l5 (ls:List Li)(k x:Int):Nat:=if 0<=k then(ls.getD k.toNat il).os.count x else 0
def mo (bs:List Bt)(k x:Int):Nat:=(bs.map λb=>if(b.1:Int)=k then b.2.count x else 0).sum
def j5 (p:Option Ph)(k x:Int):Nat:=match p with
 | some (.dG s _)=>if k = -1/\x=s*256 then 1 else 0
 | _=>0
def ib (g:Th)(k x:Int):Nat:=l5 g.ls k x+mo g.bP k x+j5 g.ph k x
def rF (H:Hw)(k x:Int):Nat:=mL H.live k x+(H.bQ.map λg=>ib g k x).sum
def Um (held:List Pc)(k x:Int):Prop:=∃p∈held,p.dT=false/\p.cls=k/\(p.addr:Int)=x
open Classical in
noncomputable def k9 (held:List Pc)(k x:Int):Nat:=if Um held k x then 1 else 0
theorem Fb (held:List Pc)(k x:Int):k9 held k x<=1:=by unfold k9;split<;>omega
theorem B7 {held:List Pc}{k x:Int}(h:1<=k9 held k x):Um held k x:=by
 unfold k9 at h;split at h
 ·assumption
 ·omega
theorem Vv {held:List Pc}{k x:Int}(h:Um held k x):k9 held k x=1:=by unfold k9;rw[zB h]
theorem Kg {held:List Pc}{k x:Int}(h:¬Um held k x):k9 held k x=0:=by unfold k9;rw[zA h]
theorem Rf {held held':List Pc}(h:∀k x,Um held' k x↔Um held k x)(k x:Int):k9 held' k x=k9 held k x:=by
 by_cases hu:Um held k x
 ·rw[Vv hu,Vv ((h k x).2 hu)]
 ·rw[Kg hu,Kg λa=>hu ((h k x).1 a)]
theorem Jy {l:List Int}(hn:l.Nodup)(x:Int):l.count x=if x∈l then 1 else 0:=by
 split
 ·rename_i h;have b:=AF.1 hn x;have a:=BX.2 h;omega
 ·rename_i h;exact xB.2 h
theorem AE {held held':List Pc}{cl:Int}{l:List Int}(hn:l.Nodup)(h0:∀x∈l,¬Um held cl x)(h:∀k x,Um held' k x↔Um held k x\/(k=cl/\x∈l))(k x:Int):k9 held' k x=k9 held k x+(if cl=k then l.count x else 0):=by
 by_cases hk:cl=k
 ·subst hk;rw[zB rfl,Jy hn];by_cases hx:x∈l
  ·rw[zB hx,Kg (h0 x hx),Vv ((h _ _).2 (.inr ⟨rfl,hx⟩))]
  ·rw[zA hx,zw];by_cases hu:Um held cl x
   ·rw[Vv hu,Vv ((h _ _).2 (.inl hu))]
   ·rw[Kg hu,Kg λa=>by rcases(h _ _).1 a with a|⟨_,a⟩;exact hu a;exact hx a]
 ·rw[zA hk,zw];by_cases hu:Um held k x
  ·rw[Vv hu,Vv ((h _ _).2 (.inl hu))]
  ·rw[Kg hu,Kg λa=>by rcases(h _ _).1 a with a|⟨a,_⟩;exact hu a;exact hk a.symm]
theorem Ju {held held':List Pc}{cl:Int}{l:List Int}(hn:l.Nodup)(h0:∀x∈l,Um held cl x)(h:∀k x,Um held' k x↔Um held k x/\¬(k=cl/\x∈l))(k x:Int):k9 held k x=k9 held' k x+(if cl=k then l.count x else 0):=by
 by_cases hk:cl=k
 ·subst hk;rw[zB rfl,Jy hn];by_cases hx:x∈l
  ·rw[zB hx,Vv (h0 x hx),Kg λa=>((h _ _).1 a).2 ⟨rfl,hx⟩]
  ·rw[zA hx,zw];by_cases hu:Um held cl x
   ·rw[Vv hu,Vv ((h _ _).2 ⟨hu,λa=>hx a.2⟩)]
   ·rw[Kg hu,Kg λa=>hu ((h _ _).1 a).1]
 ·rw[zA hk,zw];by_cases hu:Um held k x
  ·rw[Vv hu,Vv ((h _ _).2 ⟨hu,λa=>hk a.1.symm⟩)]
  ·rw[Kg hu,Kg λa=>hu ((h _ _).1 a).1]
theorem Fp {α:Type}(f:α->Nat):∀{l:List α} {t:Nat} {g:α} (g':α),l[t]?=some g->((l.set t g').map f).sum+f g=(l.map f).sum+f g'
 | [],t,g,g',h=>by simp at h
 | a::l,0,g,g',h=>by
  simp only[uz,Option.some.injEq]at h;subst h;simp only[List.set_cons_zero,zX,mN];omega
 | a::l,t+1,g,g',h=>by
  have:=Fp f (l:=l) (t:=t) g' (by simpa using h);simp only[sd,zX,mN];omega
theorem CF {α:Type}(f:α->Nat){l:List α}{g:α}(h:g∈l):f g<=(l.map f).sum:=by
 induction l with
 | nil=>simp at h
 | cons a l ih=>
  simp only[zX,mN];rcases zW.1 h with rfl|h
  ·omega
  ·have:=ih h;omega
theorem wD (ls:List Li)(k:Nat)(x:Int):l5 ls (k:Int) x=(ls.getD k il).os.count x:=by
 unfold l5;rw[zB O,dE]
theorem Jp {ls:List Li}{j:Nat}(l:Li)(k:Nat)(h:j<ls.length):(ls.set j l).getD k il=if k=j then l else ls.getD k il:=by
 rw[zM,oh];by_cases hkj:k=j
 ·subst hkj;simp[h]
 ·rw[zA hkj,zA (Ne.symm hkj),zM]
theorem T0 {ls:List Li}{j:Nat}(l:Li)(h:j<ls.length)(k x:Int):l5 (ls.set j l) k x+(if(j:Int)=k then(ls.getD j il).os.count x else 0)=l5 ls k x+(if(j:Int)=k then l.os.count x else 0):=by
 by_cases hk:0<=k
 ·obtain⟨k,rfl⟩:=zf hk;rw[wD,wD,Jp l k h];by_cases hjk:j=k
  ·subst hjk;simp;omega
  ·have:¬(j:Int)=(k:Int):=by omega
   rw[zA (Ne.symm hjk),zA this,zA this]
 ·unfold l5;rw[zA hk,zA hk,zA O,zA O]
theorem Ud (k x:Int):mo [] k x=0:=rfl
theorem Vk (b:Bt)(bs:List Bt)(k x:Int):mo (b::bs) k x=(if(b.1:Int)=k then b.2.count x else 0)+mo bs k x:=by
 unfold mo;rw[zX,mN]
theorem Lt (a b:List Bt)(k x:Int):mo (a++b) k x=mo a k x+mo b k x:=by
 unfold mo;rw[lr,xS]
theorem Jc {f:cD->Li->List Int×Li}(hf:∀c l x,(f c l).1.count x+(f c l).2.os.count x=l.os.count x){tb:List cD}{ls:List Li}(hl:ls.length=tb.length)(k x:Int):mo (KI f tb ls) k x+l5 (KE f tb ls) k x=l5 ls k x:=by
 have key:∀n,n<=tb.length->mo ((List.range n).filterMap λk=>match tb[k]?,ls[k]? with
  | some c,some l=>if(f c l).1=[]then none else some (k,(f c l).1)
  | _,_=>none) k x=if 0<=k/\k<(n:Int)then(match tb[k.toNat]?,ls[k.toNat]? with
  | some c,some l=>(f c l).1.count x
  | _,_=>0)else 0:=by
  intro n
  induction n with
  | zero=>intro _;rw[zA O];rfl
  | succ n i=>
   intro hn;have i:=i O;rw[kI,xw,Lt,i];have d:tb[n]?=some tb[n]:=cQ O;have a:ls[n]?=some ls[n]:=cQ O;have e:mo ([n].filterMap λk=>match tb[k]?,ls[k]? with
    | some c,some l=>if(f c l).1=[]then none else some (k,(f c l).1)
    | _,_=>none) k x=if(n:Int)=k then(f tb[n] ls[n]).1.count x else 0:=by
    rw[AO,d,a];simp only;by_cases he:(f tb[n] ls[n]).1=[]
    ·rw[zB he,he];simp[Ud]
    ·rw[zA he];simp only[List.filterMap_nil,Vk,Ud,zw]
   rw[e];by_cases b:0<=k/\k<(n:Int)
   ·rw[zB b,zA (show ¬(n:Int)=k by omega),zw,zB (show 0<=k/\k<((n+1:Nat):Int)from⟨b.1,O⟩)]
   ·rw[zA b,zG];by_cases g:(n:Int)=k
    ·subst g;rw[zB rfl,zB (show(0:Int)<=(n:Int)/\(n:Int)<((n+1:Nat):Int)from⟨O,O⟩),dE,d,a]
    ·rw[zA g,zA O]
 have b:=key tb.length (zC _);have e:KI f tb ls=(List.range tb.length).filterMap λk=>match tb[k]?,ls[k]? with
  | some c,some l=>if(f c l).1=[]then none else some (k,(f c l).1)
  | _,_=>none:=rfl
 rw[e,b];by_cases hk:0<=k
 ·obtain⟨k,rfl⟩:=zf hk;rw[wD,wD,dE];by_cases hkl:k<tb.length
  ·have d:tb[k]?=some tb[k]:=cQ hkl;have a:ls[k]?=some ls[k]:=cQ O;rw[zB ⟨O,O⟩,d,a];simp only;have:(KE f tb ls).getD k il=(f tb[k] ls[k]).2:=by
    unfold KE;rw[zM,Dc,d,a];rfl
   rw[this,zM,a];exact hf _ _ _
  ·rw[zA O,zG];have b:(KE f tb ls).getD k il=il:=by
    unfold KE;rw[zM,zO (by rw[List.length_zipWith];omega)];rfl
   have g:ls.getD k il=il:=by rw[zM,zO O];rfl
   rw[b,g]
 ·rw[zA O,zG];unfold l5;rw[zA hk,zA hk]
theorem Ct (m:Nat)(l:Li)(x:Int):(gV m l).1.count x+(gV m l).2.os.count x=l.os.count x:=by
 show(l.os.take m).count x+(l.os.drop m).count x=_;rw[←u9,mZ]
theorem Tq (c:cD)(l:Li)(x:Int):(Vp c l).1.count x+(Vp c l).2.os.count x=l.os.count x:=Ct _ l x
theorem Ns (c:cD)(l:Li)(x:Int):(Z6 c l).1.count x+(Z6 c l).2.os.count x=l.os.count x:=Ct _ l x
theorem Sh (c:cD)(y:Int)(l:Li)(hl:l.os.length<=255)(x:Int):(dM c y l).1.count x+(dM c y l).2.os.count x=l.os.count x + [y].count x:=by
 have a:(eM [y] l).os=l.os++[y]:=by
  unfold eM;rw[zA aE]
 unfold dM;rw[zA O];split
 ·rw[a,List.count_nil,zG,u9]
 ·rw[Ct];have:(nj c (eM [y] l)).os=(eM [y] l).os:=by unfold nj;split<;>rfl
  rw[this,a,u9]
theorem FV {c:cD}{l l':Li}{y:Int}(h:KJ c l=(some y,l'))(x:Int):l.os.count x=l'.os.count x + [y].count x:=by
 unfold KJ at h;split at h
 ·simp at h
 ·rename_i z hz;cases h;have:l.os=l.os.dropLast++[y]:=by
   obtain⟨b,a⟩:=List.getLast?_eq_some_iff.1 hz;rw[a];simp
  conv=>lhs;rw[this]
  rw[u9]
theorem PC {c:cD}{l l':Li}(h:KJ c l=(none,l')):l.os=[]/\l'.os=[]:=by
 unfold KJ at h;split at h
 ·rename_i hz;have:l.os=[]:=by simpa using hz
  cases h;refine⟨this,?_⟩;split<;>exact this
 ·simp at h
theorem BB {live:List (Int×Bk)}{x:Int}(b:Bk)(h:cB live x=none)(k y:Int):mL (dO live x b) k y=mL live k y+(if b.2.2.1=k then[x].count y else 0):=by
 have a:live.any (λe=>e.1==x)=false:=by
  rw[mE];intro e he hx;unfold cB at h;rw[uV,qw]at h;exact h e he hx
 unfold dO;rw[a,zA aA];unfold mL;rw[List.countP_append]
 congr 1
 rw[vR,List.countP_nil,zG];by_cases h1:b.2.2.1=k
 ·by_cases h2:x=y
  ·subst h2;simp[h1]
  ·simp[h1,h2]
 ·simp[h1]
theorem Gw {live:List (Int×Bk)}{x:Int}{b:Bk}(h:cB live x=none){e:Int×Bk}:e∈dO live x b↔e∈live\/e=(x,b):=by
 have a:live.any (λe=>e.1==x)=false:=by
  rw[mE];intro e he hx;unfold cB at h;rw[uV,qw]at h;exact h e he hx
 unfold dO;rw[a,zA aA,zS,zZ]
theorem Aa {live:List (Int×Bk)}{x:Int}{e:Int×Bk}:e∈dK live x↔e∈live/\e.1≠x:=by
 unfold dK;rw[zH];simp
theorem Dl:∀{live:List (Int×Bk)} {x:Int} {b:Bk},(live.map (·.1)).Nodup->cB live x=some b->∀k y,mL live k y=mL (dK live x) k y+(if b.2.2.1=k then[x].count y else 0)
 | [],x,b,_,h,_,_=>by simp[cB]at h
 | e::l,x,b,hn,h,k,y=>by
  rw[zX,zo]at hn;by_cases he:e.1=x
  ·have hb:e.2=b:=by
    unfold cB at h;rw[List.find?_cons_of_pos (by simpa using he)]at h;simpa using h
   have hd:dK (e::l) x=l:=by
    unfold dK;rw[yX (by simpa using he),qF];intro a ha;have:a.1≠x:=λi=>hn.1 (zD.2 ⟨a,ha,i.trans he.symm⟩);simpa using this
   rw[hd];unfold mL;rw[vR,hb,he]
   congr 1
   by_cases h1:b.2.2.1=k
   ·by_cases h2:x=y
    ·subst h2;simp[h1]
    ·simp[h1,h2]
   ·simp[h1]
  ·have g:cB l x=some b:=by
    unfold cB at h ⊢
    rwa [List.find?_cons_of_neg (by simpa using he)]at h
   have d:=Dl hn.2 g k y;have hd:dK (e::l) x=e::dK l x:=by
    unfold dK;rw[xQ (by simpa using he)]
   rw[hd];unfold mL at d ⊢;rw[vR,vR,d];omega
theorem La {live:List (Int×Bk)}{e:Int×Bk}(h:e∈live):1<=mL live e.2.2.2.1 e.1:=by
 unfold mL;exact List.countP_pos_iff.2 ⟨e,h,by simp⟩
structure gP (s s':Sp):Prop where
 l:s'.st.length=s.st.length
 z:∀p,gf s'.st p=0↔gf s.st p=0
 w:s'.wd=s.wd
def iE (m:Nat)(g:Th):Prop:=match g.ph with
 | none=>g.bP=[]
 | some (.take k)=>g.bP=[]/\k<m
 | some (.cN k w)=>g.bP=[]/\k<m/\(g.li k).os=[]/\1<=w/\w<=32
 | some (.cP k w)=>g.bP=[]/\k<m/\(g.li k).os=[]/\1<=w/\w<=32
 | some (.grow k w)=>g.bP=[]/\k<m/\(g.li k).os=[]/\1<=w/\w<=32
 | some .fill=>∃k x xs,g.bP=[(k,x::xs)]/\k<m/\(g.li k).os=[]/\xs.length<=128
 | some (.eN n)=>g.bP=[]/\1<=n/\n<=64
 | some (.find x)=>g.bP=[]/\iz x
 | some (.put k x)=>g.bP=[(k,[x])]/\k<m
 | some .back=>g.bP≠[]
 | some (.dG _ _)=>g.bP=[]
 | some .drain=>g.bP=[]
structure tI (m:Nat) (g:Th):Prop where
 ll:g.ls.length=m
 lo:∀l∈g.ls,fS l/\l.os.length<=128
 hb:∀b∈g.bP,b.1<m/\b.2≠[]/\b.2.length<=256
 hl:g.bP.length<=41
 ph:iE m g
def Lv (held:List Pc)(e:Int×Bk):Prop:=e.2.1=e.1/\∃p∈held,p.dT=false/\p.cls=e.2.2.2.1/\(p.addr:Int)=e.1/\e.2.2.1=(p.size:Int)/\e.2.2.2.2=(p.k:Int)
def Gv (held:List Pc)(s a:Int):Prop:=∃p∈held,p.dT=false/\p.cls = -1/\(p.addr:Int)=s*256/\a=(p.k:Int)
structure HI (H:Hw) (held:List Pc) (s0:Sp):Prop where
 wi:WI ⟨H.tb,s0,H.bT,held⟩
 k8:gP s0 H.sp
 cn:∀k x,rF H k x=k9 held k x
 lk:(H.live.map (·.1)).Nodup
 lv:∀e∈H.live,Lv held e
 gv:∀g∈H.bQ,∀s a,g.ph=some (.dG s a)->Gv held s a
 th:∀g∈H.bQ,tI H.tb.length g
 ok:∀c∈H.tb,c.ok
 a1:1<=H.bT.length
 sl:H.sp.st.length=H.cf.bK
variable {H:Hw}{held:List Pc}{s0:Sp}{t k:Nat}{g:Th}{A:AR}
theorem gP.refl (s:Sp):gP s s:=⟨rfl,λ_=>Iff.rfl,rfl⟩
theorem HI.apart (h:HI H held s0){p q:Pc}(hp:p∈held)(hq:q∈held){x:Nat}(p1:p.addr<=x)(p2:x<p.addr+p.size)(q1:q.addr<=x)(q2:x<q.addr+q.size):p=q:=h.wi.apart hp hq p1 p2 q1 q2
theorem WI.same {W:Wd}(h:WI W){p q:Pc}(hp:p∈W.held)(hq:q∈W.held)(e:p.addr=q.addr):p=q:=by
 have b:=(h.size_pos hp).1;have a:=(h.size_pos hq).1;exact h.apart hp hq (x:=p.addr) (zC _) O O O
theorem WI.um {W:Wd}(h:WI W){p:Pc}(hp:p∈W.held){k x:Int}(hu:Um W.held k x)(e:(p.addr:Int)=x):p.dT=false/\p.cls=k:=by
 obtain⟨q,b,a,d,g⟩:=hu;obtain rfl:=h.same hp b O;exact⟨a,d⟩
theorem HI.nv (h:HI H held s0){e:Int×Bk}(he:e∈H.live):Um held e.2.2.2.1 e.1:=by
 obtain⟨_,p,hp,a,d,b,_⟩:=h.lv e he;exact⟨p,hp,a,d,b⟩
theorem HI.qj (h:HI H held s0){g:Th}(hg:g∈H.bQ)(k x:Int):ib g k x<=k9 held k x:=by
 rw[←h.cn];unfold rF;have:=CF (λg=>ib g k x) hg;omega
theorem HI.qO (h:HI H held s0){g:Th}(hg:g∈H.bQ){k x:Int}(hc:1<=ib g k x):Um held k x:=B7 (zP hc (h.qj hg k x))
theorem HI.mj (h:HI H held s0){g:Th}(hg:g∈H.bQ){k x:Int}(hc:1<=ib g k x):cB H.live x=none:=by
 cases hm:cB H.live x with
 | none=>rfl
 | some b=>
  have d:=Hg hm;have i:=h.qO hg hc;obtain⟨q,j,w,u,r⟩:=h.nv d;have s:k=b.2.2.1:=by
   have:=(h.wi.um (W:=⟨H.tb,s0,H.bT,held⟩) j i r).2;exact this.symm.trans u
  have m:=La d;have a:=h.cn k x;have p:=Fb held k x;have e:=CF (λg=>ib g k x) hg;simp only at m e;unfold rF at a;rw[s]at a p e hc;omega
theorem HI.tF (h:HI H held s0){x:Int}(hn:∀k,¬Um held k x):cB H.live x=none:=by
 cases hm:cB H.live x with
 | none=>rfl
 | some b=>exact(hn _ (h.nv (Hg hm))).elim
theorem HI.gF (h:HI H held s0)(hg:H.bQ[t]?=some g){g':Th}{live':List (Int×Bk)}{s0' sp':Sp}{ars':List AR}{held':List Pc}(wi:WI ⟨H.tb,s0',ars',held'⟩)(k8:gP s0' sp')(hsl:sp'.st.length=H.sp.st.length)(hl:ars'.length=H.bT.length)
 (sub:∀p∈held',p.dT=false->p∈held\/∀k,¬Um held k (p.addr:Int))
 (cn:∀k x,mL live' k x+ib g' k x+k9 held k x=mL H.live k x+ib g k x+k9 held' k x)
 (lk:(live'.map (·.1)).Nodup) (lv:∀e∈live',e∈H.live\/Lv held' e) (gv:∀s a,g'.ph=some (.dG s a)->Gv held' s a) (th:tI H.tb.length g') :
 HI {H with live:=live',sp:=sp',bT:=ars',bQ:=H.bQ.set t g'} held' s0':=by
 have m:∀k x,rF {H with live:=live',sp:=sp',bT:=ars',bQ:=H.bQ.set t g'} k x=k9 held' k x:=λk x=>by
  have b:=h.cn k x;have r:=cn k x;have i:=Fp (λg=>ib g k x) g' hg;unfold rF at b ⊢;simp only at i ⊢;omega
 have E:=(cV.1 hg).1;have bV:∀p∈held,p.dT=false->Um held' p.cls (p.addr:Int)->p∈held':=λp hp D ⟨q,z,b,r,i⟩=>by
  rcases sub q z b with hs|hs
  ·have:q=p:=h.wi.same (W:=⟨H.tb,s0,H.bT,held⟩) hs hp O;rw[←this];exact z
  ·exact(hs p.cls ⟨p,hp,D,rfl,i.symm⟩).elim
 refine⟨wi,k8,m,lk,λe A=>?_,λu d s a hp=>?_,λu d=>?_,h.ok,by simp only;rw[hl];exact h.a1,hsl.trans h.sl⟩
 ·rcases lv e A with he'|he'
  ·obtain⟨B,p,hp,b,r,i,w⟩:=h.lv e he';refine⟨B,p,bV p hp b ?_,b,r,i,w⟩;rw[r,i];apply B7;rw[←m];have:1<=mL live' e.2.2.2.1 e.1:=La A;unfold rF;simp only;omega
  ·exact he'
 ·rcases List.mem_iff_getElem?.1 d with⟨j,hj⟩;rcases VL hj with⟨rfl,rfl,_⟩|⟨hne,hj'⟩
  ·exact gv s a hp
  ·obtain⟨p,y,b,r,i,w⟩:=h.gv u (zE hj') s a hp;refine⟨p,bV p y b ?_,b,r,i,w⟩;rw[r,i];apply B7;rw[←m];have C:=CF (λg=>ib g (-1) (s*256)) d;have F:1<=ib u (-1) (s*256):=by unfold ib;rw[hp];simp[j5]
   unfold rF;simp only at C ⊢;omega
 ·rcases List.mem_iff_getElem?.1 d with⟨j,hj⟩;rcases VL hj with⟨rfl,rfl,_⟩|⟨hne,hj'⟩
  ·exact th
  ·exact h.th u (zE hj')
theorem HI.kY (h:HI H held s0)(hg:H.bQ[t]?=some g){g':Th}{live':List (Int×Bk)}(cn:∀k x,mL live' k x+ib g' k x=mL H.live k x+ib g k x)(lk:(live'.map (·.1)).Nodup)(lv:∀e∈live',e∈H.live\/Lv held e)
 (gv:∀s a,g'.ph=some (.dG s a)->Gv held s a) (th:tI H.tb.length g'):HI {H with live:=live',bQ:=H.bQ.set t g'} held s0:=
 h.gF hg h.wi h.k8 rfl rfl (λp hp _=>.inl hp) (λk x=>by have:=cn k x;omega) lk lv gv th
theorem HI.tP (h:HI H held s0){s0' sp':Sp}{ars':List AR}{held':List Pc}(wi:WI ⟨H.tb,s0',ars',held'⟩)(k8:gP s0' sp')(hsl:sp'.st.length=H.sp.st.length)(hl:ars'.length=H.bT.length)(um:∀k x,Um held' k x↔Um held k x)(sub:∀p∈held',p.dT=false->p∈held) :
 HI {H with sp:=sp',bT:=ars'} held' s0':=by
 have bV:∀p∈held,p.dT=false->p∈held':=λp hp r=>by
  obtain⟨q,j,b,d,y⟩:=(um p.cls (p.addr:Int)).2 ⟨p,hp,r,rfl,rfl⟩;have:q=p:=h.wi.same (W:=⟨H.tb,s0,H.bT,held⟩) (sub q j b) hp O;rw[←this];exact j
 refine⟨wi,k8,λk x=>(h.cn k x).trans (Rf um k x).symm,h.lk,λe w=>?_,λg u s a hp=>?_,h.th,h.ok,by simp only;rw[hl];exact h.a1,hsl.trans h.sl⟩
 ·obtain⟨m,p,hp,b,d⟩:=h.lv e w;exact⟨m,p,bV p hp b,b,d⟩
 ·obtain⟨p,i,b,d⟩:=h.gv g u s a hp;exact⟨p,bV p i b,b,d⟩
theorem N9 {A:AR}{x:Int}:pA A x=true↔0<=x/\A.f x.toNat≠0:=by
 unfold pA AR.f gf;simp
theorem WI.owner {W:Wd}(h:WI W){p:Pc}(hp:p∈W.held){x:Nat}(h1:p.addr<=x)(h2:x<p.addr+p.size):Ye W.bT (x:Int)=(p.k:Int):=by
 obtain⟨A,b,_⟩:=h.hf p hp;have g:=h.mP hp b h1 h2;have a:=(cV.1 b).1;have own:∀(j:Nat) (B:AR),W.bT[j]?=some B->(pA B ((x:Int)/256)=true↔j=p.k):=λj B d=>by
  have e:((x:Int)/256).toNat=x/256:=by omega
  rw[N9,e];constructor
  ·rintro⟨_,hf⟩;exact h.one (x/256) j p.k B A d b hf O
  ·rintro rfl;rw[b]at d;cases d;exact⟨O,O⟩
 unfold Ye;rw[zA O];have hf:W.bT.findIdx? (λA=>pA A ((x:Int)/256))=some p.k:=by
  rw[pd];refine⟨a,(own p.k _ (cQ a)).2 rfl,λj i=>?_⟩;have:=own j W.bT[j] (cQ O);intro hx;have:=this.1 hx;omega
 rw[hf]
theorem HI.owner (h:HI H held s0){p:Pc}(hp:p∈held){x:Nat}(h1:p.addr<=x)(h2:x<p.addr+p.size):Ye H.bT (x:Int)=(p.k:Int):=h.wi.owner (W:=⟨H.tb,s0,H.bT,held⟩) hp h1 h2
theorem HI.pL (h:HI H held s0){p:Pc}(hp:p∈held):Ye H.bT (p.addr:Int)=(p.k:Int):=h.owner hp (zC _) (by have:=(h.wi.size_pos (W:=⟨H.tb,s0,H.bT,held⟩) hp).1;omega)
theorem HI.i63 (h:HI H held s0){k x:Int}(hu:Um held k x):iz x/\0<=x/\0<=Ye H.bT x:=by
 obtain⟨p,hp,_,_,rfl⟩:=hu;have:=(h.wi.ka (W:=⟨H.tb,s0,H.bT,held⟩) hp).1;refine⟨by unfold iz;omega,O,?_⟩;rw[h.pL hp];omega
end Go.Ar
namespace Go.Ar
open Go.Vc (cB dO dK)
open Go.Bu (YS)
structure KS (s s':Sp):Prop where
 l:s'.st.length=s.st.length
 k:∀p,gf s.st p≠0->gf s'.st p≠0/\∀w,w/32=p->s'.wd w=s.wd w
theorem KS.refl (s:Sp):KS s s:=⟨rfl,λp hp=>⟨hp,λ_ _=>rfl⟩⟩
theorem KS.trans {a b c:Sp}(h:KS a b)(k:KS b c):KS a c:=⟨k.l.trans h.l,λp hp=>⟨(k.k p (h.k p hp).1).1,λw d=>((k.k p (h.k p hp).1).2 w d).trans ((h.k p hp).2 w d)⟩⟩
variable {s s' sp sp' s0 s0':Sp}{A B:AR}{k:Nat}
theorem gP.mz (h:gP s s'):s'.st.map (λx=>decide (x=0))=s.st.map λx=>decide (x=0):=by
 refine zp λi=>?_;rw[zk,zk];have a:=h.z i;unfold gf at a;rw[zM,zM]at a;by_cases hi:i<s.st.length
 ·have b:i<s'.st.length:=by rw[h.l];exact hi
  rw[cQ hi,cQ b]at a ⊢;simp only[oZ]at a;simp[a]
 ·have d:=h.l;rw[zO O,zO O]
theorem I3 {l l':List Nat}(h:l'.map (λx=>decide (x=0))=l.map λx=>decide (x=0))(a m:Nat)(f:Bool->Bool):((l'.drop a).take m).any (λx=>f (decide (x=0)))=((l.drop a).take m).any λx=>f (decide (x=0)):=by
 have e:∀l:List Nat,((l.drop a).take m).any (λx=>f (decide (x=0)))=(((l.map λx=>decide (x=0)).drop a).take m).any f:=λl=>by
  rw[←List.map_drop,←List.map_take,List.any_map];rfl
 rw[e,e,h]
theorem gP.fH (h:gP s s')(a m:Int):fH s' a m=fH s a m:=by
 unfold Go.Ar.fH;rw[h.l];have:=I3 h.mz a.toNat m.toNat (λb=>!b);have e:∀l:List Nat,l.any (λx=>x != 0)=l.any λx=>!decide (x=0):=λl=>by
  refine congrArg l.any (funext λx=>?_);cases x<;>rfl
 rw[e,e,this]
theorem gP.fF (h:gP s s')(a m:Int):fF s' a m=fF s a m:=by
 unfold Go.Ar.fF yz;rw[h.l];have:=I3 h.mz a.toNat m.toNat (λb=>b);have e:∀l:List Nat,l.contains 0=l.any λx=>decide (x=0):=λl=>by
  rw[nP];simp only[tf,kM,zU,exists_eq_right]
 rw[e,e,this]
theorem gP.set (h:gP s s'){a m v:Nat}(hl:a+m<=s.st.length):gP (s.set a m v) (s'.set a m v):=by
 refine⟨by simp[Sp.set,QH,h.l],λp=>?_,?_⟩
 ·show gf (fY s'.st a (a+m) v) p=0↔gf (fY s.st a (a+m) v) p=0;rw[HZ (by rw[h.l];exact hl),HZ hl];split
  ·exact Iff.rfl
  ·exact h.z p
 ·show(λw=>if a*32<=w/\w<(a+m)*32 then 0 else s'.wd w)=_
  rw[h.w];rfl
theorem JO {n:Nat}{a m:Int}(h:YS n a m=true):a.toNat+m.toNat<=n:=by
 by_cases h0:0<=a/\0<=m
 ·obtain⟨a,rfl⟩:=zf h0.1;obtain⟨m,rfl⟩:=zf h0.2;rw[dE,dE];exact(VQ.1 h).2
 ·exfalso;unfold YS at h;simp at h;omega
theorem gP.gL (h:gP s s')(a m:Int):gP (gL s a m) (gL s' a m):=by
 unfold Go.Ar.gL;rw[h.fH];split
 ·rename_i h0;refine h.set ?_;unfold Go.Ar.fH at h0;split at h0
  ·rename_i hr;exact JO hr
  ·simp at h0
 ·exact h
theorem gP.dX (h:gP s s')(a m:Int)(v:Nat):gP (dX s a m v) (dX s' a m v):=by
 unfold Go.Ar.dX;rw[h.fF];split
 ·rename_i h0;refine h.set ?_;unfold Go.Ar.fF at h0;split at h0
  ·rename_i hr;exact JO hr
  ·simp at h0
 ·exact h
theorem I0 (s:Sp)(a m:Nat):KS s (gL s (a:Int) (m:Int)):=by
 by_cases h:fH s (a:Int) (m:Int)=0
 ·have i:=B5 h;obtain⟨e,j,g,_⟩:=Ik h;refine⟨e,λp hp=>?_⟩;have b:¬(a<=p/\p<a+m):=λd=>hp (i.2.2 p d.1 d.2);exact⟨by rw[j,zA b];exact hp,λw r=>g w O⟩
 ·unfold gL;rw[zA h];exact KS.refl s
theorem gP.dB (h:gP s s')(size:Nat):dB s' size=dB s size:=by
 unfold Go.Ar.dB;rw[h.l]
 congr 1
 funext x
 rw[h.fH]
theorem gP.dC (h:gP s s')(A:AR)(m a no:Nat):(dC A s' m a no).1=(dC A s m a no).1/\(dC A s' m a no).2.1=(dC A s m a no).2.1/\gP (dC A s m a no).2.2 (dC A s' m a no).2.2/\KS s' (dC A s' m a no).2.2:=by
 unfold Go.Ar.dC;split
 ·exact⟨rfl,rfl,h,KS.refl _⟩
 ·unfold Ht;rw[h.dB];cases hg:Go.Ar.dB s (Kw (max m a))with
  | none=>exact⟨rfl,rfl,h,KS.refl _⟩
  | some x=>
   simp only;split
   ·exact⟨rfl,rfl,h.gL _ _,I0 _ _ _⟩
   ·exact⟨rfl,rfl,h.gL _ _,I0 _ _ _⟩
theorem gP.cR (h:gP s s')(A:AR)(k:Int):(cR A s' k).1=(cR A s k).1/\Vr A s' k=Vr A s k/\gP (cR A s k).2 (cR A s' k).2/\KS s' (cR A s' k).2:=by
 unfold Go.Ar.cR Vr;split
 ·split
  ·rename_i c ss _ _;obtain⟨b,a,d,e⟩:=h.dC A c.bK 1 (k.toNat+1);cases e1:Go.Ar.dC A s c.bK 1 (k.toNat+1)with
   | mk o1 r1=>cases e2:Go.Ar.dC A s' c.bK 1 (k.toNat+1)with
    | mk o2 r2=>
     obtain⟨g,j⟩:=r1;obtain⟨m,i⟩:=r2;rw[e1,e2]at b a d;rw[e2]at e;simp only at b a d e;subst b;subst a;cases o2<;>exact⟨rfl,rfl,d,e⟩
  ·exact⟨rfl,rfl,h,KS.refl _⟩
 ·exact⟨rfl,rfl,h,KS.refl _⟩
theorem gP.cE (h:gP s s')(A:AR)(m a:Int):(cE A s' m a).1=(cE A s m a).1/\QS A s' m a=QS A s m a/\Qo A s' m a=Qo A s m a/\gP (cE A s m a).2 (cE A s' m a).2/\KS s' (cE A s' m a).2:=by
 unfold Go.Ar.cE QS Qo;split
 ·obtain⟨d,b,e,g⟩:=h.dC A m.toNat a.toNat 41;cases e1:Go.Ar.dC A s m.toNat a.toNat 41 with
  | mk o1 r1=>cases e2:Go.Ar.dC A s' m.toNat a.toNat 41 with
   | mk o2 r2=>
    obtain⟨i,p⟩:=r1;obtain⟨r,j⟩:=r2;rw[e1,e2]at d b e;rw[e2]at g;simp only at d b e g;subst d;subst b;cases o2<;>exact⟨rfl,rfl,rfl,e,g⟩
 ·exact⟨rfl,rfl,rfl,h,KS.refl _⟩
theorem Il (s:Sp)(a m:Int)(v:Nat):(dX s a m v).st.length=s.st.length:=by
 unfold Go.Ar.dX;split
 ·simp[Sp.set,QH]
 ·rfl
theorem gP.xp:∀(rs:List (Nat×Nat)) {s s':Sp} (A:AR),gP s s'->(rs.foldl fK (A,s')).1=(rs.foldl fK (A,s)).1/\gP (rs.foldl fK (A,s)).2 (rs.foldl fK (A,s')).2/\(rs.foldl fK (A,s')).2.st.length=s'.st.length
 | [],s,s',A,h=>⟨rfl,h,rfl⟩
 | r::rs,s,s',A,h=>by
  rw[lp,lp];obtain⟨h1,h2,h3⟩:=gP.xp rs (fK (A,s) r).1 (h.dX r.1 r.2 1);exact⟨h1,h2,h3.trans (Il _ _ _ _)⟩
theorem gP.dV (h:gP s s')(A:AR)(want:Int):(dV A s' want).1=(dV A s want).1/\gP (dV A s want).2 (dV A s' want).2/\(dV A s' want).2.st.length=s'.st.length:=by
 unfold Go.Ar.dV;split
 ·exact⟨rfl,h,rfl⟩
 ·exact gP.xp _ _ h
theorem gP.sI:∀(rs:List Nat) {s s':Sp} (A:AR),gP s s'->(rs.foldl VN (A,s')).1=(rs.foldl VN (A,s)).1/\gP (rs.foldl VN (A,s)).2 (rs.foldl VN (A,s')).2/\(rs.foldl VN (A,s')).2.st.length=s'.st.length
 | [],s,s',A,h=>⟨rfl,h,rfl⟩
 | r::rs,s,s',A,h=>by
  rw[lp,lp];obtain⟨h1,h2,h3⟩:=gP.sI rs (VN (A,s) r).1 (h.dX ((r*16:Nat):Int) 16 0);exact⟨h1,h2,h3.trans (Il _ _ _ _)⟩
theorem gP.eH (h:gP s s')(A:AR):(eH A s').1=(eH A s).1/\gP (eH A s).2 (eH A s').2/\(eH A s').2.st.length=s'.st.length:=gP.sI _ _ h
variable {W:Wd}
theorem Mq (h:WI W){cl:Int}{l:List Int}(ho:jM W.held k cl l=true)(c x:Int):Um (W.held.filter λp=>!eE k cl l p) c x↔Um W.held c x/\¬(c=cl/\x∈l):=by
 constructor
 ·rintro⟨p,hp,h1,h2,h3⟩;obtain⟨a,b⟩:=zH.1 hp;refine⟨⟨p,a,h1,h2,h3⟩,?_⟩;rintro⟨rfl,d⟩;obtain⟨q,g,e⟩:=(Vl.1 ho).1 x d;obtain⟨i,u,s,r⟩:=Vj.1 e;obtain rfl:=h.same (p:=p) (q:=q) a g O;have:eE k c l p=true:=Ql.2 ⟨i,h2,by rw[h3];exact d⟩;rw[this]at b;cases b
 ·rintro⟨⟨p,hp,h1,h2,h3⟩,b⟩;refine⟨p,zH.2 ⟨hp,?_⟩,h1,h2,h3⟩;have:eE k cl l p=false:=nQ.2 λd=>by
   obtain⟨_,j,m⟩:=Ql.1 d;exact b ⟨h2.symm.trans j,by rw[←h3];exact m⟩
  rw[this];rfl
theorem Sy {held:List Pc}{cl:Int}{l:List Int}(ho:jM held k cl l=true):∀x∈l,Um held cl x:=λx g=>by
 obtain⟨q,b,a⟩:=(Vl.1 ho).1 x g;obtain⟨j,i,e,d⟩:=Vj.1 a;exact⟨q,b,d,i,e⟩
theorem Pt (h:WI W){cl:Int}{l:List Int}(ho:jM W.held k cl l=true)(c x:Int):Um (GX W.held k cl l true) c x↔Um W.held c x/\¬(c=cl/\x∈l):=by
 constructor
 ·rintro⟨p,hp,h1,h2,h3⟩;obtain⟨q,b,rfl⟩:=Kc.1 hp;by_cases hof:eE k cl l q=true
  ·rw[zB hof]at h1;cases h1
  ·rw[zA hof]at h1 h2 h3;refine⟨⟨q,b,h1,h2,h3⟩,?_⟩;rintro⟨rfl,hx⟩;obtain⟨r,e,a⟩:=(Vl.1 ho).1 x hx;obtain⟨g,s,m,j⟩:=Vj.1 a;obtain rfl:=h.same b e O;exact hof (Ql.2 ⟨g,h2,by rw[h3];exact hx⟩)
 ·rintro⟨⟨p,hp,h1,h2,h3⟩,hn⟩;refine⟨p,Kc.2 ⟨p,hp,?_⟩,h1,h2,h3⟩;rw[zA];intro hx;obtain⟨_,d,i⟩:=Ql.1 hx;exact hn ⟨h2.symm.trans d,by rw[←h3];exact i⟩
theorem Wic {held:List Pc}{cl:Int}{l:List Int}:∀p∈GX held k cl l true,p.dT=false->p∈held:=λp hp a=>by
 obtain⟨q,b,rfl⟩:=Kc.1 hp;by_cases hof:eE k cl l q=true
 ·rw[zB hof]at a;cases a
 ·rw[zA hof];exact b
theorem ν (h:WI W)(hk:W.bT[k]?=some A){j:Nat}:(∀x∈YQ A (j:Int),∀c,¬Um W.held c x)/\(YQ A (j:Int)).Nodup/\(∀c x,Um (GX W.held k j (YQ A (j:Int)) false) c x↔Um W.held c x\/(c=j/\x∈YQ A (j:Int))) ∧
 (∀p∈GX W.held k j (YQ A (j:Int)) false,p.dT=false->p∈W.held\/∀c,¬Um W.held c (p.addr:Int)):=by
 obtain⟨o,e1,e2,B,H,J⟩:=Eg (h.ga k A hk) (j:Int);rw[dE]at e2;have w:∀x∈YQ A (j:Int),∃q∈W.held,q.k=k/\q.cls=j/\(q.addr:Int)=x/\q.dT=true:=λx d=>by
  have s:=e2 x d;obtain⟨t,ht,g⟩:=s;have r:j<A.tb.length:=by rw[←(h.ga k A hk).lt];exact(cV.1 ht).1
  obtain⟨c,F,K,y,C⟩:=(h.ga k A hk).cl r;have m:fo A j x:=(Vx y).2 ((h.ga k A hk).lP j c F t y ht x g);obtain⟨q,a,i,e,b⟩:=h.ht k A hk j x m;obtain⟨_,_,_,_,E⟩:=h.cls a e (by rw[i];exact hk);exact⟨q,a,i,e,b,E.2 (by rw[b];exact⟨t,ht,g⟩)⟩
 have new:∀x∈YQ A (j:Int),∀c,¬Um W.held c x:=λx d c z=>by
  obtain⟨q,a,_,_,b,u⟩:=w x d;have:=(h.um a z b).1;rw[u]at this;cases this
 refine⟨new,B,λc x=>⟨?_,?_⟩,λp hp L=>?_⟩
 ·rintro⟨p,hp,h1,h2,h3⟩;obtain⟨q,a,rfl⟩:=Kc.1 hp;by_cases hof:eE k (j:Int) (YQ A (j:Int)) q=true
  ·rw[zB hof]at h2 h3;obtain⟨_,G,D⟩:=Ql.1 hof;exact .inr ⟨h2.symm.trans G,by rw[←h3];exact D⟩
  ·rw[zA hof]at h1 h2 h3;exact .inl ⟨q,a,h1,h2,h3⟩
 ·rintro(⟨p,hp,h1,h2,h3⟩|⟨rfl,d⟩)
  ·refine⟨p,Kc.2 ⟨p,hp,?_⟩,h1,h2,h3⟩;split
   ·rw[←h1]
   ·rfl
  ·obtain⟨q,a,i,e,b,u⟩:=w x d;refine⟨{q with dT:=false},Kc.2 ⟨q,a,?_⟩,rfl,e,b⟩;rw[zB (Ql.2 ⟨i,e,by rw[b];exact d⟩)]
 ·obtain⟨q,a,rfl⟩:=Kc.1 hp;by_cases hof:eE k (j:Int) (YQ A (j:Int)) q=true
  ·rw[zB hof];exact .inr (new _ (Ql.1 hof).2.2)
  ·rw[zA hof];exact .inl a
theorem Bz {tb:List cD}{bT:List AR}{sp:Sp}{held new:List Pc}(h:WI ⟨tb,sp,bT,held++new⟩):∀p∈new,∀c,¬Um held c (p.addr:Int):=by
 rintro p hp c ⟨q,b,_,_,d⟩;have e:=h.same (p:=p) (q:=q) (px _ hp) (l7 _ b) O;have a:=h.hk;simp only[lr]at a;rw[n0]at a;exact a.2.2 q.key (zD.2 ⟨q,b,rfl⟩) p.key (zD.2 ⟨p,hp,rfl⟩) (by rw[e])
theorem Jz {held new:List Pc}{cl:Int}{l:List Int}(h1:∀p∈new,p.dT=false/\p.cls=cl/\(p.addr:Int)∈l)(h2:∀x∈l,∃p∈new,(p.addr:Int)=x)(c x:Int):Um (held++new) c x↔Um held c x\/(c=cl/\x∈l):=by
 constructor
 ·rintro⟨p,hp,a1,a2,a3⟩;rcases zS.1 hp with hp|hp
  ·exact .inl ⟨p,hp,a1,a2,a3⟩
  ·obtain⟨_,b,d⟩:=h1 p hp;exact .inr ⟨a2.symm.trans b,by rw[←a3];exact d⟩
 ·rintro(⟨p,hp,a⟩|⟨rfl,hx⟩)
  ·exact⟨p,l7 _ hp,a⟩
  ·obtain⟨p,hp,e⟩:=h2 x hx;exact⟨p,px _ hp,(h1 p hp).1,(h1 p hp).2.1,e⟩
theorem EX {tb:List cD}{bT:List AR}{sp:Sp}{held new:List Pc}(h:WI ⟨tb,sp,bT,held++new⟩):∀p∈held++new,p.dT=false->p∈held\/∀c,¬Um held c (p.addr:Int):=λp hp _=>by
 rcases zS.1 hp with hp|hp
 ·exact .inl hp
 ·exact .inr (Bz h p hp)
theorem L5 {held:List Pc}(us:List AR)(c x:Int):Um (uZ us held) c x↔Um held c x:=by
 unfold uZ;constructor
 ·rintro⟨p,hp,h⟩;exact⟨p,(zH.1 hp).1,h⟩
 ·rintro⟨p,hp,h1,h⟩;exact⟨p,zH.2 ⟨hp,by rw[h1];rfl⟩,h1,h⟩
theorem Vz {ss:List cM}:∀{i:Nat},Zy ss i=none->∀k,k<i->∀s,ss[k]?=some s->¬s.many<s.tk.length
 | 0,_,k,hk,_,_=>by omega
 | i+1,h,k,hk,s,hs=>by
  unfold Zy at h;by_cases hki:k=i
  ·subst hki;rw[hs]at h;simp only at h;intro hlt;rw[zB hlt]at h;split at h
   ·split at h
    ·split at h<;>cases h
    ·cases h
   ·cases h
  ·cases hi:ss[i]? with
   | none=>
    rw[hi]at h;exact Vz h k O s hs
   | some x=>
    rw[hi]at h;simp only at h;split at h
    ·split at h
     ·split at h
      ·split at h<;>cases h
      ·cases h
     ·exact Vz (by assumption) k O s hs
    ·exact Vz h k O s hs
theorem Ξ (h:GA A)(hw:Ow A sp){j:Nat}(hE:Vr A sp (j:Int)=0){w:Nat}(h1:1<=w):Yy (cR A sp (j:Int)).1 (j:Int) (w:Int)≠[]:=by
 rcases JQ h hw (j:Int)with⟨_,hn,_⟩|⟨j',c,ss,x,A1,sp1,hj,hk,hk1,_,e,hst,r1,r2,r3,_,hd,hS⟩
 ·exact(hn hE).elim
 ·obtain rfl:j=j':=by omega
  have a:Cl (cR A sp (j:Int)).1 j c (iD c ss x):=by
   rw[e];have m:Cl (dU A1 x c.bK (j+1)) j c ss:=hk1;exact HE m _
  have B:=hS.ga.cI j c _ a;have b:(⟨x,List.replicate c.n false⟩:cM)∈iD c ss x:=V5.2 (.inl rfl);have u:(cR A sp (j:Int)).1.ck (j:Int)=true:=Gb.2 ⟨j,rfl,a.lt⟩;unfold Yy Q3 V8;rw[u,zB rfl,zA (show ¬((w:Int)<0) by omega),zB rfl,dE,dE,a.1,a.2];simp only;obtain⟨w,rfl⟩:∃v,w=v+1:=⟨w-1,O⟩;cases ho:jr c (iD c ss x)with
  | some r=>
   obtain⟨y,C⟩:=r;rw[GD ho];simp
  | none=>
   exfalso;unfold jr mT at ho;obtain⟨l,z⟩:=zN b;have d:=(cV.1 z).1;have p:(⟨x,List.replicate c.n false⟩:cM).many<(⟨x,List.replicate c.n false⟩:cM).tk.length:=by
    have:=B.ok.pq;simp[cM.many,xM];omega
   cases hb:Zy (iD c ss x) (iD c ss x).length with
   | none=>exact Vz hb l d _ z p
   | some i=>
    rw[hb]at ho;obtain⟨_,s,D,g⟩:=Ke hb;obtain⟨r,E,_⟩:=Ac g;simp only[D,E]at ho;cases ho
end Go.Ar
namespace Go.Ar
open Go.Vc (cB dO dK)
variable {H:Hw}{held:List Pc}{s0:Sp}{t k:Nat}{g:Th}{A:AR}{c:cD}
theorem Qm {p:Ph}{H1:Hw}{g1:Th}{nx:Option Ph}{a e:Int}(ht:t<H.bQ.length)(hs:Wv H t p=({H1 with bQ:=H.bQ.set t g1},nx,a,e)):Q6 H t p = {H1 with bQ:=H.bQ.set t {g1 with ph:=nx}}:=by
 unfold Q6;rw[hs];show Hw.eC _ t _=_;rw[ZQ (g:=g1) (by simp[ht])];simp only[oJ]
structure iQ (H:Hw) (t:Nat) (p:Ph):Prop where
 ok:uq H t p
 hi:∃held s0,HI (Q6 H t p) held s0
 ks:KS H.sp (Q6 H t p).sp
theorem iQ.mk' {p:Ph}(hg:H.bQ[t]?=some g)(hl:g.bP.length<=41)(h1:ve H t p){H':Hw}{held':List Pc}{s0':Sp}(e:Q6 H t p=H')(h2:HI H' held' s0')(h3:KS H.sp H'.sp):iQ H t p:=
 ⟨⟨h1,λb a=>by rw[hg]at a;cases a;omega⟩,⟨held',s0',by rw[e];exact h2⟩,by rw[e];exact h3⟩
def Rq (tb:List cD)(g:Th):Ph->Int->Int->Prop
 | .take k,cl,sz=>cl=k/\∃c,tb[k]?=some c/\sz=c.size
 | .cN k _,cl,sz=>cl=k/\∃c,tb[k]?=some c/\sz=c.size
 | .cP k _,cl,sz=>cl=k/\∃c,tb[k]?=some c/\sz=c.size
 | .grow k _,cl,sz=>cl=k/\∃c,tb[k]?=some c/\sz=c.size
 | .fill,cl,sz=>∃k xs r c,g.bP=(k,xs)::r/\cl=k/\tb[k]?=some c/\sz=c.size
 | .eN m,cl,sz=>cl = -1/\sz=((m*256:Nat):Int)
 | _,_,_=>False
def pn (H:Hw)(t:Nat):Ph->Nat
 | .take _=>5
 | .cN _ _=>4
 | .cP k w=>if Yy (H.eI t) (k:Int) (w:Int)=[]then 3 else 1
 | .grow _ _=>2
 | _=>0
def ua (H:Hw)(t:Nat)(p:Ph)(cl sz:Int):Prop:=
 (∃p' g',(Wv H t p).2.1=some p'/\(Q6 H t p).live=H.live/\(Q6 H t p).bQ[t]?=some g'/\Rq H.tb g' p' cl sz/\pn (Q6 H t p) t p'<pn H t p) ∨
 ((Wv H t p).2.1=none/\(Wv H t p).2.2.2≠0/\(Wv H t p).2.2.1=0/\(Q6 H t p).live=H.live) ∨
 ((Wv H t p).2.1=none/\(Wv H t p).2.2.2=0/\cB H.live (Wv H t p).2.2.1=none/\(Q6 H t p).live=dO H.live (Wv H t p).2.2.1 ((Wv H t p).2.2.1,sz,cl,Ye (Q6 H t p).bT (Wv H t p).2.2.1))
theorem HI.mem (h:HI H held s0)(hg:H.bQ[t]?=some g):g∈H.bQ:=zE hg
theorem HI.kq (h:HI H held s0)(t:Nat):H.own t<H.bT.length:=uX _ (by have:=h.a1;omega)
theorem HI.eI (h:HI H held s0)(t:Nat):H.bT[H.own t]?=some (H.eI t):=by
 have a:=cQ (h.kq t);rw[Dg a];exact a
theorem HI.ov (h:HI H held s0):H.tb.length<=40:=by
 have a:=h.eI 0;have:=(h.wi.ga _ _ a).tb;rw[h.wi.tb _ _ a]at this;exact this
theorem HI.cls (h:HI H held s0)(hk:k<H.tb.length):∃c,H.tb[k]?=some c/\c.ok:=⟨H.tb[k],cQ hk,h.ok _ (zb hk)⟩
theorem tI.li {m:Nat}(h:tI m g)(hk:k<m):∃l,g.ls[k]?=some l/\g.li k=l/\fS l/\l.os.length<=128:=by
 have a:=cQ (l:=g.ls) (i:=k) (by rw[h.ll];exact hk);have:=h.lo _ (zb (by rw[h.ll];exact hk));exact⟨_,a,yx a,this.1,this.2⟩
theorem tI.iP {m:Nat}(h:tI m g){l':Li}(h1:fS l')(h2:l'.os.length<=128):(g.ls.set k l').length=m/\∀l∈g.ls.set k l',fS l/\l.os.length<=128:=by
 refine⟨by rw[nZ];exact h.ll,λl a=>?_⟩;rcases wH a with a|rfl
 ·exact h.lo l a
 ·exact⟨h1,h2⟩
theorem Wol {ls:List Li}{l':Li}{hs:List Bt}{ph:Option Ph}(hk:k<ls.length):(⟨ls.set k l',hs,ph⟩:Th).li k=l':=by
 unfold Th.li;rw[Jp l' k hk,zB rfl]
theorem HI.vO (h:HI H held s0){y:Int}(hu:Um held (k:Int) y)(hc:H.tb[k]?=some c):Lv held (y,(y,(c.size:Int),(k:Int),Ye H.bT y)):=by
 obtain⟨p,hp,g,e,rfl⟩:=hu;obtain⟨A,d,_⟩:=h.wi.hf p hp;obtain⟨c',b,i,_⟩:=h.wi.cls hp e d;rw[h.wi.tb _ _ d]at b;have a:H.tb[k]?=some c':=b;rw[hc]at a;cases a;exact⟨rfl,p,hp,g,e,rfl,by rw[i],by rw[h.pL hp]⟩
theorem Ah {ls:List Li}{l:Li}(hl:ls[k]?=some l)(l':Li)(k' x:Int):l5 (ls.set k l') k' x+(if(k:Int)=k' then l.os.count x else 0)=l5 ls k' x+(if(k:Int)=k' then l'.os.count x else 0):=by
 have:=T0 l' (cV.1 hl).1 k' x;rw[zM,hl]at this;exact this
theorem Tt {ls:List Li}{l:Li}(hl:ls[k]?=some l)(x:Int):l5 ls (k:Int) x=l.os.count x:=by
 rw[wD,zM,hl];rfl
theorem Wni (h:HI H held s0)(hg:H.bQ[t]?=some g)(hph:g.ph=some (.take k)){cl sz:Int}(hr:Rq H.tb g (.take k) cl sz):iQ H t (.take k)/\ua H t (.take k) cl sz:=by
 have G:=(cV.1 hg).1;have b:=h.th g (h.mem hg);obtain⟨P,p⟩:g.bP=[]/\k<H.tb.length:=by have:=b.ph;unfold iE at this;rw[hph]at this;exact this
 obtain⟨rfl,c,m,rfl⟩:=hr;have w:=h.ok c (zE m);obtain⟨l,hl,i,K,Q⟩:=b.li p;have d:=Fs w K;have j:=sk hg;cases hT:KJ c l with
 | mk o l'=>
  rw[hT]at d;cases o with
  | some y=>
   have u:Wv H t (.take k)=({{H with live:=dO H.live y (y,(c.size:Int),(k:Int),Ye H.bT y)}with bQ:=H.bQ.set t {g with ls:=g.ls.set k l'}},none,y,0):=by
    simp only[Wv,j,UL m,i,hT,Ub,ZQ hg,Th.iP]
   have e:=Qm G u;have B:1<=ib g (k:Int) y:=by
    have:=FV hT y;rw[B6]at this;unfold ib;rw[Tt hl];omega
   have N:=h.qO (h.mem hg) B;have M:=h.mj (h.mem hg) B;have r:l'.os.length<=128:=by
    have:l'.os.length<=l.os.length:=by
     unfold KJ at hT;split at hT
     ·cases hT
     ·cases hT;simp
    omega
   obtain⟨ll,J⟩:=b.iP (k:=k) d r;have F:=h.kY hg (g':={g with ls:=g.ls.set k l',ph:=none}) (live':=dO H.live y (y,(c.size:Int),(k:Int),Ye H.bT y)) (λE x=>by
    rw[BB _ M];have D:=Ah hl l' E x;have V:=FV hT x;unfold ib;rw[hph];simp only[j5];by_cases hkk:(k:Int)=E
    ·simp only[hkk,zT]at D ⊢;omega
    ·simp only[hkk,j4]at D ⊢;omega)
    (Go.Vc.ie h.lk) (λS C=>by
     rcases(Gw M).1 C with C|rfl
     ·exact .inl C
     ·exact .inr (h.vO N m))
    (λs a hp=>by cases hp) ⟨ll,J,b.hb,b.hl,by unfold iE;exact P⟩
   refine⟨iQ.mk' hg b.hl ⟨p,λR L z=>?_⟩ e F (KS.refl _),.inr (.inr ?_)⟩
   ·rw[j,i,UL m,hT]at z;cases z;exact(h.i63 N).1
   ·rw[e,u];exact⟨rfl,rfl,M,rfl⟩
  | none=>
   have u:Wv H t (.take k)=({H with bQ:=H.bQ.set t {g with ls:=g.ls.set k l'}},some (.cN k (qd c l')),0,0):=by
    simp only[Wv,j,UL m,i,hT,ZQ hg,Th.iP]
   have e:=Qm G u;obtain⟨o1,o2⟩:=PC hT;obtain⟨ll,J⟩:=b.iP (k:=k) d (by rw[o2];simp);have A:=d.nV;have U:1<=qd c l'/\qd c l'<=32:=by
    unfold cD.ok at w;unfold qd;simp only at A;omega
   have F:=h.kY hg (g':={g with ls:=g.ls.set k l',ph:=some (.cN k (qd c l'))}) (live':=H.live) (λE x=>by
    have D:=Ah hl l' E x;rw[o1,o2]at D;unfold ib;rw[hph];simp only[j5];omega) h.lk (λS C=>.inl C) (λs a hp=>by cases hp) ⟨ll,J,b.hb,b.hl,by
     unfold iE;exact⟨P,p,by rw[Wol (by rw[b.ll];exact p)];exact o2,U⟩⟩
   refine⟨iQ.mk' hg b.hl ⟨p,λR L z=>?_⟩ e F (KS.refl _),.inl ?_⟩
   ·rw[j,i,UL m,hT]at z;cases z
   ·rw[e,u];exact⟨_,_,rfl,rfl,zK G,⟨rfl,c,m,rfl⟩,by simp[pn]⟩
theorem FU (h:GA A)(h0:Qq A (k:Int)=0)(hc:A.tb[k]?=some c):∃x xs,YQ A (k:Int)=x::xs/\xs.length+1=c.batch:=by
 have a:YQ A (k:Int)=(match A.cF[k]? with
  | some t=>t.bs.getLast?.getD []
  | none=>[]):=by unfold YQ;rw[zB h0,dE];rfl
 unfold Qq at h0;rw[dE]at h0;split at h0
 ·split at h0
  ·rename_i t ht;split at h0
   ·cases h0
   ·rename_i hb;rw[ht]at a;simp only at a;have m:t.bs.getLast?=some (t.bs.getLast hb):=List.getLast?_eq_some_getLast hb;rw[m]at a;simp only[oZ]at a;have:=h.oE k c t hc ht _ (List.getLast_mem hb);rw[←a]at this;have i:=h.cI;cases hx:YQ A (k:Int)with
    | nil=>
     rw[hx]at this;have d:k<A.tb.length:=(cV.1 hc).1;obtain⟨g,j,_,b,_⟩:=h.cl d;have e:g=c:=Option.some.inj (b.1.symm.trans hc);have:=(h.cI k g j b).ok;unfold cD.ok at this;simp at *;subst e;omega
    | cons x xs=>exact⟨x,xs,rfl,by rw[hx]at this;simpa using this⟩
  ·cases h0
 ·cases h0
theorem To (h:HI H held s0)(hg:H.bQ[t]?=some g){w:Nat}(hph:g.ph=some (.cN k w)){cl sz:Int}(hr:Rq H.tb g (.cN k w) cl sz):iQ H t (.cN k w)/\ua H t (.cN k w) cl sz:=by
 have D:=(cV.1 hg).1;have d:=h.th g (h.mem hg);obtain⟨G,B,p,V⟩:g.bP=[]/\k<H.tb.length/\(g.li k).os=[]/\1<=w/\w<=32:=by have:=d.ph;unfold iE at this;rw[hph]at this;exact this
 obtain⟨rfl,c,i,rfl⟩:=hr;have F:=h.ok c (zE i);have z:=F;unfold cD.ok at z;have C:=h.eI t;have ga:=h.wi.ga _ _ C;have u:(H.eI t).tb[k]?=some c:=by rw[h.wi.tb _ _ C];exact i
 have K:ve H t (.cN k w):=⟨B,λA=>by
  obtain⟨x,r,e,_⟩:=FU ga A u;rw[e];simp⟩
 by_cases hcase:w=c.batch/\Qq (H.eI t) (k:Int)=0
 ·obtain⟨rfl,A⟩:=hcase;obtain⟨x,r,L,P⟩:=FU ga A u;have m:Wv H t (.cN k c.batch)=({H.cG (H.own t) (ZV (H.eI t) (k:Int))with bQ:=H.bQ.set t {g with bP:=[(k,x::r)]}},some .fill,0,0):=by
   simp only[Wv,UL i,zT,A,Kl,L];rw[ZQ (g:=g) (by exact hg),G];rfl
  have e:=Qm (H1:=H.cG (H.own t) (ZV (H.eI t) (k:Int))) D m;obtain⟨N,M,U,W⟩:=ν h.wi C (j:=k);have wi:=h.wi.xf C (k:Int);have E:=h.gF hg (g':={g with bP:=[(k,x::r)],ph:=some .fill}) (live':=H.live) wi h.k8 rfl (by simp[Wd.put]) W (λR y=>by
   rw[AE M (λy S=>N y S _) U,L];unfold ib;rw[hph,G];simp only[j5,Vk,Ud];omega) h.lk (λQ J=>.inl J) (λs a hp=>by cases hp) ⟨d.ll,d.lo,λb hb=>by
    simp only[zZ]at hb;subst hb;exact⟨B,by simp,by simp;omega⟩,by simp,by
    unfold iE;exact⟨k,x,r,rfl,B,p,O⟩⟩
  refine⟨iQ.mk' hg d.hl K e E (KS.refl _),.inl ?_⟩;rw[e,m];exact⟨_,_,rfl,rfl,zK D,⟨k,x::r,[],c,rfl,rfl,i,rfl⟩,by simp[pn]⟩
 ·have m:Wv H t (.cN k w)=({H with bQ:=H.bQ.set t g},some (.cP k w),0,0):=by
   have:H.bQ.set t g=H.bQ:=QG hg;rw[this];simp only[Wv,UL i];split
   ·split
    ·exact(hcase ⟨by assumption,by assumption⟩).elim
    ·rfl
   ·rfl
  have e:=Qm D m;have E:=h.kY hg (g':={g with ph:=some (.cP k w)}) (live':=H.live) (λR x=>by
   unfold ib;rw[hph];simp only[j5]) h.lk (λQ J=>.inl J) (λs a hp=>by cases hp) ⟨d.ll,d.lo,d.hb,d.hl,by
    unfold iE;exact⟨G,B,p,V⟩⟩
  refine⟨iQ.mk' hg d.hl K e E (KS.refl _),.inl ?_⟩;rw[e,m];refine⟨_,_,rfl,rfl,zK D,⟨rfl,c,i,rfl⟩,?_⟩;simp only[pn];split<;>omega
theorem N1 (h:GA A)(j w:Nat):(Yy A (j:Int) (w:Int)).length<=w:=by
 unfold Yy;split
 ·rename_i h0;have b:A.ck (j:Int)=true:=by
   unfold Q3 at h0;split at h0
   ·assumption
   ·cases h0
  obtain⟨i,g,e⟩:=Gb.1 b;obtain⟨c,d,t,a,m⟩:=h.cl e;have:i=j:=by omega
  subst this;unfold V8;rw[dE,dE,a.1,a.2];exact(GY w (h.cI i c d a)).2.2.1
 ·simp
theorem Pf (H:Hw)(t:Nat)(B:AR)(h:H.own t<H.bT.length)(sp:Sp)(bQ:List Th):Hw.eI {H.cG (H.own t) B with sp:=sp,bQ:=bQ} t=B:=by
 refine Dg ?_;have:Hw.own {H.cG (H.own t) B with sp:=sp,bQ:=bQ} t=H.own t:=by unfold Hw.own Hw.cG;simp
 rw[this];simp[Hw.cG,h]
theorem Mr (h:HI H held s0)(hg:H.bQ[t]?=some g){w:Nat}(hph:g.ph=some (.cP k w)){cl sz:Int}(hr:Rq H.tb g (.cP k w) cl sz):iQ H t (.cP k w)/\ua H t (.cP k w) cl sz:=by
 have B:=(cV.1 hg).1;have d:=h.th g (h.mem hg);obtain⟨F,D,r,P⟩:g.bP=[]/\k<H.tb.length/\(g.li k).os=[]/\1<=w/\w<=32:=by have:=d.ph;unfold iE at this;rw[hph]at this;exact this
 obtain⟨rfl,c,K,rfl⟩:=hr;have J:=h.eI t;have ga:=h.wi.ga _ _ J;have wi:=h.wi.from J (k:Int) (w:Int);have i:=N1 ga k w;have j:=(Fm ga (k:Int) (w:Int)).2.2.1;cases hv:Yy (H.eI t) (k:Int) (w:Int)with
 | nil=>
  have m:Wv H t (.cP k w)=({H.cG (H.own t) (YU (H.eI t) (k:Int) (w:Int))with bQ:=H.bQ.set t g},some (.grow k w),0,0):=by
   have:H.bQ.set t g=H.bQ:=QG hg;rw[this];simp only[Wv,hv,zT,Hw.cG]
  have e:=Qm (H1:=H.cG (H.own t) (YU (H.eI t) (k:Int) (w:Int))) B m;rw[hv]at wi;simp only[sx,j7]at wi;have C:=h.gF hg (g':={g with ph:=some (.grow k w)}) (live':=H.live) wi h.k8 rfl (by simp[Wd.put]) (λp hp _=>.inl hp) (λQ y=>by
   unfold ib;rw[hph];simp only[j5]) h.lk (λN G=>.inl G) (λs a hp=>by cases hp) ⟨d.ll,d.lo,d.hb,d.hl,by
    unfold iE;exact⟨F,D,r,P⟩⟩
  refine⟨iQ.mk' hg d.hl trivial e C (KS.refl _),.inl ?_⟩;rw[e,m];exact⟨_,_,rfl,rfl,zK B,⟨rfl,c,K,rfl⟩,by simp[pn,hv]⟩
 | cons v vs=>
  have m:Wv H t (.cP k w)=({H.cG (H.own t) (YU (H.eI t) (k:Int) (w:Int))with bQ:=H.bQ.set t {g with bP:=[(k,(v::vs).map λ(x:Nat)=>(x:Int))]}},some .fill,0,0):=by
   simp only[Wv,hv,Kl];rw[zA aA,ZQ (g:=g) (by exact hg),F];rfl
  have e:=Qm (H1:=H.cG (H.own t) (YU (H.eI t) (k:Int) (w:Int))) B m;rw[hv]at wi i j;have A:((v::vs).map λ(x:Nat)=>(x:Int)).Nodup:=List.Pairwise.map (R:=(· ≠ ·)) _ (λa b E e=>E O) j;have app:=Jz (held:=held) (new:=(v::vs).map λy=>(⟨H.own t,(k:Int),y,pX H.tb (k:Int),false⟩:Pc)) (cl:=(k:Int)) (l:=(v::vs).map λ(x:Nat)=>(x:Int)) (λp hp=>by
   obtain⟨y,u,rfl⟩:=zD.1 hp;exact⟨rfl,rfl,zD.2 ⟨y,u,rfl⟩⟩) λx M=>by
   obtain⟨y,u,rfl⟩:=zD.1 M;exact⟨_,zD.2 ⟨y,u,rfl⟩,rfl⟩
  have new:=Bz wi;have C:=h.gF hg (g':={g with bP:=[(k,(v::vs).map λ(x:Nat)=>(x:Int))],ph:=some .fill}) (live':=H.live) wi h.k8 rfl (by simp[Wd.put]) (EX wi) (λQ y=>by
   rw[AE A (λy u=>by
    obtain⟨z,L,rfl⟩:=zD.1 u;exact new ⟨H.own t,(k:Int),z,pX H.tb (k:Int),false⟩ (zD.2 ⟨z,L,rfl⟩) _) app]
   unfold ib;rw[hph,F];simp only[j5,Vk,Ud];omega) h.lk (λN G=>.inl G) (λs a hp=>by cases hp) ⟨d.ll,d.lo,λb hb=>by
    simp only[zZ]at hb;subst hb;exact⟨D,by simp,by simp at i ⊢;omega⟩,by simp,by
    unfold iE;exact⟨k,(v:Int),vs.map λ(x:Nat)=>(x:Int),rfl,D,r,by simp at i ⊢;omega⟩⟩
  refine⟨iQ.mk' hg d.hl trivial e C (KS.refl _),.inl ?_⟩;rw[e,m];refine⟨_,_,rfl,rfl,zK B,⟨k,_,[],c,rfl,rfl,K,rfl⟩,?_⟩;simp[pn,hv]
theorem Ms (h:HI H held s0)(hg:H.bQ[t]?=some g){w:Nat}(hph:g.ph=some (.grow k w)){cl sz:Int}(hr:Rq H.tb g (.grow k w) cl sz):iQ H t (.grow k w)/\ua H t (.grow k w) cl sz:=by
 have x:=(cV.1 hg).1;have b:=h.th g (h.mem hg);obtain⟨B,F,A,D⟩:g.bP=[]/\k<H.tb.length/\(g.li k).os=[]/\1<=w/\w<=32:=by have:=b.ph;unfold iE at this;rw[hph]at this;exact this
 obtain⟨rfl,c,G,rfl⟩:=hr;have u:=h.eI t;have ga:=h.wi.ga _ _ u;obtain⟨e1,e2,C,m⟩:=h.k8.cR (H.eI t) (k:Int);have wi:=h.wi.grow u (k:Int);by_cases h0:Vr (H.eI t) H.sp (k:Int)=0
 ·have i:Wv H t (.grow k w)=({{H.cG (H.own t) (cR (H.eI t) H.sp (k:Int)).1 with sp:=(cR (H.eI t) H.sp (k:Int)).2}with bQ:=H.bQ.set t g},some (.cP k w),0,0):=by
   have:H.bQ.set t g=H.bQ:=QG hg;rw[this];simp only[Wv,h0,zT,Hw.cG]
  have e:=Qm (H1:={H.cG (H.own t) (cR (H.eI t) H.sp (k:Int)).1 with sp:=(cR (H.eI t) H.sp (k:Int)).2}) x i;have d:=Ξ ga (h.wi.ow _ _ u) (j:=k) (by rw[←e2];exact h0) D.1;rw[show(Wd.mk H.tb s0 H.bT held).sp=s0 from rfl,←e1]at d;rw[show(Wd.mk H.tb s0 H.bT held).sp=s0 from rfl,←e1]at wi;have r:=h.gF hg (g':={g with ph:=some (.cP k w)}) (live':=H.live) wi C m.l (by simp[Wd.put]) (λp hp _=>.inl hp) (λJ y=>by
   unfold ib;rw[hph];simp only[j5]) h.lk (λE z=>.inl z) (λs a hp=>by cases hp) ⟨b.ll,b.lo,b.hb,b.hl,by
    unfold iE;exact⟨B,F,A,D⟩⟩
  refine⟨iQ.mk' hg b.hl trivial e r m,.inl ?_⟩;rw[e,i];refine⟨_,_,rfl,rfl,zK x,⟨rfl,c,G,rfl⟩,?_⟩;have:=Pf H t (cR (H.eI t) H.sp (k:Int)).1 (h.kq t) (cR (H.eI t) H.sp (k:Int)).2 (H.bQ.set t {g with ph:=some (.cP k w)});simp only[pn];rw[this,zA d];omega
 ·have i:Wv H t (.grow k w)=({{H.cG (H.own t) (cR (H.eI t) H.sp (k:Int)).1 with sp:=(cR (H.eI t) H.sp (k:Int)).2}with bQ:=H.bQ.set t g},none,0,Vr (H.eI t) H.sp (k:Int)):=by
   have:H.bQ.set t g=H.bQ:=QG hg;rw[this];simp only[Wv,h0,j4,Hw.cG]
  have e:=Qm (H1:={H.cG (H.own t) (cR (H.eI t) H.sp (k:Int)).1 with sp:=(cR (H.eI t) H.sp (k:Int)).2}) x i;rw[show(Wd.mk H.tb s0 H.bT held).sp=s0 from rfl,←e1]at wi;have r:=h.gF hg (g':={g with ph:=none}) (live':=H.live) wi C m.l (by simp[Wd.put]) (λp hp _=>.inl hp) (λJ y=>by
   unfold ib;rw[hph];simp only[j5]) h.lk (λE z=>.inl z) (λs a hp=>by cases hp) ⟨b.ll,b.lo,b.hb,b.hl,by
    unfold iE;exact B⟩
  refine⟨iQ.mk' hg b.hl trivial e r m,.inr (.inl ?_)⟩;rw[e,i];exact⟨rfl,h0,rfl,rfl⟩
theorem Nr (h:HI H held s0)(hg:H.bQ[t]?=some g)(hph:g.ph=some .fill){cl sz:Int}(hr:Rq H.tb g .fill cl sz):iQ H t .fill/\ua H t .fill cl sz:=by
 have P:=(cV.1 hg).1;have i:=h.th g (h.mem hg);obtain⟨k,x,xs,z,G,j,R⟩:∃k x xs,g.bP=[(k,x::xs)]/\k<H.tb.length/\(g.li k).os=[]/\xs.length<=128:=by have:=i.ph;unfold iE at this;rw[hph]at this;exact this
 obtain⟨k',W,r,c,w,rfl,K,rfl⟩:=hr;rw[z]at w;obtain⟨d, -⟩:=List.cons.inj w;obtain rfl:k=k':=congrArg Prod.fst d;obtain⟨l,hl,p,C,M⟩:=i.li G;have u:=sk hg;rw[p]at j;have m:(eM xs.reverse l).os=xs.reverse:=by unfold eM;rw[j,zA aE];simp
 have J:Wv H t .fill=({{H with live:=dO H.live x (x,(c.size:Int),(k:Int),Ye H.bT x)}with bQ:=H.bQ.set t {ls:=g.ls.set k (eM xs.reverse l),bP:=[],ph:=g.ph}},none,x,0):=by
  simp only[Wv,u,z,UL K,Ub,ZQ hg,p]
 have e:=Qm P J;have A:1<=ib g (k:Int) x:=by
  unfold ib;rw[z,Vk,zB rfl];have:1<=(x::xs).count x:=BX.2 aA;simp only;omega
 have F:=h.qO (h.mem hg) A;have D:=h.mj (h.mem hg) A;obtain⟨S,Q⟩:=i.iP (k:=k) (yH (xs:=xs.reverse) C) (by rw[m];simp;omega);have L:=h.kY hg (g':={ls:=g.ls.set k (eM xs.reverse l),bP:=[],ph:=none}) (live':=dO H.live x (x,(c.size:Int),(k:Int),Ye H.bT x)) (λk' y=>by
  rw[BB _ D];have B:=Ah hl (eM xs.reverse l) k' y;rw[j,m,List.count_reverse,List.count_nil]at B;have U:(x::xs).count y=[x].count y+xs.count y:=u9 (l₁:=[x]) (l₂:=xs);unfold ib;rw[hph,z];simp only[j5,Vk,Ud];by_cases d:(k:Int)=k'
  ·simp only[d,zT]at B ⊢;omega
  ·simp only[d,j4]at B ⊢;omega)
  (Go.Vc.ie h.lk) (λV E=>by
   rcases(Gw D).1 E with E|rfl
   ·exact .inl E
   ·exact .inr (h.vO F K))
  (λs a hp=>by cases hp) ⟨S,Q,λb N=>by simp at N,by simp,by unfold iE;rfl⟩
 refine⟨iQ.mk' hg i.hl ⟨k,x,xs,[],by rw[u];exact z,G,(h.i63 F).1,by rw[u,p,j];simp;omega⟩ e L (KS.refl _),.inr (.inr ?_)⟩;rw[e,J];exact⟨rfl,rfl,D,rfl⟩
theorem Δ (h:HI H held s0)(hg:H.bQ[t]?=some g){m:Nat}(hph:g.ph=some (.eN m)){cl sz:Int}(hr:Rq H.tb g (.eN m) cl sz):iQ H t (.eN m)/\ua H t (.eN m) cl sz:=by
 have J:=(cV.1 hg).1;have b:=h.th g (h.mem hg);obtain⟨M,P,S⟩:g.bP=[]/\1<=m/\m<=64:=by have:=b.ph;unfold iE at this;rw[hph]at this;exact this
 obtain⟨rfl,rfl⟩:=hr;have G:=h.eI t;have ga:=h.wi.ga _ _ G;obtain⟨e1,e2,R,K,A⟩:=h.k8.cE (H.eI t) (m:Int) 1;have wi:=h.wi.wA G (m:Int) 1;rw[show(Wd.mk H.tb s0 H.bT held).sp=s0 from rfl,←e1,←e2,←R]at wi;by_cases h0:QS (H.eI t) H.sp (m:Int) 1=0
 ·rw[zB h0]at wi;have i:=Bz wi;have w:=Jz (held:=held) (new:=[(⟨H.own t, -1,Qo (H.eI t) H.sp (m:Int) 1*256,(m:Int).toNat*256,false⟩:Pc)]) (cl:=-1) (l:=[((Qo (H.eI t) H.sp (m:Int) 1*256:Nat):Int)]) (λp hp=>by
   simp only[zZ]at hp;subst hp;exact⟨rfl,rfl,by simp⟩) λx B=>by
   simp only[zZ]at B;subst B;exact⟨_,zZ.2 rfl,rfl⟩
  have d:(⟨H.own t, -1,Qo (H.eI t) H.sp (m:Int) 1*256,(m:Int).toNat*256,false⟩:Pc)∈held++[(⟨H.own t, -1,Qo (H.eI t) H.sp (m:Int) 1*256,(m:Int).toNat*256,false⟩:Pc)]:=by simp
  have ir:=wi.size_pos d;have u:=wi.ka d;have E:=wi.owner d (x:=Qo (H.eI t) H.sp (m:Int) 1*256) (zC _) (by simp only at ir ⊢;omega);generalize C:Qo (H.eI t) H.sp (m:Int) 1=V at *;have j:cB H.live ((V*256:Nat):Int)=none:=h.tF λF N=>i _ (zZ.2 rfl) F N;have r:Wv H t (.eN m)=({{H.cG (H.own t) (cE (H.eI t) H.sp (m:Int) 1).1 with sp:=(cE (H.eI t) H.sp (m:Int) 1).2,live:=dO H.live ((V*256:Nat):Int) (((V*256:Nat):Int),((m*256:Nat):Int), -1,Ye (H.bT.set (H.own t) (cE (H.eI t) H.sp (m:Int) 1).1) ((V*256:Nat):Int))}with bQ:=H.bQ.set t g},none,((V*256:Nat):Int),0):=by
   have:H.bQ.set t g=H.bQ:=QG hg;rw[this];simp only[Wv,h0,zT,Hw.cG,Ub,C]
  have e:=Qm (H1:={H.cG (H.own t) (cE (H.eI t) H.sp (m:Int) 1).1 with sp:=(cE (H.eI t) H.sp (m:Int) 1).2,live:=dO H.live ((V*256:Nat):Int) (((V*256:Nat):Int),((m*256:Nat):Int), -1,Ye (H.bT.set (H.own t) (cE (H.eI t) H.sp (m:Int) 1).1) ((V*256:Nat):Int))}) J r;have D:=h.gF hg (g':={g with ph:=none}) (live':=dO H.live ((V*256:Nat):Int) (((V*256:Nat):Int),((m*256:Nat):Int), -1,Ye (H.bT.set (H.own t) (cE (H.eI t) H.sp (m:Int) 1).1) ((V*256:Nat):Int))) wi K A.l (by simp[Wd.put]) (EX wi) (λF y=>by
   rw[BB _ j,AE (l:=[((V*256:Nat):Int)]) (cl:=-1) aA (λy L=>by
    simp only[zZ]at L;subst L;exact i _ (zZ.2 rfl) _) w]
   unfold ib;rw[hph];simp only[j5];omega) (Go.Vc.ie h.lk) (λQ z=>by
    rcases(Gw j).1 z with z|rfl
    ·exact .inl z
    ·refine .inr ⟨rfl,_,d,rfl,rfl,rfl,?_,?_⟩
     ·simp
     ·exact E) (λs a hp=>by cases hp) ⟨b.ll,b.lo,b.hb,b.hl,by
    unfold iE;exact M⟩
  refine⟨iQ.mk' hg b.hl ?_ e D A,.inr (.inr ?_)⟩
  ·show Qo (H.eI t) H.sp (m:Int) 1<=1000000;rw[C];simp only at u;omega
  ·rw[e,r];exact⟨rfl,rfl,j,rfl⟩
 ·rw[zA h0]at wi;have C:Qo (H.eI t) H.sp (m:Int) 1=0:=by
   unfold QS at h0;unfold Qo;split
   ·rename_i hp;rw[hp,zB rfl]at h0;split at h0
    ·exact(h0 rfl).elim
    ·rename_i hn;cases B:(dC (H.eI t) H.sp (m:Int).toNat (1:Int).toNat 41).1 with
     | none=>rfl
     | some y=>rw[B]at hn;simp at hn
   ·rfl
  have r:Wv H t (.eN m)=({{H.cG (H.own t) (cE (H.eI t) H.sp (m:Int) 1).1 with sp:=(cE (H.eI t) H.sp (m:Int) 1).2}with bQ:=H.bQ.set t g},none,0,QS (H.eI t) H.sp (m:Int) 1):=by
   have:H.bQ.set t g=H.bQ:=QG hg;rw[this];simp only[Wv,h0,j4,Hw.cG]
  have e:=Qm (H1:={H.cG (H.own t) (cE (H.eI t) H.sp (m:Int) 1).1 with sp:=(cE (H.eI t) H.sp (m:Int) 1).2}) J r;have D:=h.gF hg (g':={g with ph:=none}) (live':=H.live) wi K A.l (by simp[Wd.put]) (λp hp _=>.inl hp) (λF y=>by
   unfold ib;rw[hph];simp only[j5]) h.lk (λQ z=>.inl z) (λs a hp=>by cases hp) ⟨b.ll,b.lo,b.hb,b.hl,by
    unfold iE;exact M⟩
  refine⟨iQ.mk' hg b.hl ?_ e D A,.inr (.inl ?_)⟩
  ·show Qo (H.eI t) H.sp (m:Int) 1<=1000000;rw[C];omega
  ·rw[e,r];exact⟨rfl,h0,rfl,rfl⟩
theorem Tz {W:Wd}(h:WI W)(hk:W.bT[k]?=some A){j:Nat}{l:List Int}(hl:∀x∈l,∃p∈W.held,l6 k (j:Int) x p=true)(hn:l.Nodup)(hj:j<W.tb.length):Km A (j:Int) l=0/\WI (W.put k (Zh A (j:Int) l) W.sp (W.held.filter λp=>!eE k (j:Int) l p)):=by
 have ga:=h.ga k A hk;have d:jM W.held k (j:Int) l=true:=Vl.2 ⟨hl,hn⟩;obtain⟨c,u,_,g,_⟩:=ga.cl (k:=j) (by rw[h.tb k A hk];exact hj);have e:Km A (j:Int) l=0:=by
  rw[GV ga g];refine FH ⟨λx r=>?_,hn⟩;obtain⟨p,hp,b⟩:=hl x r;obtain⟨m,s,i,w⟩:=Vj.1 b;obtain⟨_,_,_,a,_⟩:=h.cls hp s (by rw[m];exact hk);rw[i]at a;exact(Vx g).1 a
 refine⟨e,?_⟩;have:=h.toC hk d;rw[zB e,h.yT d]at this;exact this
theorem Ek {xs:List Int}{tb:List cD}{ars0:List AR}(hH:H.tb=tb)(h:WI ⟨tb,s0,H.bT,held⟩)(hk:k<tb.length)(hxs:∀x∈xs,Um held (k:Int) x)(hn:xs.Nodup)(ha:∀p∈held,Ye ars0 (p.addr:Int)=(p.k:Int)):∀j,j<=H.bT.length →
 ∃ars',VG H k (Z4 ars0 xs) (List.range j) = {H with bT:=ars'}/\ars'.length=H.bT.length/\WI ⟨tb,s0,ars',held.filter λp=>!(decide (p.k<j)&&(p.cls==(k:Int)&&xs.contains (p.addr:Int)))⟩
 | 0,_=>by
  refine⟨H.bT,rfl,rfl,?_⟩;have:(held.filter λp=>!(decide (p.k<0)&&(p.cls==(k:Int)&&xs.contains (p.addr:Int))))=held:=qF.2 λp _=>by simp
  rw[this];exact h
 | j+1,hj=>by
  obtain⟨ars',e,r,i⟩:=Ek hH h hk hxs hn ha j O;rw[VO,e];have m:ars'[j]?=some (ars'[j]' O):=cQ _;simp only[m];have CS:∀{p:Pc},p∈held->p.k=j->((p.addr:Int)∈Z4 ars0 xs j↔(p.addr:Int)∈xs):=λ{p} hp a=>by
   unfold Z4;rw[zH,ha p hp,a];simp
  have b:((held.filter λp=>!(decide (p.k<j)&&(p.cls==(k:Int)&&xs.contains (p.addr:Int)))).filter λp=>!eE j (k:Int) (Z4 ars0 xs j) p)=held.filter λp=>!(decide (p.k<j+1)&&(p.cls==(k:Int)&&xs.contains (p.addr:Int))):=by
   rw[Cb];apply wL;intro p hp;have e1:eE j (k:Int) (Z4 ars0 xs j) p=(p.k==j&&(p.cls==(k:Int)&&xs.contains (p.addr:Int))):=by
    unfold eE;by_cases a:p.k=j
    ·have:=CS hp a;have e2:(Z4 ars0 xs j).contains (p.addr:Int)=xs.contains (p.addr:Int):=by
      rw[nP,tf,tf];exact this
     rw[e2]
    ·have:(p.k==j)=false:=by simpa using a
     rw[this];rfl
   rw[e1];have z:decide (p.k<j+1)=(decide (p.k<j)||p.k==j):=by
    rw[nP];simp;omega
   rw[z];cases p.k==j<;>cases decide (p.k<j)<;>cases(p.cls==(k:Int)&&xs.contains (p.addr:Int))<;>rfl
  by_cases hp:Z4 ars0 xs j=[]
  ·rw[zB hp];refine⟨ars',rfl,r,?_⟩;rw[←b,hp];have:∀p:Pc,(!eE j (k:Int) [] p)=true:=λp=>by simp[eE]
   rw[qF.2 λp _=>this p];exact i
  ·rw[zA hp];refine⟨ars'.set j (Zh (ars'[j]' O) (k:Int) (Z4 ars0 xs j)),by simp[Hw.cG],by simp[r],?_⟩;rw[←b];refine(Tz i m (j:=k) (l:=Z4 ars0 xs j) (λx u=>?_) (hn.sublist rR) hk).2;unfold Z4 at u;obtain⟨g,d⟩:=zH.1 u;obtain⟨p,hp,w,y,s⟩:=hxs x g;have a:p.k=j:=by
    have:=ha p hp;rw[s]at this;rw[this]at d;have:(p.k:Int)=(j:Int):=by simpa using d
    omega
   exact⟨p,zH.2 ⟨hp,by simp[a]⟩,Vj.2 ⟨a,y,s,w⟩⟩
theorem Rs {tb:List cD}(hH:H.tb=tb)(h:WI ⟨tb,s0,H.bT,held⟩){own:Nat}(hown:own<H.bT.length)(hk:k<tb.length){xs:List Int}(hxs:∀x∈xs,Um held (k:Int) x)(hn:xs.Nodup) :
 ∃ars' held',G7 H own k xs = {H with bT:=ars'}/\ars'.length=H.bT.length/\WI ⟨tb,s0,ars',held'⟩/\(∀c x,Um held' c x↔Um held c x/\¬(c=(k:Int)/\x∈xs))/\∀p∈held',p.dT=false->p∈held:=by
 have r:H.bT[own]?=some H.bT[own]:=cQ hown;have w:∀p∈held,Ye H.bT (p.addr:Int)=(p.k:Int):=λp hp=>h.owner hp (zC _) (by have:=(h.size_pos hp).1;omega);have all:∃ars' held',VG H k (Z4 H.bT xs) (List.range H.bT.length) = {H with bT:=ars'}/\ars'.length=H.bT.length/\WI ⟨tb,s0,ars',held'⟩/\(∀c x,Um held' c x↔Um held c x/\¬(c=(k:Int)/\x∈xs))/\∀p∈held',p.dT=false->p∈held:=by
  obtain⟨ars',e,s,i⟩:=Ek hH h hk hxs hn w H.bT.length (zC _);refine⟨ars',_,e,s,i,λc x=>?_,λp hp _=>(zH.1 hp).1⟩;constructor
  ·rintro⟨p,hp,d,g,b⟩;obtain⟨hp,hf⟩:=zH.1 hp;refine⟨⟨p,hp,d,g,b⟩,?_⟩;rintro⟨rfl,a⟩;obtain⟨B,z,_⟩:=h.hf p hp;have j:p.k<H.bT.length:=(cV.1 z).1;rw[g,b]at hf;simp[j,a]at hf
  ·rintro⟨⟨p,hp,d,g,b⟩,hno⟩;refine⟨p,zH.2 ⟨hp,?_⟩,d,g,b⟩;rw[g,b];by_cases hc:c=(k:Int)
   ·have:x∉xs:=λa=>hno ⟨hc,a⟩;simp[this]
   ·simp[hc]
 unfold G7;rw[r];simp only;by_cases hcond:(Z4 H.bT xs own).length=xs.length/\VM H.bT[own] (k:Int) xs=true
 ·rw[zB hcond];have m:∀x∈xs,Ye H.bT x=(own:Int):=by
   have d:Z4 H.bT xs own=xs:=by
    unfold Z4 at hcond ⊢;exact List.filter_sublist.eq_of_length hcond.1
   intro x a;rw[←d]at a;unfold Z4 at a;simpa using(zH.1 a).2
  have u:jM held own (k:Int) xs=true:=Vl.2 ⟨λx a=>by
   obtain⟨p,hp,d,g,b⟩:=hxs x a;have y:=w p hp;rw[b,m x a]at y;exact⟨p,hp,Vj.2 ⟨O,g,b,d⟩⟩,hn⟩
  have i:=h.toT r u;rw[zB hcond.2]at i;exact⟨_,_,rfl,by simp[Hw.cG],i,Pt h u,Wic⟩
 ·rw[zA hcond];have e:(if(Z4 H.bT xs own).length=xs.length then H.cG own (KC H.bT[own] (k:Int) xs)else H)=H:=by
   split
   ·rename_i s;have A:VM H.bT[own] (k:Int) xs=false:=by
     apply nQ.2;intro a;exact hcond ⟨s,a⟩
    have:KC H.bT[own] (k:Int) xs=H.bT[own]:=by unfold KC;rw[A];rfl
    rw[this];exact ID r
   ·rfl
  rw[e];exact all
def la:Ph->Prop
 | .find _=>True
 | .put _ _=>True
 | .back=>True
 | .dG _ _=>True
 | .drain=>True
 | _=>False
def qs (g:Th):Ph->Nat
 | .find _=>101
 | .put _ _=>100
 | .drain=>100
 | .back=>g.bP.length
 | _=>0
def oH (H:Hw)(t:Nat)(g:Th)(p:Ph):Prop:=(Wv H t p).2.2.1=0 ∧
 ((∃p' g',(Wv H t p).2.1=some p'/\la p'/\(∀x,p'≠.find x)/\(Q6 H t p).bQ[t]?=some g'/\qs g' p'<qs g p)\/(Wv H t p).2.1=none) ∧
 ((∀x,p≠.find x)->(Wv H t p).2.2.2=0/\(Q6 H t p).live=H.live) ∧
 (∀x,p=.find x->(cB H.live x=none->(Wv H t p).2.1=none/\(Wv H t p).2.2.2≠0/\(Q6 H t p).live=H.live)/\(∀b,cB H.live x=some b->(Wv H t p).2.2.2=0/\(Q6 H t p).live=dK H.live x))
theorem CG (hg:H.bQ[t]?=some g):kj H t=if g.bP=[]then none else some .back:=by unfold kj;rw[hg]
theorem Mu (h:HI H held s0)(hg:H.bQ[t]?=some g){x:Int}(hph:g.ph=some (.find x)):iQ H t (.find x)/\oH H t g (.find x):=by
 have J:=(cV.1 hg).1;have d:=h.th g (h.mem hg);obtain⟨N,C⟩:g.bP=[]/\iz x:=by have:=d.ph;unfold iE at this;rw[hph]at this;exact this
 have Q:∀A∈H.bT,gY A:=λA S=>by
  obtain⟨j,hj⟩:=zN S;exact(h.wi.ga j A hj).iN
 cases hm:cB H.live x with
 | none=>
  have w:Wv H t (.find x)=({H with bQ:=H.bQ.set t g},none,0,mA H x):=by
   have:H.bQ.set t g=H.bQ:=QG hg;rw[this];simp only[Wv,HL,hm]
  have e:=Qm J w;have E:=h.kY hg (g':={g with ph:=none}) (live':=H.live) (λM x=>by
   unfold ib;rw[hph];simp only[j5]) h.lk (λW L=>.inl L) (λs a hp=>by cases hp) ⟨d.ll,d.lo,d.hb,d.hl,by
    unfold iE;exact N⟩
  refine⟨iQ.mk' hg d.hl ⟨C,λ_=>Q,λb hb=>by rw[hm]at hb;cases hb⟩ e E (KS.refl _),?_⟩;unfold oH;rw[e,w];refine⟨rfl,.inr rfl,λi=>(i x rfl).elim,λy m=>?_⟩;cases m;refine⟨λ_=>⟨rfl,?_,rfl⟩,(λb hb=>by rw[hm]at hb;cases hb)⟩;show mA H x≠0;unfold mA
  repeat' split
  all_goals simp
 | some b=>
  have U:=Hg hm;obtain⟨_,p,hp,Z,R,V,h4,X⟩:=h.lv _ U;simp only at R V h4 X;have P:0<=x:=by omega
  obtain⟨A,S,hd⟩:=h.wi.hf p hp;have Y:ve H t (.find x):=⟨C,(λi=>by rw[hm]at i;cases i),λ_ _=>P⟩;rcases hd with⟨c1,_,r,hr,c2,c3⟩|⟨j,c,c1,c2,c3,_⟩
  ·have F:b.2.2.1 = -1:=by rw[←R,c1]
   have w:Wv H t (.find x)=({{H with live:=dK H.live x}with bQ:=H.bQ.set t g},some (.dG (x/256) b.2.2.2),0,0):=by
    have:H.bQ.set t g=H.bQ:=QG hg;rw[this];simp only[Wv,HL,hm];rw[zB O]
   have e:=Qm (H1:={H with live:=dK H.live x}) J w;have u:x/256*256=x:=by omega
   have E:=h.kY hg (g':={g with ph:=some (.dG (x/256) b.2.2.2)}) (live':=dK H.live x) (λM y=>by
    have z:=Dl h.lk hm M y;rw[F]at z;unfold ib;rw[hph];simp only[j5,u];by_cases m:x=y
    ·subst m;rw[B6]at z;by_cases hk : -1=M
     ·rw[zB hk]at z;rw[zB ⟨hk.symm,rfl⟩];omega
     ·rw[zA hk]at z;rw[zA (λC=>hk C.1.symm)];omega
    ·have:[x].count y=0:=xB.2 aE;rw[this]at z;rw[zA (λC=>m C.2.symm)];split at z<;>omega)
    (Go.Vc.jQ h.lk) (λW L=>.inl (Aa.1 L).1) (λs a B=>by
     cases B;exact⟨p,hp,Z,c1,by rw[u];exact V,X⟩) ⟨d.ll,d.lo,d.hb,d.hl,by
      unfold iE;exact N⟩
   refine⟨iQ.mk' hg d.hl Y e E (KS.refl _),?_⟩;unfold oH;rw[e,w];refine⟨rfl,.inl ⟨_,_,rfl,trivial,(λy m=>by cases m),zK J,by simp[qs]⟩,λi=>(i x rfl).elim,λy m=>?_⟩;cases m;exact⟨(λi=>by rw[hm]at i;cases i),λ_ _=>⟨rfl,rfl⟩⟩
  ·have D:b.2.2.1=(j:Int):=by rw[←R,c1]
   have K:j<H.tb.length:=by
    rw[h.wi.tb _ _ S]at c2;exact(cV.1 c2).1
   have w:Wv H t (.find x)=({{H with live:=dK H.live x}with bQ:=H.bQ.set t {g with bP:=[(j,[x])]}},some (.put j x),0,0):=by
    simp only[Wv,HL,hm];rw[zA O,D,dE];unfold Kl;rw[ZQ (g:=g) (by exact hg),N];rfl
   have e:=Qm (H1:={H with live:=dK H.live x}) J w;have E:=h.kY hg (g':={g with bP:=[(j,[x])],ph:=some (.put j x)}) (live':=dK H.live x) (λM y=>by
    have z:=Dl h.lk hm M y;rw[D]at z;unfold ib;rw[hph,N];simp only[j5,Vk,Ud];omega)
    (Go.Vc.jQ h.lk) (λW L=>.inl (Aa.1 L).1) (λs a B=>by cases B) ⟨d.ll,d.lo,λb' G=>by
     simp only[zZ]at G;subst G;exact⟨K,by simp,by simp⟩,by simp,by
     unfold iE;exact⟨rfl,K⟩⟩
   refine⟨iQ.mk' hg d.hl Y e E (KS.refl _),?_⟩;unfold oH;rw[e,w];refine⟨rfl,.inl ⟨_,_,rfl,trivial,(λy m=>by cases m),zK J,by simp[qs]⟩,λi=>(i x rfl).elim,λy m=>?_⟩;cases m;exact⟨(λi=>by rw[hm]at i;cases i),λ_ _=>⟨rfl,rfl⟩⟩
theorem Jw {f:cD->Li->List Int×Li}{tb:List cD}{ls:List Li}{b:Bt}(h:b∈KI f tb ls):b.1<tb.length/\b.2≠[]/\∃c∈tb,∃l∈ls,b.2=(f c l).1:=by
 unfold KI at h;obtain⟨k,d,a⟩:=vj.1 h;split at a
 ·rename_i c l hc hl;split at a
  ·cases a
  ·cases a;exact⟨ze.1 d,by assumption,c,zE hc,l,zE hl,rfl⟩
 ·cases a
theorem DV {f:cD->Li->List Int×Li}{tb:List cD}{ls:List Li}{l':Li}(h:l'∈KE f tb ls):∃c∈tb,∃l∈ls,l'=(f c l).2:=by
 unfold KE at h;obtain⟨i,a⟩:=zN h;rw[Dc]at a;split at a
 ·rename_i c l hc hl;cases a;exact⟨c,zE hc,l,zE hl,rfl⟩
 ·cases a
theorem Ll {f:cD->Li->List Int×Li}{tb:List cD}{ls:List Li}(h:ls.length=tb.length):(KE f tb ls).length=tb.length:=by
 unfold KE;rw[List.length_zipWith];omega
theorem Ih (c:cD)(l:Li):(Vp c l).2.os.length<=l.os.length/\(Vp c l).1.length<=l.os.length:=by
 simp only[Vp,gV,zt,zL];omega
theorem FO (c:cD)(l:Li):(Z6 c l).2.os.length<=l.os.length/\(Z6 c l).1.length<=l.os.length:=by
 simp only[Z6,gV,zt,zL];omega
theorem Tr (h:HI H held s0)(hg:H.bQ[t]?=some g)(hph:g.ph=some .drain):iQ H t .drain/\oH H t g .drain:=by
 have m:=(cV.1 hg).1;have d:=h.th g (h.mem hg);have F:g.bP=[]:=by have:=d.ph;unfold iE at this;rw[hph]at this;exact this
 have A:=h.ov;have D:=CB Z6 H.tb g.ls;have p:Wv H t .drain=({H with bQ:=H.bQ.set t {g with ls:=KE Z6 H.tb g.ls,bP:=KI Z6 H.tb g.ls}},(if KI Z6 H.tb g.ls=[]then none else some .back),0,0):=by
  simp only[Wv,ZQ hg];rw[CG (g:={g with ls:=KE Z6 H.tb g.ls,bP:=KI Z6 H.tb g.ls}) (by simp[m])]
 have e:=Qm m p;have u:=h.kY hg (g':={ls:=KE Z6 H.tb g.ls,bP:=KI Z6 H.tb g.ls,ph:=if KI Z6 H.tb g.ls=[]then none else some .back}) (live':=H.live) (λr x=>by
  have K:=Jc (f:=Z6) Ns d.ll r x;unfold ib;rw[hph,F];have:j5 (if KI Z6 H.tb g.ls=[]then none else some Ph.back) r x=0:=by split<;>rfl
  simp only[this,Ud];simp only[j5];omega) h.lk (λL G=>.inl G) (λs a hp=>by
   simp only at hp;split at hp<;>cases hp) ⟨Ll d.ll,λl hl=>by
   obtain⟨c,_,j,i,rfl⟩:=DV hl;have:=d.lo j i;have:=FO c j;exact⟨SE (d.lo j i).1,O⟩,λb w=>by
   obtain⟨E,J,c,_,j,i,z⟩:=Jw w;have:=d.lo j i;have:=FO c j;exact⟨E,J,by rw[z];omega⟩,by simp only;omega,by
   unfold iE;by_cases ho:KI Z6 H.tb g.ls=[]
   ·rw[zB ho];exact ho
   ·rw[zA ho];exact ho⟩
 refine⟨iQ.mk' hg d.hl trivial e u (KS.refl _),?_⟩;unfold oH;rw[e,p];refine⟨rfl,?_,λ_=>⟨rfl,rfl⟩,λx B=>by cases B⟩;by_cases ho:KI Z6 H.tb g.ls=[]
 ·exact .inr (by simp only;rw[zB ho])
 ·exact .inl ⟨.back,_,by simp only;rw[zA ho],trivial,(λy C=>by cases C),zK m,by simp only[qs];omega⟩
theorem SX (h:HI H held s0)(hg:H.bQ[t]?=some g){s a:Int}(hph:g.ph=some (.dG s a)):iQ H t (.dG s a)/\oH H t g (.dG s a):=by
 have N:=(cV.1 hg).1;have b:=h.th g (h.mem hg);have Q:g.bP=[]:=by have:=b.ph;unfold iE at this;rw[hph]at this;exact this
 obtain⟨p,hp,V,M,X,Z⟩:=h.gv g (h.mem hg) s a hph;obtain⟨A,m,_⟩:=h.wi.hf p hp;have y:H.bT[p.k]?=some A:=m;have U:=(cV.1 y).1;obtain⟨_,r,J,c2,W⟩:=h.wi.run hp M m;have ga:=h.wi.ga _ _ m;have d:s=(r.1:Int):=by omega
 have S:Vy A s=0:=by
  unfold Vy;rw[zB];unfold qE;rw[Az];exact⟨r,J,by simp[d]⟩
 have E:jM held p.k (-1) [s*256]=true:=by rw[d];exact h.wi.nD m J
 have wi:=h.wi.wF m s;rw[zB S,h.wi.yT E]at wi;have w:a.toNat=p.k:=by omega
 have G:Wv H t (.dG s a)=({H.cG p.k (Q5 A s)with bQ:=H.bQ.set t g},none,0,0):=by
  have:H.bQ.set t g=H.bQ:=QG hg;rw[this];simp only[Wv,w,y,Hw.cG]
 have e:=Qm (H1:=H.cG p.k (Q5 A s)) N G;have K:=h.gF hg (g':={g with ph:=none}) (live':=H.live) wi h.k8 rfl (by simp[Wd.put]) (λq C _=>.inl (zH.1 C).1) (λz x=>by
  have i:=Ju (held':=held.filter λD=>!eE p.k (-1) [s*256] D) (l:=[s*256]) (cl:=-1) aA (Sy E) (Mq h.wi E) z x;have i:k9 held z x=k9 (held.filter λD=>!eE p.k (-1) [s*256] D) z x+(if -1=z then[s*256].count x else 0):=i
  unfold ib;rw[hph];simp only[j5];by_cases hy:s*256=x
  ·subst hy;rw[B6]at i;by_cases hk : -1=z
   ·rw[zB hk]at i;rw[zB ⟨hk.symm,rfl⟩];omega
   ·rw[zA hk]at i;rw[zA (λu=>hk u.1.symm)];omega
  ·have:[s*256].count x=0:=xB.2 aE;rw[this]at i;rw[zA (λu=>hy u.2.symm)];split at i<;>omega) h.lk (λY R=>.inl R) (λs a hp=>by cases hp) ⟨b.ll,b.lo,b.hb,b.hl,by
   unfold iE;exact Q⟩
 refine⟨iQ.mk' hg b.hl ⟨O,O,λB P q C=>?_⟩ e K (KS.refl _),?_⟩
 ·obtain⟨j,L⟩:=zN P;have F:=h.wi.ga j B L;have:=F.fit C;have:=F.pg.n2;omega
 ·unfold oH;rw[e,G];exact⟨rfl,.inr rfl,λ_=>⟨rfl,rfl⟩,λx u=>by cases u⟩
theorem S4 (h:HI H held s0)(hg:H.bQ[t]?=some g)(hph:g.ph=some .back):iQ H t .back/\oH H t g .back:=by
 have D:=(cV.1 hg).1;have d:=h.th g (h.mem hg);have R:g.bP≠[]:=by have:=d.ph;unfold iE at this;rw[hph]at this;exact this
 have z:=sk hg;cases hhd:g.bP with
 | nil=>exact(R hhd).elim
 | cons b r=>
  obtain⟨k,B⟩:=b;obtain⟨G,A,E⟩:=d.hb (k,B) (by rw[hhd];simp);simp only at G A E;have j:∀x,B.count x<=ib g (k:Int) x:=λx=>by
   unfold ib;rw[hhd,Vk,zB rfl];simp only;omega
  have i:∀x∈B,Um held (k:Int) x:=λx u=>h.qO (h.mem hg) (zP (BX.2 u) (j x));have w:B.Nodup:=AF.2 λx=>by
   have M:=j x;have U:=h.qj (h.mem hg) (k:Int) x;have V:=Fb held (k:Int) x;omega
  obtain⟨m,C,N,F,wi,um,sub⟩:=Rs (H:={H with bQ:=H.bQ.set t {g with bP:=r}}) (tb:=H.tb) rfl h.wi (h.kq t) G i w;have J:Wv H t .back=({{H with bT:=m}with bQ:=H.bQ.set t {g with bP:=r}},(if r=[]then none else some .back),0,0):=by
   simp only[Wv,z,hhd,ZQ hg,N];rw[CG (g:={g with bP:=r}) (by simp[D])]
  have e:=Qm (H1:={H with bT:=m}) D J;have L:=h.gF hg (g':={g with bP:=r,ph:=if r=[]then none else some .back}) (live':=H.live) wi h.k8 rfl F (λp hp Q=>.inl (sub p hp Q)) (λK x=>by
   have M:=Ju w i um K x;unfold ib;rw[hph,hhd,Vk];have:j5 (if r=[]then none else some Ph.back) K x=0:=by split<;>rfl
   simp only[this];simp only[j5];omega) h.lk (λW S=>.inl S) (λs a hp=>by
    simp only at hp;split at hp<;>cases hp) ⟨d.ll,d.lo,λb hb=>d.hb b (by rw[hhd];exact mM _ hb),by have:=d.hl;rw[hhd]at this;simp at this ⊢;omega,by
    unfold iE;by_cases ho:r=[]
    ·rw[zB ho];exact ho
    ·rw[zA ho];exact ho⟩
  refine⟨iQ.mk' hg d.hl ⟨k,B,r,by rw[z];exact hhd,λx u=>⟨(h.i63 (i x u)).1,(h.i63 (i x u)).2.2⟩,O⟩ e L (KS.refl _),?_⟩;unfold oH;rw[e,J];refine⟨rfl,?_,λ_=>⟨rfl,rfl⟩,λx u=>by cases u⟩;by_cases ho:r=[]
  ·exact .inr (by simp only;rw[zB ho])
  ·exact .inl ⟨.back,_,by simp only;rw[zA ho],trivial,(λy P=>by cases P),zK D,by simp only[qs];rw[hhd];simp⟩
theorem Sq (h:HI H held s0)(hg:H.bQ[t]?=some g){x:Int}(hph:g.ph=some (.put k x)):iQ H t (.put k x)/\oH H t g (.put k x):=by
 have B:=(cV.1 hg).1;have r:=h.th g (h.mem hg);obtain⟨L,K⟩:g.bP=[(k,[x])]/\k<H.tb.length:=by have:=r.ph;unfold iE at this;rw[hph]at this;exact this
 obtain⟨c,hc,F⟩:=h.cls K;obtain⟨l,hl,M,E,hlm⟩:=r.li K;have D:=sk hg;have h40:=h.ov;have W:=N8 (x:=x) F E;have X:=Sh c x l O;have U:(dM c x l).1.length<=129/\(dM c x l).2.os.length<=128:=by
  have hlim:=E.lim;have w:(eM [x] l).os=l.os++[x]:=by unfold eM;rw[zA aE]
  have P:(nj c (eM [x] l)).os=l.os++[x]:=by rw[←w];unfold nj;split<;>rfl
  unfold cD.ok at F;unfold dM;rw[zA O];split
  ·rw[w];simp;omega
  ·simp only[gV,P,zL,zt,zR,wS];omega
 obtain⟨Z,R⟩:=r.iP (k:=k) W U.2;have V:∃hs:List Bt,(if(dM c x l).1=[]then[]else[(k,(dM c x l).1)])=hs:=⟨_,rfl⟩
 obtain⟨i,j⟩:=V;have aa:i.length<=1:=by rw[←j];split<;>simp
 have u:∀b∈i,b.1<H.tb.length/\b.2≠[]/\b.2.length<=256:=λb p=>by
  rw[←j]at p;split at p
  ·simp at p
  ·simp only[zZ]at p;subst p;exact⟨K,by assumption,by simp only;omega⟩
 have G:∀d y,mo i d y=if(k:Int)=d then(dM c x l).1.count y else 0:=λd y=>by
  rw[←j];split
  ·rename_i hn;rw[hn,Ud];simp
  ·simp only[Vk,Ud,zw]
 let g3:Th:={g with ls:=g.ls.set k (dM c x l).2,bP:=i}
 let g4:Th:=if H.cf.cT<KA H.tb g3.ls then{g3 with ls:=KE Vp H.tb g3.ls,bP:=g3.bP++KI Vp H.tb g3.ls}else g3
 have Y:iJ H t k x = {H with bQ:=H.bQ.set t g4}:=by
  have e2:(if(dM c x l).1=[]then H.eC t λh=>h.iP k (dM c x l).2 else Kl (H.eC t λh=>h.iP k (dM c x l).2) t k (dM c x l).1) = {H with bQ:=H.bQ.set t {g with ls:=g.ls.set k (dM c x l).2,bP:=(k,[x])::i}}:=by
   rw[←j];split
   ·rw[ZQ hg,←L];rfl
   ·rw[ZQ hg];unfold Kl;rw[ZQ (g:=g.iP k (dM c x l).2) (by simp[B])];simp only[oJ,Th.iP,L];rfl
  have e3:({H with bQ:=H.bQ.set t {g with ls:=g.ls.set k (dM c x l).2,bP:=(k,[x])::i}}:Hw).eC t (λh=>{h with bP:=h.bP.drop 1}) = {H with bQ:=H.bQ.set t g3}:=by
   rw[ZQ (g:={g with ls:=g.ls.set k (dM c x l).2,bP:=(k,[x])::i}) (by simp[B])];simp only[oJ,yg,xW];rfl
  have z:({H with bQ:=H.bQ.set t g3}:Hw).bQ[t]?=some g3:=by simp[B]
  unfold iJ;simp only[UL hc,D,M,e2,e3,sk z,ZQ z,oJ];show(if H.cf.cT<KA H.tb g3.ls then _ else _)=_
  simp only[g4];split<;>rfl
 have hg4:g4.ph=g.ph:=by simp only[g4];split<;>rfl
 have Q:∀d y,l5 g4.ls d y+mo g4.bP d y=l5 g.ls d y+mo g.bP d y:=λd y=>by
  have N:=Ah hl (dM c x l).2 d y;have h2:=X y;have h3:l5 g3.ls d y+mo g3.bP d y=l5 g.ls d y+mo g.bP d y:=by
   simp only[g3];rw[G,L,Vk,Ud];by_cases hkk:(k:Int)=d
   ·simp only[hkk,zT]at N ⊢;omega
   ·simp only[hkk,j4]at N ⊢;omega
  simp only[g4];split
  ·have h4:=Jc (f:=Vp) Tq (tb:=H.tb) (ls:=g3.ls) Z d y;simp only[Lt];omega
  ·exact h3
 have m:g4.ls.length=H.tb.length/\(∀l∈g4.ls,fS l/\l.os.length<=128)/\(∀b∈g4.bP,b.1<H.tb.length/\b.2≠[]/\b.2.length<=256)/\g4.bP.length<=41:=by
  have hsl:=CB Vp H.tb g3.ls;simp only[g4];split
  ·refine⟨Ll Z,λl hl=>?_,λb p=>?_,by simp only[zR,g3]at *;omega⟩
   ·obtain⟨J,S,C,A,rfl⟩:=DV hl;have h5:=R C A;have:=Ih J C;exact⟨J8 (h.ok J S) h5.1,O⟩
   ·rcases zS.1 p with p|p
    ·exact u b p
    ·obtain⟨b1,b2,J,_,C,A,b3⟩:=Jw p;have h5:=R C A;have:=Ih J C;exact⟨b1,b2,by rw[b3];omega⟩
  ·exact⟨Z,R,u,by simp only[g3];omega⟩
 have hs:Wv H t (.put k x)=({H with bQ:=H.bQ.set t g4},(if g4.bP=[]then none else some .back),0,0):=by
  show(iJ H t k x,kj (iJ H t k x) t,0,0)=_;rw[Y,CG (g:=g4) (by simp[B])]
 have e:=Qm B hs;have hi:=h.kY hg (g':={g4 with ph:=if g4.bP=[]then none else some .back}) (live':=H.live) (λd y=>by
  have N:=Q d y;unfold ib;rw[hph];have:j5 (if g4.bP=[]then none else some Ph.back) d y=0:=by split<;>rfl
  simp only[this];simp only[j5];omega) h.lk (λe' he=>.inl he) (λs a hp=>by
   simp only at hp;split at hp<;>cases hp) ⟨m.1,m.2.1,m.2.2.1,m.2.2.2,by
   unfold iE;by_cases ho:g4.bP=[]
   ·simp only[ho,zT]
   ·simp only[ho,j4];exact ho⟩
 refine⟨iQ.mk' hg r.hl ⟨K,by rw[D,L];simp⟩ e hi (KS.refl _),?_⟩;unfold oH;rw[e,hs];refine⟨rfl,?_,λ_=>⟨rfl,rfl⟩,λx hx=>by cases hx⟩;by_cases ho:g4.bP=[]
 ·exact .inr (by simp only;rw[zB ho])
 ·exact .inl ⟨.back,_,by simp only;rw[zA ho],trivial,(λy hy=>by cases hy),zK B,by simp only[qs];have:=m.2.2.2;omega⟩
end Go.Ar
namespace Go.Ar
open Go Go.Vc Go.Proofs
open Go.Bu (fZ Bc CD)
variable {U u w w':Hp}{F B P Q:Rg}{L:dS}{H H':Hw}{t n:Nat}{g:Th}
def uS (size:Int):Int:=(size+255)/256*256
def UT (tb:List cD)(size align:Int):Int×Int:=
 if size<=16384/\VA size align=true then(match iC tb size align with
  | some k=>((tb.getD k ⟨8,1,1⟩).size:Int)
  | none=>uS size,0)else(0,1)
theorem Sj {a:Int}(h1:1<=a)(h2:a<=256):(bits .and .i64 a (a-1) != 0) = !fZ a:=by
 obtain⟨a,rfl⟩:=zf (show 0<=a by omega);rw[show(a:Int)-1=((a-1:Nat):Int) by omega,Go.Bu.jC O O,Bc,←CD O O];simp only[bne,Bool.not_inj_iff];rw[nP];simp only[za];omega
theorem ym (h:HH U F L H)(hc:im H)(size align:Int){R:Int->Int->Hp->Prop}(hR:∀σ',aG U σ'->R (UT H.tb size align).1 (UT H.tb size align).2 σ'):Qj.c (aW L.p) size align U R:=by
 refine Qj.o ?_;unfold Qj.v;refine Dp h hc λv e=>bZ rfl ?_;have h':=h.aF e;have E:(size<=16384/\VA size align=true->False)->R 0 1 v:=λhn=>by
  have:=hR v e;unfold UT at this;rw[zA hn]at this;exact this
 have key:∀r,r = !decide (size<=16384/\VA size align=true)->(If r (R 0 1 v) (Y4.c (aW L.p) v λb v5=>Z7.c b size align v5 λN m A=>If (m==0) (Ix b.a b.len N 3 λP=>gO .i64 (P.add 0) A λK=>R K 0 A) (Ar .i64 (size+256) λW=>Ar .i64 (W-1) λG=>Nz 256<|Ar .i64 (G.tdiv 256) λQ=>Ar .i64 (Q*256) λD=>R D 0 A))):=by
  intro r j;by_cases hok:size<=16384/\VA size align=true
  ·rw[zI hok]at j;have V:=hok.2;simp only[VA,zF,zU]at V;refine bZ (by rw[j];rfl) (Wix h' h.ov λs v5 e5 Y=>Em (EV Y) hc.2.2 size align λA Z=>?_);have g:=hR A ((e.trans e5).trans Z);unfold UT at g;rw[zB hok]at g;rw[hok.2,Lr];cases hcl:iC H.tb size align with
   | some k=>
    rw[hcl]at g;have hk:k<H.tb.length:=(BR.1 hcl).1;have y:H.tb[k]?=some H.tb[k]:=cQ hk;have M:H.tb.getD k ⟨8,1,1⟩=H.tb[k]:=by rw[zM,y];rfl
    simp only[M]at g;refine cJ rfl (r8 (aH.aF (aH.cut Y) Z) y (d:=0) O ?_);simp only[zT];exact g
   | none=>
    rw[hcl]at g;refine bZ rfl (ar O O (ar O O (nz aB (ar (by rw[Xq O];omega) (by rw[Xq O];omega) ?_))));rw[Xq O];refine ar O O ?_;have:(size+256-1)/256*256=uS size:=by unfold uS;omega
    rw[this];exact g
  ·rw[zJ hok]at j;exact cJ (by rw[j];rfl) (E hok)
 refine Ko (λr w=>w=v/\r = !decide (1<=size/\size<=16384)) (λr w ⟨i,j⟩=>?_) λJ X=>cL (λh1=>X _ _ ⟨rfl,by rw[zJ O];rfl⟩) λh1=>X _ _ ⟨rfl,?_⟩
 ·subst i;refine Ko (λr w2=>w2=w/\r = !decide (1<=size/\size<=16384/\1<=align)) (λr w2 ⟨i,u⟩=>?_) λJ1 C=>?_
  ·rw[i];refine Ko (λr w2=>w2=w/\r = !decide (1<=size/\size<=16384/\1<=align/\align<=256)) (λr w2 ⟨i,B⟩=>?_) λJ2 z=>?_
   ·rw[i];refine Ko (λr w2=>w2=w/\r = !decide (size<=16384/\VA size align=true)) (λr w2 ⟨i,S⟩=>by rw[i];exact key r S) λJ3 x=>?_;by_cases hb:1<=size/\size<=16384/\1<=align/\align<=256
    ·refine bZ (by rw[B,zI hb];rfl) (ar O O (x _ _ ⟨rfl,?_⟩));rw[Sj hb.2.2.1 hb.2.2.2];have:VA size align=fZ align:=by
      unfold VA;rw[zI hb.1,zI hb.2.2.1,zI hb.2.2.2];rfl
     rw[this];cases hp:fZ align
     ·rw[zJ aA]
     ·rw[zI aE]
    ·refine cJ (by rw[B,zJ hb];rfl) (x _ _ ⟨rfl,?_⟩);rw[zJ];rfl;rintro⟨q1,q2⟩;simp only[VA,zF,zU]at q2;exact hb ⟨q2.1,q1,q2.2.1,q2.2.2.1⟩
   ·by_cases hb:1<=size/\size<=16384/\1<=align
    ·refine bZ (by rw[u,zI hb];rfl) (z _ _ ⟨rfl,?_⟩);by_cases h3:align>256
     ·rw[zI h3,zJ O];rfl
     ·rw[zJ h3,zI O];rfl
    ·exact cJ (by rw[u,zJ hb];rfl) (z _ _ ⟨rfl,by rw[zJ O];rfl⟩)
  ·by_cases hb:1<=size/\size<=16384
   ·refine bZ (by rw[j,zI hb];rfl) (C _ _ ⟨rfl,?_⟩);by_cases h3:align<1
    ·rw[zI h3,zJ O];rfl
    ·rw[zJ h3,zI O];rfl
   ·exact cJ (by rw[j,zJ hb];rfl) (C _ _ ⟨rfl,by rw[zJ O];rfl⟩)
 ·by_cases h3:size>16384
  ·rw[zI h3,zJ O];rfl
  ·rw[zJ h3,zI O];rfl
def KT (sp:Sp)(x:Int):Int:=if fG sp x=0 then sp.wd (x.toNat/8)else 0
def Vw (sp:Sp)(to fr:Int)(n:Nat):Sp:=(List.range n).foldl (λs (i:Nat)=>KZ s (to+(i:Int)*8) (KT sp (fr+(i:Int)*8))) sp
theorem C0 (x:Int)(h0:0<=x)(h1:x<=1000000000000){R:aN}(hR:R (x/8) U):ZA.c x U R:=by
 refine ZA.o ?_;unfold ZA.v;refine nz aB (ar (by rw[Xq O];omega) (by rw[Xq O];omega) ?_);rw[Xq h0];exact hR
theorem KN (h:HH U F L H)(x:Int)(hx:x<=9223372036854775807){R:Int->Int->Hp->Prop}(hR:∀σ',aG U σ'->R (KT H.sp x) (fG H.sp x) σ'):WT.c (aW L.p) x U R:=Wlg h x hx hR
theorem Ir (h:HH U F L H)(gc:Gc U)(to fr:Int)(n:Nat)(ht0 : -1000000000000<=to)(ht:to<=500000000000)(hf0 : -1000000000000<=fr)(hf:fr<=500000000000)(hn:n<=1000000){R:aP}
 (hR:∀σ',Ext F U σ'->HH σ' (Grow F U) L {H with sp:=Vw H.sp to fr n}->R σ'):Z3.c (aW L.p) to fr (n:Int) U R:=by
 refine Z3.o ?_;unfold Z3.v;refine mk (n:=n) O O λv C e u=>?_;have K1:=(HK.start h).box e C;refine Zw (a:=bN) (λ(z:Int) w=>∃(i:Nat) (cs:List Value),z=(i:Int)/\i<=n/\HK F U (λb=>False\/b=U.size) w (Cut F U) L H/\bY w U.size cs/\cs.length=n/\∀j,j<i->cs[j]?=some (.int .i64 (KT H.sp (fr+(j:Int)*8)))) (λz _=>n-z.toNat) ⟨0,_,rfl,O,K1,u,by simp,λj A=>O⟩ ?_;rintro(z:Int) w ⟨i,cs,rfl,hi,K,hbw,hcl,hrd⟩;refine cL (λr=>?_) λg=>?_
 ·refine ar O O (ar O O (KN K.h _ O λw1 e1=>?_));have K1:=K.fr e1;refine ix O aC ?_;rw[add_lit,show 0+(i:Int).toNat*1=i by omega];refine(e1.bX hbw id).s0 O λw2 o2 y=>?_;refine cC (m:=i+1) O O ⟨⟨i+1,_,rfl,O,K1.own o2 (.inr rfl),y,by simp[hcl],λj A=>?_⟩,O⟩;by_cases d:j=i
  ·subst d;rw[zK O]
  ·rw[zd O];exact hrd j O
 ·have x:i=n:=by omega
  subst x;refine Zw (a:=bN) (λ(z:Int) w=>∃(j:Nat) (P:Rg),z=(j:Int)/\j<=i/\HK F U (λb=>False\/b=U.size) w P L {H with sp:=Vw H.sp to fr j}/\bY w U.size cs) (λz _=>i-z.toNat) ⟨0,_,rfl,O,K,hbw⟩ ?_;rintro(z:Int) w ⟨j,P,rfl,A,K,hbw⟩;refine cL (λr=>?_) λg=>?_
  ·simp only at r;refine ix O aC ?_;rw[add_lit,show 0+(j:Int).toNat*1=j by omega];refine hbw.sM (hrd j O) (ar O O (ar O O (Gu K.h (gc.bV K.e h.o2) _ _ O λw1 e1 B=>?_)));have K1:=K.to e1 B λb _ u=>u;have s:KZ (Vw H.sp to fr j) (to+(j:Int)*8) (KT H.sp (fr+(j:Int)*8))=Vw H.sp to fr (j+1):=by
    unfold Vw;rw[kI,lb];rfl
   simp only[s]at K1;exact cC (m:=j+1) O O ⟨⟨j+1,_,rfl,O,K1,K.cX e1 hbw (.inr rfl)⟩,O⟩
  ·have d:j=i:=by simp only at g;omega
   subst d;exact hR w K.e (K.fin h)
end Go.Ar
namespace Go.Ar
open Go Go.Vc Go.Proofs
variable {U u w w':Hp}{F B P Q:Rg}{L:dS}{H H':Hw}{t n:Nat}{g:Th}
def QL (H:Hw)(x:Int):Option Int:=(cB H.live x).map λb=>b.2.1
inductive jT (H:Hw) (thread addr size:Int):Hw->Int->Int->Prop
 | notReady:QO H thread≠0->jT H thread addr size H 0 (QO H thread)
 | bad:QO H thread=0->size<0\/16384<size->jT H thread addr size H 0 1
 | none:QO H thread=0->addr=0->size=0->jT H thread addr size H 0 0
 | first {H':Hw} {a e:Int}:QO H thread=0->addr=0->0<size->size<=16384->VP H thread 0 size 8 0 H' a e->jT H thread addr size H' a e
 | B9:QO H thread=0->addr≠0->0<=size->size<=16384->QL H addr=Option.none->jT H thread addr size H 0 8
 | free {H':Hw} {a e u:Int}:QO H thread=0->addr≠0->size=0->QL H addr=some u->VP H thread 1 0 0 addr H' a e->jT H thread addr size H' 0 e
 | same {u:Int}:QO H thread=0->addr≠0->0<size->size<=16384->QL H addr=some u->size<=u/\u<=2*(UT H.tb size 8).1->jT H thread addr size H addr 0
 | full {H':Hw} {a e u:Int}:QO H thread=0->addr≠0->0<size->size<=16384->QL H addr=some u->¬(size<=u/\u<=2*(UT H.tb size 8).1)->VP H thread 0 size 8 0 H' a e->e≠0->jT H thread addr size H' 0 e
 | dT {H1 H3:Hw} {a u u2 a3 e3:Int}:QO H thread=0->addr≠0->0<size->size<=16384->QL H addr=some u->¬(size<=u/\u<=2*(UT H.tb size 8).1)->VP H thread 0 size 8 0 H1 a 0->QL H1 a=some u2->0<=u->0<=u2->(0<=a/\a<=500000000000/\0<=addr/\addr<=500000000000/\u<=1000000/\u2<=1000000) →
  VP {H1 with sp:=Vw H1.sp a addr ((min u2 u).toNat/8)} thread 1 0 0 addr H3 a3 e3->jT H thread addr size H3 a 0
theorem BQ {tb:List cD}{size align:Int}{k:Nat}(h:iC tb size align=some k):k<tb.length:=(BR.1 h).1
theorem CX {tb:List cD}(hv:kZ tb)(size align:Int)(h:size<=16384):0<=(UT tb size align).1/\(UT tb size align).1<=100000:=by
 unfold UT;split
 ·rename_i hok;have b:=hok.2;simp only[VA,zF,zU]at b;split
  ·rename_i k hk;have a:=BQ hk;have e:tb[k]?=some tb[k]:=cQ a;have d:tb.getD k ⟨8,1,1⟩=tb[k]:=by rw[zM,e];rfl
   rw[d];have g:(tb.map kE)[k]?=some (kE tb[k]):=by simp[e]
   have:=((Qr _).1 hv).2.2.1 k _ g;rw[UQ]at this;simp only[kE]at this;omega
  ·unfold uS;simp only;omega
 ·simp
theorem KD (h:HH U F L H)(x:Int){R:Int->Int->Hp->Prop}(hR:∀σ',aG U σ'->R ((QL H x).getD 0) (if(QL H x).isSome then 0 else 8) σ'):Xx.c (aW L.p) x U R:=by
 refine Lx h x λσ' e=>?_;have:=hR σ' e;unfold QL at this;cases hm:cB H.live x with
 | none=>rw[hm]at this;exact this
 | some b=>rw[hm]at this;exact this
theorem Cx (hso:HQ)(h:HH U F L H)(gc:Gc U)(hc:im H){thread addr size a e:Int}(hr:jT H thread addr size H' a e)(hu:∀b,QL H addr=some b->0<=b/\b<=1000000000){R:Int->Int->Hp->Prop}
 (hR:∀σ' ts',Ext F U σ'->HH σ' (Grow F U) {L with ts:=ts'} H'->R a e σ'):Ze.c (aW L.p) thread addr size U R:=by
 refine Ze.o ?_;unfold Ze.v;refine nw (cs:=[.int .i64 thread]) λv hz e0 i=>?_;have K1:=(HK.start h).box e0 hz;refine Ij K1.h hc i (λhf=>by have:=hf.2;omega) λV e1=>?_;have K2:=K1.fr e1;have same:∀{w:Hp} {P B:Rg},HK F U B w P L H->H'=H->R a e w:=λK he=>hR _ L.ts K.e (by rw[he];exact K.fin h);have S:QO H thread=0->∀{J:aO},J (decide (size<0\/16384<size)) V->(If (QO H thread != 0) (R 0 (QO H thread) V) (If (decide (size<0)) (J true V) (J (decide (size>16384)) V))):=λd J y=>by
  refine bZ (by rw[d];rfl) (cL (λm=>?_) λm=>?_)
  ·rw[zI (by omega:size<0\/16384<size)]at y;exact y
  ·by_cases z:size>16384
   ·rw[zI z];rw[zI (by omega:size<0\/16384<size)]at y;exact y
   ·rw[zJ z];rw[zJ O]at y;exact y
 cases hr with
 | notReady d=>exact cJ (by simpa using d) (same K2 rfl)
 | bad d hs=>
  refine bZ (by rw[d];rfl) (bW.intro ?_);have:=S d (J:=λr w=>If r (R 0 1 w) True) (by rw[zI hs];exact same K2 rfl);refine cL (λm=>cJ rfl (same K2 rfl)) λm=>jt O (same K2 rfl)
 | none d ha hs=>
  subst ha;subst hs;exact bZ (by rw[d];rfl) (bW.intro (dR O (dR O (cJ rfl (cJ rfl (same K2 rfl))))))
 | first d ha hs1 hs2 j=>
  subst ha;refine bZ (by rw[d];rfl) (bW.intro (dR O (dR O (cJ rfl (bZ (by simp only[kR];omega) ?_)))));refine VC hso K2.h hc.2.2 j λv3 ts3 e3 h3=>?_;have K3:=K2.to e3 h3 λb _ i=>i;exact hR v3 ts3 K3.e (K3.fin h)
 | B9 d ha hs1 hs2 hn=>
  refine bZ (by rw[d];rfl) (bW.intro (dR O (dR O (bZ (by simpa using ha) ?_))));refine KD K2.h addr λW s=>?_;rw[hn];exact cJ rfl (same (K2.fr s) rfl)
 | free d ha hs hn j=>
  subst hs;refine bZ (by rw[d];rfl) (bW.intro (dR O (dR O (bZ (by simpa using ha) ?_))));refine KD K2.h addr λW s=>?_;rw[hn];have K4:=K2.fr s;refine bZ rfl (cJ rfl (BC hso K4.h hc.2.2 j λv5 Y e5 h5=>?_));have K5:=K4.to e5 h5 λb _ i=>i;exact hR v5 Y K5.e (K5.fin h)
 | @same u d ha hs1 hs2 hn hg=>
  have N:=hu _ hn;have A:=CX hc.2.2 size 8 hs2;refine bZ (by rw[d];rfl) (bW.intro (dR O (dR O (bZ (by simpa using ha) ?_))));refine KD K2.h addr λW s=>?_;rw[hn];have K4:=K2.fr s;refine bZ rfl (bZ (by simp only[kR];omega) (ym K4.h hc size 8 λD E=>?_));have K6:=K4.fr E;refine Ko (λr w=>w=D/\r=true) (λr w ⟨j,hr⟩=>by subst j;exact cJ hr (same K6 rfl)) λJ1 g=>jt hg.1 (ar O O (g _ _ ⟨rfl,zI hg.2⟩))
 | @full H' a' e' u d ha hs1 hs2 hn hg j hne=>
  have N:=hu _ hn;have A:=CX hc.2.2 size 8 hs2;refine bZ (by rw[d];rfl) (bW.intro (dR O (dR O (bZ (by simpa using ha) ?_))));refine KD K2.h addr λW s=>?_;rw[hn];have K4:=K2.fr s;refine bZ rfl (bZ (by simp only[kR];omega) (ym K4.h hc size 8 λD E=>?_));have K6:=K4.fr E;refine Ko (λr w=>w=D/\r=false) (λr w ⟨x,hr⟩=>?_) λJ1 g=>cL (λm=>ar O O (g _ _ ⟨rfl,zJ λz=>hg ⟨m,z⟩⟩)) λm=>g _ _ ⟨rfl,rfl⟩;subst x;refine bZ hr (VC hso K6.h hc.2.2 j λv8 G e8 h8=>?_);have K8:=K6.to e8 h8 λb _ i=>i;exact cJ (by simpa using hne) (hR v8 G K8.e (K8.fin h))
 | @dT H1 H3 a' u u2 a3 e3' d ha hs1 hs2 hn hg j hn2 hu0 hu2 hbd hw3=>
  have N:=hu _ hn;have A:=CX hc.2.2 size 8 hs2;refine bZ (by rw[d];rfl) (bW.intro (dR O (dR O (bZ (by simpa using ha) ?_))));refine KD K2.h addr λW s=>?_;rw[hn];have K4:=K2.fr s;refine bZ rfl (bZ (by simp only[kR];omega) (ym K4.h hc size 8 λD E=>?_));have K6:=K4.fr E;refine Ko (λr w=>w=D/\r=false) (λr w ⟨x,hr⟩=>?_) λJ1 g=>cL (λm=>ar O O (g _ _ ⟨rfl,zJ λz=>hg ⟨m,z⟩⟩)) λm=>g _ _ ⟨rfl,rfl⟩;subst x;refine bZ hr (VC hso K6.h hc.2.2 j λv8 G e8 h8=>?_);have K8:=K6.to e8 h8 λb _ i=>i;refine bZ rfl (KD K8.h a λv9 e9=>?_);have K9:=K8.fr e9;rw[hn2];simp only[oZ];have C:(if u2<u then u2 else u)=min u2 u:=by omega
  rw[C];refine C0 _ O O ?_;have M:(min u2 u)/8=(((min u2 u).toNat/8:Nat):Int):=by omega
  rw[M];refine Ir K9.h (gc.bV K9.e h.o2) a addr _ O O O O O λv11 aa Z=>?_;have K11:=K9.to aa Z λb _ i=>i;have hk1:=Up j;refine BC hso K11.h (by show kZ H1.tb;rw[hk1.1];exact hc.2.2) hw3 λX Q e12 h12=>?_;have K12:=K11.to e12 h12 λb _ i=>i;exact hR X Q K12.e (K12.fin h)
end Go.Ar
namespace Go.Ar
open Go.Vc (cB dO dK)
variable {H H':Hw}{held:List Pc}{s0:Sp}{t k j:Nat}{g:Th}{A:AR}{c:cD}
theorem Vo (f:Th->Th)(hj:j≠t):(H.eC t f).bQ[j]?=H.bQ[j]? := by
 simp[Hw.eC,tB,Ne.symm hj]
theorem Sn (x:Int)(hj:j≠t):(iJ H t k x).bQ[j]?=H.bQ[j]? := by
 unfold iJ Kl;simp only;split<;>split<;>simp only[Vo _ hj]
theorem Tf (p:Ph)(hj:j≠t):(Wv H t p).1.bQ[j]?=H.bQ[j]? := by
 cases p with
 | take k=>simp only[Wv];split<;>simp only[Ub,Vo _ hj]
 | cN k w=>
  simp only[Wv];split
  ·split
   ·unfold Kl;rw[Vo _ hj];rfl
   ·rfl
  ·rfl
 | cP k w=>
  simp only[Wv];split
  ·rfl
  ·unfold Kl;rw[Vo _ hj];rfl
 | grow k w=>simp only[Wv];split<;>rfl
 | fill=>simp only[Wv];split<;>simp only[Ub,Vo _ hj]
 | eN m=>simp only[Wv];split<;>rfl
 | find x=>
  simp only[Wv,HL];split
  ·rfl
  ·split
   ·rfl
   ·unfold Kl;rw[Vo _ hj]
 | put k x=>exact Sn x hj
 | back=>
  simp only[Wv];split
  ·rw[Cu,Vo _ hj]
  ·rfl
 | dG s a=>simp only[Wv];split<;>rfl
 | drain=>simp only[Wv,Vo _ hj]
theorem U0 (p:Ph)(hj:j≠t):(Q6 H t p).bQ[j]?=H.bQ[j]? := by
 unfold Q6 eO;rw[Vo _ hj,Tf p hj]
def fX (H:Hw)(j:Nat):Option Ph:=(H.bQ[j]?).bind (·.ph)
def vZ (H H':Hw)(t:Nat):Prop:=fX H' t=none/\∀j,j≠t->fX H' j=fX H j
theorem Ay (h:HI H held s0)(hg:H.bQ[t]?=some g){p:Ph}(hp:g.ph=some p)(hf:¬la p):∃cl sz,Rq H.tb g p cl sz:=by
 have b:=(h.th g (h.mem hg)).ph;unfold iE at b;rw[hp]at b;cases p with
 | take k=>obtain⟨c,d,_⟩:=h.cls b.2;exact⟨_,_,rfl,c,d,rfl⟩
 | cN k w=>obtain⟨c,d,_⟩:=h.cls b.2.1;exact⟨_,_,rfl,c,d,rfl⟩
 | cP k w=>obtain⟨c,d,_⟩:=h.cls b.2.1;exact⟨_,_,rfl,c,d,rfl⟩
 | grow k w=>obtain⟨c,d,_⟩:=h.cls b.2.1;exact⟨_,_,rfl,c,d,rfl⟩
 | fill=>
  obtain⟨k,x,j,e,i,_⟩:=b;obtain⟨c,d,_⟩:=h.cls i;exact⟨_,_,k,_,[],c,e,rfl,d,rfl⟩
 | eN m=>exact⟨_,_,rfl,rfl⟩
 | find x=>exact(hf trivial).elim
 | put k x=>exact(hf trivial).elim
 | back=>exact(hf trivial).elim
 | dG s a=>exact(hf trivial).elim
 | drain=>exact(hf trivial).elim
theorem qV (h:HI H held s0)(hg:H.bQ[t]?=some g){p:Ph}(hp:g.ph=some p){cl sz:Int}(hr:Rq H.tb g p cl sz):iQ H t p/\ua H t p cl sz:=by
 cases p with
 | take k=>exact Wni h hg hp hr
 | cN k w=>exact To h hg hp hr
 | cP k w=>exact Mr h hg hp hr
 | grow k w=>exact Ms h hg hp hr
 | fill=>exact Nr h hg hp hr
 | eN m=>exact Δ h hg hp hr
 | find x=>exact hr.elim
 | put k x=>exact hr.elim
 | back=>exact hr.elim
 | dG s a=>exact hr.elim
 | drain=>exact hr.elim
theorem rl (h:HI H held s0)(hg:H.bQ[t]?=some g){p:Ph}(hp:g.ph=some p)(hf:la p):iQ H t p/\oH H t g p:=by
 cases p with
 | take k=>exact hf.elim
 | cN k w=>exact hf.elim
 | cP k w=>exact hf.elim
 | grow k w=>exact hf.elim
 | fill=>exact hf.elim
 | eN m=>exact hf.elim
 | find x=>exact Mu h hg hp
 | put k x=>exact Sq h hg hp
 | back=>exact S4 h hg hp
 | dG s a=>exact SX h hg hp
 | drain=>exact Tr h hg hp
open Classical in
theorem HI.JE (h:HI H held s0)(hg:H.bQ[t]?=some g){p:Ph}(hp:g.ph=some p):iQ H t p:=by
 by_cases hf:la p
 ·exact(rl h hg hp hf).1
 ·obtain⟨cl,b,a⟩:=Ay h hg hp hf;exact(qV h hg hp a).1
theorem Gy {p:Ph}(ht:t<H.bQ.length):∃g',(Q6 H t p).bQ[t]?=some g'/\g'.ph=(Wv H t p).2.1:=J5 ht
theorem JG {cl sz:Int}:∀(n:Nat) {H:Hw} {held:List Pc} {s0:Sp} {g:Th} {p:Ph},HI H held s0->H.bQ[t]?=some g->g.ph=some p->Rq H.tb g p cl sz->pn H t p<=n →
 ∃m H' a e,jP m H t p H' a e/\(∃held s0,HI H' held s0)/\KS H.sp H'.sp/\vZ H H' t/\((e≠0/\a=0/\H'.live=H.live)\/(e=0/\cB H.live a=none/\H'.live=dO H.live a (a,sz,cl,Ye H'.bT a)))
 | n,H,held,s0,g,p,h,hg,hp,hr,hn=>by
  have ht:=(cV.1 hg).1;obtain⟨s,E⟩:=qV h hg hp hr;have b:(Wv H t p).2.1=none->vZ H (Q6 H t p) t:=λG=>by
   obtain⟨B,y,w⟩:=Gy (p:=p) ht;exact⟨by unfold fX;rw[y];exact w.trans G,λj u=>by unfold fX;rw[U0 p u]⟩
  rcases E with⟨p',B,e1,e2,e3,e4,e5⟩|⟨e1,e2,e3,e4⟩|⟨e1,e2,e3,e4⟩
  ·obtain⟨x,D,C⟩:=s.hi;obtain⟨J,i,kJ⟩:=Gy (p:=p) ht;rw[e3]at i;cases i;have z:(Q6 H t p).tb=H.tb:=(Ho H t p).1;have F:pn (Q6 H t p) t p'<n:=by omega
   obtain⟨m,H',a,e,r,hi,ks,A,d⟩:=JG (pn (Q6 H t p) t p') C e3 (kJ.trans e1) (by rw[z];exact e4) (zC _);refine⟨m+1,H',a,e,.next s.ok e1 r,hi,s.ks.trans ks,⟨A.1,λj u=>(A.2 j u).trans (by unfold fX;rw[U0 p u])⟩,?_⟩;rw[e2]at d;exact d
  ·exact⟨1,_,_,_,.done s.ok e1,s.hi,s.ks,b e1,.inl ⟨e2,e3,e4⟩⟩
  ·exact⟨1,_,_,_,.done s.ok e1,s.hi,s.ks,b e1,.inr ⟨e2,e3,e4⟩⟩
termination_by n=>n
theorem IB:∀(n:Nat) {H:Hw} {held:List Pc} {s0:Sp} {g:Th} {p:Ph},HI H held s0->H.bQ[t]?=some g->g.ph=some p->la p->qs g p<=n →
 ∃m H' e,jP m H t p H' 0 e/\(∃held s0,HI H' held s0)/\KS H.sp H'.sp/\vZ H H' t/\((∀x,p≠.find x)->e=0/\H'.live=H.live) ∧
  (∀x,p=.find x->(cB H.live x=none->e≠0/\H'.live=H.live)/\(∀b,cB H.live x=some b->e=0/\H'.live=dK H.live x))
 | n,H,held,s0,g,p,h,hg,hp,hf,hn=>by
  have ht:=(cV.1 hg).1;obtain⟨s,Q,L,J,a⟩:=rl h hg hp hf;rcases L with⟨p',w,e1,e2,e3,e4,e5⟩|e1
  ·obtain⟨A,M,K⟩:=s.hi;obtain⟨R,i,kJ⟩:=Gy (p:=p) ht;rw[e4]at i;cases i;have N:qs w p'<n:=by omega
   obtain⟨m,H',e,r,hi,ks,G,B,_⟩:=IB (qs w p') K e4 (kJ.trans e1) e2 (zC _);obtain⟨F,E⟩:=B e3;refine⟨m+1,H',e,.next s.ok e1 r,hi,s.ks.trans ks,⟨G.1,λj u=>(G.2 j u).trans (by unfold fX;rw[U0 p u])⟩,λd=>⟨F,E.trans (J d).2⟩,λx d=>⟨λC=>?_,λb P=>⟨F,E.trans ((a x d).2 b P).2⟩⟩⟩;have:=((a x d).1 C).1;rw[e1]at this;cases this
  ·have y:vZ H (Q6 H t p) t:=by
    obtain⟨w,D,z⟩:=Gy (p:=p) ht;exact⟨by unfold fX;rw[D];exact z.trans e1,λj u=>by unfold fX;rw[U0 p u]⟩
   have r:=jP.done (H:=H) (t:=t) s.ok e1;rw[Q]at r;exact⟨1,_,_,r,s.hi,s.ks,y,J,λx d=>⟨λC=>((a x d).1 C).2,(a x d).2⟩⟩
termination_by n=>n
structure iG (H H':Hw):Prop where
 hi:∃held s0,HI H' held s0
 ks:KS H.sp H'.sp
 kp:QF H' H
 ph:∀j,fX H' j=fX H j
theorem iG.refl (h:HI H held s0):iG H H:=⟨⟨held,s0,h⟩,KS.refl _,QF.refl _,λ_=>rfl⟩
theorem iG.trans {H1 H2 H3:Hw}(a:iG H1 H2)(b:iG H2 H3):iG H1 H3:=⟨b.hi,a.ks.trans b.ks,a.kp.trans b.kp,λj=>(b.ph j).trans (a.ph j)⟩
theorem yY {tb:List cD}{kind size align addr:Int}{p:Ph}(h:iL tb kind size align addr=some p)(hx:iz addr)(hh:g.bP=[]):iE tb.length {g with ph:=some p}:=by
 unfold iL at h;split at h
 ·split at h
  ·split at h
   ·split at h
    ·rename_i k hk;cases h;exact⟨hh,BQ hk⟩
    ·cases h;exact⟨hh,O,O⟩
   ·cases h
  ·cases h
 ·split at h
  ·cases h;exact⟨hh,hx⟩
  ·split at h
   ·cases h;exact hh
   ·cases h
theorem HI.eO (h:HI H held s0)(hg:H.bQ[t]?=some g)(hn:g.ph=none){p:Ph}(hp:iE H.tb.length {g with ph:=some p})(hq:∀s a,p≠.dG s a):HI (eO H t (some p)) held s0:=by
 have b:=h.th g (h.mem hg);have e:Go.Ar.eO H t (some p) = {H with bQ:=H.bQ.set t {g with ph:=some p}}:=ZQ hg _;rw[e];refine h.kY hg (live':=H.live) (λi x=>?_) h.lk (λj d=>.inl d) (λs a hp=>by cases hp;exact(hq s a rfl).elim) ⟨b.ll,b.lo,b.hb,b.hl,hp⟩;unfold ib;rw[hn];have:j5 (some p) i x=0:=by
  cases p<;>first|rfl|exact(hq _ _ rfl).elim
 simp only[this];simp only[j5]
theorem Hs (h:HI H held s0)(hg:H.bQ[t]?=some g)(hn:g.ph=none):g.bP=[]:=by
 have:=(h.th g (h.mem hg)).ph;unfold iE at this;rw[hn]at this;exact this
theorem VX (H:Hw)(thread kind size align addr:Int):(∃e,Va H thread kind size align addr=.inl e/\e≠0)\/∃(t:Nat) (p:Ph) (g:Th),thread=(t:Int)/\H.bQ[t]?=some g/\g.ph=none/\iL H.tb kind size align addr=some p/\Va H thread kind size align addr=.inr (t,p):=by
 unfold Va;split
 ·split
  ·split
   ·split
    ·rename_i hth _ g hg hn _ p hp;exact .inr ⟨thread.toNat,p,g,O,hg,hn,hp,rfl⟩
    ·exact .inl ⟨1,rfl,by decide⟩
   ·exact .inl ⟨5,rfl,by decide⟩
  ·exact .inl ⟨1,rfl,by decide⟩
 ·exact .inl ⟨1,rfl,by decide⟩
theorem Ef (hg:H.bQ[t]?=some g)(p:Option Ph)(hj:j≠t):fX (eO H t p) j=fX H j:=by
 unfold fX eO;rw[Vo _ hj]
theorem Ft (hg:H.bQ[t]?=some g)(hn:g.ph=none){p:Ph}(ps:vZ (eO H t (some p)) H' t):∀j,fX H' j=fX H j:=λj=>by
 by_cases hj:j=t
 ·subst hj;rw[ps.1];unfold fX;rw[hg];exact hn.symm
 ·rw[ps.2 j hj,Ef hg _ hj]
def vK (H:Hw)(size align:Int)(H':Hw)(a e:Int):Prop:=(e≠0/\a=0/\H'.live=H.live) ∨
 (e=0/\cB H.live a=none/\(1<=size/\size<=16384/\VA size align=true)/\∃cl,H'.live=dO H.live a (a,(UT H.tb size align).1,cl,Ye H'.bT a)/\((∃k:Nat,cl=k/\iC H.tb size align=some k)\/cl = -1/\iC H.tb size align=none))
theorem SB (h:HI H held s0)(thread size align:Int):∃H' a e,VP H thread 0 size align 0 H' a e/\iG H H'/\vK H size align H' a e:=by
 rcases VX H thread 0 size align 0 with⟨e,hs,hne⟩|⟨t,p,g,rfl,hg,hn,hq,hs⟩
 ·exact⟨H,0,e,.inl ⟨hs,hne,rfl,rfl⟩,iG.refl h,.inl ⟨hne,rfl,rfl⟩⟩
 ·have C:=Hs h hg hn;have w:=yY (g:=g) hq (by unfold iz;decide) C;unfold iL at hq;rw[zB rfl]at hq;split at hq
  ·rename_i ir;split at hq
   ·rename_i hok;have b:UT H.tb size align=(match iC H.tb size align with
     | some k=>((H.tb.getD k ⟨8,1,1⟩).size:Int)
     | none=>uS size,0):=by
     unfold UT;rw[zB ⟨ir.2,hok⟩]
     first|done | (cases iC H.tb size align<;>rfl)
    obtain⟨cl,d,y⟩:∃cl,Rq H.tb {g with ph:=some p} p cl (UT H.tb size align).1/\((∃k:Nat,cl=k/\iC H.tb size align=some k)\/cl = -1/\iC H.tb size align=none):=by
     cases hcv:iC H.tb size align with
     | some k=>
      rw[hcv]at hq b;cases hq;have i:=BQ hcv;have z:H.tb[k]?=some H.tb[k]:=cQ i;refine⟨k,⟨rfl,H.tb[k],z,?_⟩,.inl ⟨k,rfl,rfl⟩⟩;rw[b];simp only;rw[zM,z];rfl
     | none=>
      rw[hcv]at hq b;cases hq;refine⟨-1,⟨rfl,?_⟩,.inr ⟨rfl,rfl⟩⟩;rw[b];simp only;unfold uS;omega
    have x:∀s a,p≠.dG s a:=λs a e=>by subst e;exact d.elim
    have B:=h.eO hg hn w x;have u:(Go.Ar.eO H t (some p)).bQ[t]?=some {g with ph:=some p}:=by
     have E:=(cV.1 hg).1;have e:Go.Ar.eO H t (some p) = {H with bQ:=H.bQ.set t {g with ph:=some p}}:=ZQ hg _;rw[e];simp[E]
    obtain⟨m,H',a,e,r,A,ks,D,j⟩:=JG _ B u rfl d (zC _);refine⟨H',a,e,.inr ⟨t,p,m,hs,r⟩,⟨A,ks,(Ky _ _ _).trans (CA r),Ft hg hn D⟩,?_⟩;rcases j with⟨r1,r2,r3⟩|⟨r1,r2,r3⟩
    ·exact .inl ⟨r1,r2,r3⟩
    ·exact .inr ⟨r1,r2,⟨ir.1,ir.2,hok⟩,cl,r3,y⟩
   ·cases hq
  ·cases hq
def vE (H:Hw)(thread addr:Int)(H':Hw)(e:Int):Prop:=
 (e≠0/\H'=H/\Va H thread 1 0 0 addr=.inl e)\/((∃p,Va H thread 1 0 0 addr=.inr p)/\cB H.live addr=none/\e≠0/\H'.live=H.live)\/((∃p,Va H thread 1 0 0 addr=.inr p)/\∃b,cB H.live addr=some b/\e=0/\H'.live=dK H.live addr)
theorem IT (h:HI H held s0)(hg:H.bQ[t]?=some g)(hn:g.ph=none){p:Ph}(hp:iE H.tb.length {g with ph:=some p})(hf:la p)(hq:∀s a,p≠.dG s a):∃m H' e,jP m (eO H t (some p)) t p H' 0 e/\iG H H'/\((∀x,p≠.find x)->e=0/\H'.live=H.live) ∧
 (∀x,p=.find x->(cB H.live x=none->e≠0/\H'.live=H.live)/\(∀b,cB H.live x=some b->e=0/\H'.live=dK H.live x)):=by
 have y:=h.eO hg hn hp hq;have d:(Go.Ar.eO H t (some p)).bQ[t]?=some {g with ph:=some p}:=by
  have w:=(cV.1 hg).1;have e:Go.Ar.eO H t (some p) = {H with bQ:=H.bQ.set t {g with ph:=some p}}:=ZQ hg _;rw[e];simp[w]
 obtain⟨m,H',e,r,j,ks,i,z,u⟩:=IB _ y d rfl hf (zC _);exact⟨m,H',e,r,⟨j,ks,(Ky _ _ _).trans (CA r),Ft hg hn i⟩,z,u⟩
theorem Υ (h:HI H held s0)(thread addr:Int)(hx:iz addr):∃H' e,VP H thread 1 0 0 addr H' 0 e/\iG H H'/\vE H thread addr H' e:=by
 rcases VX H thread 1 0 0 addr with⟨e,hs,hne⟩|⟨t,p,g,rfl,hg,hn,hq,hs⟩
 ·exact⟨H,e,.inl ⟨hs,hne,rfl,rfl⟩,iG.refl h,.inl ⟨hne,rfl,hs⟩⟩
 ·have d:=yY (g:=g) hq hx (Hs h hg hn);have hp:p=.find addr:=by unfold iL at hq;simp at hq;exact hq.symm
  subst hp;obtain⟨m,H',e,r,op,_,i⟩:=IT h hg hn d trivial (λs a e=>by cases e);refine⟨H',e,.inr ⟨t,_,m,hs,r⟩,op,?_⟩;cases hm:cB H.live addr with
  | none=>exact .inr (.inl ⟨⟨_,hs⟩,hm,(i addr rfl).1 hm⟩)
  | some b=>exact .inr (.inr ⟨⟨_,hs⟩,b,hm,(i addr rfl).2 b hm⟩)
theorem LI (h:HI H held s0)(thread:Int):∃H' e,VP H thread 2 0 0 0 H' 0 e/\iG H H'/\H'.live=H.live:=by
 rcases VX H thread 2 0 0 0 with⟨e,hs,hne⟩|⟨t,p,g,rfl,hg,hn,hq,hs⟩
 ·exact⟨H,e,.inl ⟨hs,hne,rfl,rfl⟩,iG.refl h,rfl⟩
 ·have b:=yY (g:=g) hq (by unfold iz;decide) (Hs h hg hn);have hp:p=.drain:=by unfold iL at hq;simp at hq;exact hq.symm
  subst hp;obtain⟨m,H',e,r,op,d,_⟩:=IT h hg hn b trivial (λs a e=>by cases e);exact⟨H',e,.inr ⟨t,_,m,hs,r⟩,op,(d λx e=>by cases e).2⟩
end Go.Ar
namespace Go.Ar
open Go Go.Vc Go.Proofs
variable {U u w w':Hp}{F B P Q:Rg}{L:dS}{H H':Hw}{t n k:Nat}{A:AR}{Y:Lay}
theorem Fr.refl (A:AR):Fr A A:=⟨rfl,rfl,rfl⟩
theorem Fr.trans {A B C:AR}(h:Fr B A)(k:Fr C B):Fr C A:=⟨k.1.trans h.1,k.2.1.trans h.2.1,k.2.2.trans h.2.2⟩
theorem Bv {α:Type}(f:AR×Sp->α->AR×Sp)(hf:∀p x,Fr (f p x).1 p.1):∀(l:List α) (p:AR×Sp),Fr (l.foldl f p).1 p.1
 | [],p=>Fr.refl _
 | x::l,p=>(hf p x).trans (Bv f hf l (f p x))
theorem Je (A:AR)(sp:Sp):Fr (eH A sp).1 A:=Bv VN (λp x=>⟨rfl,rfl,rfl⟩) _ _
theorem MC (A:AR):Fr (YP A) A:=⟨(VW _ A).1,(VW _ A).2.1,(VW _ A).2.2.1⟩
theorem FF (A:AR)(sp:Sp)(want:Int):Fr (dV A sp want).1 A:=by
 unfold dV;split
 ·exact Fr.refl A
 ·exact(MC A).trans (Bv fK (λp x=>⟨rfl,rfl,rfl⟩) _ _)
theorem Tc (h:HH U F L H)(hk:H.bT[k]?=some A)(hy:L.ys[k]?=some Y){R:aN}
 (hR:∀σ',Ext F U σ'->HH σ' (Grow F U) L {H.cG k (eH A H.sp).1 with sp:=(eH A H.sp).2}->R ((ur A:Nat):Int) σ'):Yj.c (aW Y.p) U R:=by
 obtain⟨Y',G,D,a,_,r,d⟩:=h.lQ hk;rw[hy]at a;cases a;refine Ov r λσ' e j=>?_;have i:cA (eH A H.sp).1 Y=cA A Y:=(Je A H.sp).cA Y;obtain⟨e1,m⟩:=d σ' _ _ (Cut G U) (Cut D U) (Je A H.sp).1 e ⟨λb g=>.inl g.1,λb g=>g.1⟩ (by rw[i];exact j);exact hR σ' e1 m
theorem SU (h:HH U F L H)(hk:H.bT[k]?=some A)(hy:L.ys[k]?=some Y)(want:Int)(h12:(V4 (YP A).st).length<=12){R:Int->Int->Hp->Prop}
 (hR:∀σ',Ext F U σ'->HH σ' (Grow F U) L {H.cG k (dV A H.sp want).1 with sp:=(dV A H.sp want).2}->R ((kx A want:Nat):Int) (og want) σ'):Xi.c (aW Y.p) want U R:=by
 obtain⟨Y',G,D,a,_,m,b⟩:=h.lQ hk;rw[hy]at a;cases a;refine RJ m want h12 λσ' G' D' g e i=>?_;have d:cA (dV A H.sp want).1 Y=cA A Y:=(FF A H.sp want).cA Y;obtain⟨e1,j⟩:=b σ' _ _ G' D' (FF A H.sp want).1 e g (by rw[d];exact i);exact hR σ' e1 j
def Q4 (H:Hw)(n:Nat):Hw×Nat:=(List.range n).foldl (λ(p:Hw×Nat) k=>match p.1.bT[k]? with
 | some A=>({p.1.cG k (eH A p.1.sp).1 with sp:=(eH A p.1.sp).2},p.2+ur A)
 | none=>p) (H,0)
theorem HJ (n:Nat):Q4 H (n+1)=(match (Q4 H n).1.bT[n]? with
 | some A=>({(Q4 H n).1.cG n (eH A (Q4 H n).1.sp).1 with sp:=(eH A (Q4 H n).1.sp).2},(Q4 H n).2+ur A)
 | none=>Q4 H n):=by
 unfold Q4;rw[kI,lb];rfl
theorem Tw (H:Hw)(n:Nat):QF (Q4 H n).1 H:=by
 induction n with
 | zero=>exact QF.refl H
 | succ n ih=>
  rw[HJ];split
  ·exact ih.trans (Qw _ _ _ _)
  ·exact ih
theorem Ta (h:HH U F L H)(hb:∀n,n<=H.bT.length->(Q4 H n).2<=1000000){R:aN}(hR:∀σ',Ext F U σ'->HH σ' (Grow F U) L (Q4 H H.bT.length).1->R (((Q4 H H.bT.length).2:Nat):Int) σ'):ZE.c (aW L.p) U R:=by
 refine ZE.o ?_;unfold ZE.v;refine QP h (bZ rfl (bO (h.hd.rS rfl ?_)));have N:=h.jZ;have M:=h.s.a2;refine Vu (a:=bN) (bb:=bN) (λ(x z:Int) w=>∃(j:Nat) (B P:Rg),z=(j:Int)/\x=((Q4 H j).2:Int)/\j<=H.bT.length/\HK F U B w P L (Q4 H j).1) (λ_ z _=>H.bT.length-z.toNat) ⟨0,_,_,rfl,rfl,O,HK.start h⟩ ?_;rintro(x:Int) (z:Int) w ⟨j,B,P,rfl,rfl,hj,K⟩;refine cL (λr=>?_) λC=>?_
 ·simp only at r;have y:j<H.bT.length:=by omega
  obtain⟨A,g⟩:∃A,(Q4 H j).1.bT[j]?=some A:=⟨_,cQ (by rw[(Tw H j).2.2.2];exact y)⟩;obtain⟨Y,D,_,_⟩:=K.h.ar g;have d:=HJ (H:=H) j;rw[g]at d;simp only at d;have J:=hb (j+1) O;refine K.h.rA D (Tc K.h g D λw1 e1 E=>?_);have K1:=K.to e1 E λb _ hb=>hb;have Q:(Q4 H (j+1)).2=(Q4 H j).2+ur A:=by rw[d]
  have G:(Q4 H (j+1)).1 = {(Q4 H j).1.cG j (eH A (Q4 H j).1.sp).1 with sp:=(eH A (Q4 H j).1.sp).2}:=by rw[d]
  rw[←G]at K1;exact cC (m:=(Q4 H (j+1)).2) O O (cC (m:=j+1) O O ⟨⟨j+1,_,_,rfl,rfl,O,K1⟩,O⟩)
 ·have u:j=H.bT.length:=by simp only at C;omega
  subst u;exact hR w K.e (K.fin h)
def U4 (H:Hw)(n:Nat):Hw:=(List.range n).foldl (λ(H:Hw) k=>match H.bT[k]? with
 | some A=>H.cG k (HF A)
 | none=>H) H
theorem HO (n:Nat):U4 H (n+1)=(match (U4 H n).bT[n]? with
 | some A=>(U4 H n).cG n (HF A)
 | none=>U4 H n):=by
 unfold U4;rw[kI,lb];rfl
theorem Rc (H:Hw)(n:Nat):QF (U4 H n) H:=by
 induction n with
 | zero=>exact QF.refl H
 | succ n ih=>
  rw[HO];split
  ·exact ih.trans (Qw _ _ _ _)
  ·exact ih
theorem RA (h:HH U F L H)(hI:∀n A,n<H.bT.length->(U4 H n).bT[n]?=some A->lx A){R:aP}(hR:∀σ',Ext F U σ'->HH σ' (Grow F U) L (U4 H H.bT.length)->R σ'):ZG.c (aW L.p) U R:=by
 refine ZG.o ?_;unfold ZG.v;refine QP h (bZ rfl (bO (h.hd.rS rfl ?_)));have V:=h.jZ;have J:=h.s.a2;refine Zw (a:=bN) (λ(z:Int) w=>∃(j:Nat) (B P:Rg),z=(j:Int)/\j<=H.bT.length/\HK F U B w P L (U4 H j)) (λz _=>H.bT.length-z.toNat) ⟨0,_,_,rfl,O,HK.start h⟩ ?_;rintro(z:Int) w ⟨j,B,P,rfl,hj,K⟩;refine cL (λC=>?_) λy=>?_
 ·simp only at C;have g:j<H.bT.length:=by omega
  obtain⟨A,x⟩:∃A,(U4 H j).bT[j]?=some A:=⟨_,cQ (by rw[(Rc H j).2.2.2];exact g)⟩;obtain⟨Y,E,_,_⟩:=K.h.ar x;have d:=HO (H:=H) j;rw[x]at d;simp only at d;refine K.h.rA E ?_;obtain⟨G,W,S,u⟩:=K.h.lL x E;have r:=hI j A g x;refine TF S r λw1 e1 M=>?_;obtain⟨e2,Q⟩:=u w1 (HF A) (I5 _ A r).1 e1 M;have K1:=K.to e2 Q λb _ N=>N;rw[←d]at K1;exact cC (m:=j+1) O O ⟨⟨j+1,_,_,rfl,O,K1⟩,O⟩
 ·have D:j=H.bT.length:=by simp only at y;omega
  subst D;exact hR w K.e (K.fin h)
def QX (H:Hw)(want:Int)(n:Nat):Hw×Nat:=(List.range n).foldl (λ(p:Hw×Nat) k=>if want<=(p.2:Int)then p else match p.1.bT[k]? with
 | some A=>({p.1.cG k (dV A p.1.sp (want-p.2)).1 with sp:=(dV A p.1.sp (want-p.2)).2},p.2+kx A (want-p.2))
 | none=>p) (H,0)
theorem Hh (want:Int)(n:Nat):QX H want (n+1)=(if want<=((QX H want n).2:Int)then QX H want n else match (QX H want n).1.bT[n]? with
 | some A=>({(QX H want n).1.cG n (dV A (QX H want n).1.sp (want-(QX H want n).2)).1 with sp:=(dV A (QX H want n).1.sp (want-(QX H want n).2)).2},(QX H want n).2+kx A (want-(QX H want n).2))
 | none=>QX H want n):=by
 unfold QX;rw[kI,lb];rfl
theorem E6 {want:Int}{j:Nat}(h:want<=((QX H want j).2:Int)):∀n,j<=n->QX H want n=QX H want j
 | 0,hn=>by rw[show j=0 by omega]
 | n+1,hn=>by
  by_cases e:j=n+1
  ·rw[e]
  ·have ih:=E6 h n O;rw[Hh,ih,zB h]
theorem RY (H:Hw)(want:Int)(n:Nat):QF (QX H want n).1 H:=by
 induction n with
 | zero=>exact QF.refl H
 | succ n ih=>
  rw[Hh];split
  ·exact ih
  ·split
   ·exact ih.trans (Qw _ _ _ _)
   ·exact ih
theorem Ru (h:HH U F L H)(want:Int)(hw9:want<=9223372036854775807)(h12:∀n A,n<H.bT.length->(QX H want n).1.bT[n]?=some A->(V4 (YP A).st).length<=12)(hb:∀n,n<=H.bT.length->(QX H want n).2<=1000000){R:Int->Int->Hp->Prop}
 (h1:want<0->R 0 1 U) (hR:0<=want->∀σ',Ext F U σ'->HH σ' (Grow F U) L (QX H want H.bT.length).1->R (((QX H want H.bT.length).2:Nat):Int) 0 σ'):YD.c (aW L.p) want U R:=by
 refine YD.o ?_;unfold YD.v;refine QP h (bZ rfl (cL (λG=>h1 G) λG=>bO (h.hd.rS rfl ?_)));have hR:=hR O;have S:=h.jZ;have N:=h.s.a2;refine Vu (a:=bN) (bb:=bN) (λ(x z:Int) w=>∃(j:Nat) (B P:Rg),z=(j:Int)/\x=((QX H want j).2:Int)/\j<=H.bT.length/\HK F U B w P L (QX H want j).1) (λ_ z _=>H.bT.length-z.toNat) ⟨0,_,_,rfl,rfl,O,HK.start h⟩ ?_;rintro(x:Int) (z:Int) w ⟨j,B,P,rfl,rfl,hj,K⟩;refine cL (λy=>?_) λD=>?_
 ·simp only at y;have g:j<H.bT.length:=by omega
  obtain⟨A,r⟩:∃A,(QX H want j).1.bT[j]?=some A:=⟨_,cQ (by rw[(RY H want j).2.2.2];exact g)⟩;obtain⟨Y,E,_,_⟩:=K.h.ar r;have Q:=hb j hj;have M:=hb (j+1) O;refine K.h.rA E (cL (λu=>?_) λu=>?_)
  ·rw[E6 O H.bT.length hj]at hR;exact hR w K.e (K.fin h)
  ·have d:=Hh (H:=H) want j;rw[zA O,r]at d;simp only at d;refine ar O O (SU K.h r E _ (h12 j A g r) λw1 e1 h1=>?_);have K1:=K.to e1 h1 λb _ hb=>hb;have V:(QX H want (j+1)).2=(QX H want j).2+kx A (want-(QX H want j).2):=by rw[d]
   have J:(QX H want (j+1)).1 = {(QX H want j).1.cG j (dV A (QX H want j).1.sp (want-(QX H want j).2)).1 with sp:=(dV A (QX H want j).1.sp (want-(QX H want j).2)).2}:=by rw[d]
   rw[←J]at K1;exact cC (m:=(QX H want (j+1)).2) O O (cC (m:=j+1) O O ⟨⟨j+1,_,_,rfl,rfl,O,K1⟩,O⟩)
 ·have C:j=H.bT.length:=by simp only at D;omega
  subst C;exact hR w K.e (K.fin h)
end Go.Ar
namespace Go.Ar
variable {A:AR}
theorem RO (h:GA A)(hn:A.n<=208)(hlow:∀p,p<16->A.f p=0):(V4 (YP A).st).length<=12:=by
 obtain⟨o,_,_⟩:=UY h;have a:(YP A).st.length=A.n:=by rw[o.ga.pg.len,o.kp.n]
 have b:∀p,p<16->(YP A).f p=0:=λp hp=>(o.kp.z p).2 (hlow p hp);have g:=h.pg.n1;unfold V4;rw[a];have e:List.range (A.n/16)=0::(List.range (A.n/16-1)).map Nat.succ:=by
  rw[←Cs];congr 1;omega
 rw[e,sK];have d:gB (YP A).st (16*0) (16*0+16) 2=0:=(H7 O (by rw[a];omega)).2 λp i j e2=>by
  have:=b p O;unfold AR.f at this;omega
 rw[d];have:¬(decide (0<0)=true):=by simp
 rw[zA this];refine zP (ny _ _) ?_;rw[zi,rm];omega
def rz (tb:List cD)(n room m:Nat):Wd:=⟨tb,VT n,List.replicate m (fI n room tb),[]⟩
theorem Wn2 {n room:Nat}{tb:List cD}(h1:32<=n)(h2:n<=1024)(h3:n%16=0)(h6:tb.length<=40)(h7:∀c∈tb,c.ok):GA (fI n room tb)/\∀p,(fI n room tb).f p=0:=by
 have g:∀p,(fI n room tb).f p=0:=λp=>by
  show(List.replicate n 0).getD p 0=0;rw[zM,mD];split<;>rfl
 have a:∀{k:Nat} {i:List cM},(List.replicate tb.length ([]:List cM))[k]?=some i->i=[]:=λh=>by
  rw[mD]at h;split at h<;>simp at h;exact h
 have b:∀{k:Nat} {t:gg},(List.replicate tb.length (⟨0,[]⟩:gg))[k]?=some t->t.bs=[]:=λh=>by
  rw[mD]at h;split at h<;>simp at h;rw[←h]
 refine⟨⟨⟨by simp[fI],h1,h2,h3,λp=>by rw[g];omega,λp=>by rw[g];simp[fI],λp=>by rw[g];simp[fI,Go.Bu.iI],λp=>by rw[g,g]⟩,h6,by simp[fI],by simp[fI],λk c i d=>?_,λk c i d s m=>?_,λk c i d p=>?_,λp=>?_,λp=>.inr (Nat.zero_le _),by simp[fI],by simp[fI],λk t j=>?_,λk c i t d j=>?_,λk c t d j=>?_⟩,g⟩
 ·have e:=a d.2;subst e;exact⟨h7 c (zE d.1),by simp,by simp⟩
 ·have e:=a d.2;subst e;simp at m
 ·have e:=a d.2;subst e;constructor
  ·intro h;cases h
  ·rintro⟨s,m,_⟩;simp at m
 ·constructor
  ·intro h;cases h
  ·rintro⟨r,hr,_⟩;simp[fI]at hr
 ·have:=b j;rw[this];exact tV
 ·have:=b j;rw[this];simp
 ·have:=b j;rw[this];simp
theorem PT {tb:List cD}{n room m:Nat}(h1:32<=n)(h2:n<=1024)(h3:n%16=0)(h6:tb.length<=40)(h7:∀c∈tb,c.ok):WI (rz tb n room m):=by
 obtain⟨g,b⟩:=Wn2 (room:=room) h1 h2 h3 h6 h7;have get:∀{k:Nat} {A:AR},(rz tb n room m).bT[k]?=some A->A=fI n room tb:=λ{k A} h=>by
  have h:(List.replicate m (fI n room tb))[k]?=some A:=h;rw[mD]at h;split at h<;>simp at h;exact h.symm
 have a:∀p,gf (VT n).st p=0:=λp=>by
  show(List.replicate n 0).getD p 0=0;rw[zM,mD];split<;>rfl
 refine⟨λk A h=>by rw[get h];exact g,λk A h=>?_,λk A h=>by rw[get h];rfl,λk A h p hp=>by rw[get h];exact b p,λp hp=>(hp (a p)).elim,λp k l A B C E h1 h2=>?_,tV,λp hp=>by simp[rz]at hp,λk A h j y e=>?_,λk A h r u=>?_⟩
 ·rw[get h];exact⟨by simp[rz,VT,fI],λp hp=>(hp (b p)).elim,λp hp=>by rw[b p]at hp;omega,λp=>by show gf (VT n).st p<=2;rw[a];omega⟩
 ·rw[get C]at h1;exact(h1 (b p)).elim
 ·rw[get h]at e;obtain⟨c,z,w,D⟩:=e;have d:z=[]:=by
   have h2:=w.2;simp only[fI]at h2;rw[mD]at h2;split at h2<;>simp at h2;exact h2
  subst d;obtain⟨F,s,i,x,_⟩:=(Un (g.cI _ _ _ w)).1 D;simp at x
 ·rw[get h]at u;simp[fI]at u
end Go.Ar
namespace Go.Ar
open Go.Vc (cB dO dK)
variable {H H':Hw}{held:List Pc}{s0:Sp}{t k j:Nat}{g:Th}{A:AR}{c:cD}
theorem TO {tb:List cD}{cf:Cf}(h1:32<=cf.bK)(h2:cf.bK<=1024)(h3:cf.bK%16=0)(h4:1<=cf.gS)(h6:tb.length<=40)(h7:∀c∈tb,c.ok):HI (Uy tb cf) [] (VT cf.bK):=by
 have y:=PT (tb:=tb) (n:=cf.bK) (room:=cf.room) (m:=cf.gS) h1 h2 h3 h6 h7;have d:∀g∈(Uy tb cf).bQ,g=⟨List.replicate tb.length il,[],none⟩:=λg i=>(yN.1 i).2;have j:∀k,(List.replicate tb.length il).getD k il=il:=λk=>by
  rw[zM,mD];split<;>rfl
 refine⟨y,gP.refl _,λk x=>?_,tV,λe A=>by simp[Uy]at A,λg i s a hp=>?_,λg i=>?_,h7,?_,?_⟩
 ·have u:∀(n:Nat) (f:Th->Nat) (g:Th),f g=0->((List.replicate n g).map f).sum=0:=λn f g h=>by
   rw[uU,h]
   induction n with
   | zero=>rfl
   | succ n ih=>rw[vw,mN,ih]
  have r:ib ⟨List.replicate tb.length il,[],none⟩ k x=0:=by
   unfold ib l5;split
   ·simp only[j];rfl
   ·rfl
  have:rF (Uy tb cf) k x=0:=by
   unfold rF;show mL [] k x+((List.replicate cf.threads (⟨List.replicate tb.length il,[],none⟩:Th)).map λg=>ib g k x).sum=0;rw[u _ _ _ r];rfl
  rw[this,Kg];rintro⟨p,hp,_⟩;simp at hp
 ·rw[d g i]at hp;cases hp
 ·rw[d g i];refine⟨by simp[Uy],λl z=>?_,λb w=>by simp at w,by simp,by unfold iE;rfl⟩;rw[(yN.1 z).2];exact⟨fS.nil,by simp[il]⟩
 ·show 1<=(List.replicate cf.gS (fI cf.bK cf.room tb)).length;simpa using h4
 ·show(List.replicate cf.bK 0).length=cf.bK;simp
def KL (H H':Hw):Prop:=∀e∈H.live,∀w:Nat,e.1<=((8*w:Nat):Int)->((8*w:Nat):Int)<e.1+e.2.2.1->H'.sp.wd w=H.sp.wd w
theorem HI.xR (h:HI H held s0):WI ⟨H.tb,s0,H.bT,held⟩:=h.wi
theorem HI.mapped (h:HI H held s0){p:Pc}(hp:p∈held){x:Nat}(h1:p.addr<=x)(h2:x<p.addr+p.size):gf H.sp.st (x/256)≠0:=by
 obtain⟨A,a,_⟩:=h.wi.hf p hp;have e1:=h.wi.mP hp a h1 h2;have:=(h.wi.ow _ A a).own (x/256) O;intro hz;exact this ((h.k8.z _).1 hz)
theorem HI.kl (h:HI H held s0)(k:KS H.sp H'.sp):KL H H':=λe b w g j=>by
 obtain⟨_,p,hp,_,_,i,d,_⟩:=h.lv e b;have a:=h.mapped hp (x:=8*w) O O;exact(k.k _ a).2 w O
theorem KL.refl (H:Hw):KL H H:=λ_ _ _ _ _=>rfl
theorem KL.trans {H1 H2 H3:Hw}(a:KL H1 H2)(b:KL H2 H3)(hl:∀e∈H1.live,e∈H2.live):KL H1 H3:=λe g w d i=>(b e (hl e g) w d i).trans (a e g w d i)
structure iX (H H':Hw):Prop where
 hi:∃held s0,HI H' held s0
 live:H'.live=H.live
 bQ:H'.bQ=H.bQ
 kp:QF H' H
 kl:KL H H'
theorem iX.refl (h:HI H held s0):iX H H:=⟨⟨_,_,h⟩,rfl,rfl,QF.refl _,KL.refl _⟩
theorem iX.trans {H1 H2 H3:Hw}(a:iX H1 H2)(b:iX H2 H3):iX H1 H3:=⟨b.hi,b.live.trans a.live,b.bQ.trans a.bQ,a.kp.trans b.kp,a.kl.trans b.kl λe d=>by rw[a.live];exact d⟩
theorem HI.n (h:HI H held s0)(hk:H.bT[k]?=some A):A.n=H.cf.bK:=by
 have:=(h.wi.ow k A hk).l;have a:=h.k8.l;have b:=h.sl;simp only at this;omega
theorem HI.lZ (h:HI H held s0)(h208:H.cf.bK<=208)(hk:H.bT[k]?=some A):(V4 (YP A).st).length<=12:=RO (h.wi.ga k A hk) (by rw[h.n hk];exact h208) (h.wi.low k A hk)
theorem F3 (h:HI H held s0)(hk:H.bT[k]?=some A){B:AR}{s0' sp':Sp}(wi:WI ⟨H.tb,s0',H.bT.set k B,held⟩)(hw:∀w,B.f (w/32)=1->sp'.wd w=H.sp.wd w)(hoth:∀w,A.f (w/32)=0->B.f (w/32)=0->sp'.wd w=H.sp.wd w):KL H {H.cG k B with sp:=sp'}:=by
 intro e he w h1 h2;obtain⟨_,p,hp,_,_,j,i,_⟩:=h.lv e he;obtain⟨C,g,_⟩:=h.wi.hf p hp;obtain⟨D,a,_⟩:=wi.hf p hp;have e1:=h.wi.mP hp g (x:=8*w) O O;have e2:=wi.mP hp a (x:=8*w) O O;rw[show 8*w/256=w/32 by omega]at e1 e2;have b:=(cV.1 hk).1;by_cases hpk:p.k=k
 ·have d:(H.bT.set k B)[k]?=some B:=zK b;have a:(H.bT.set k B)[p.k]?=some D:=a;rw[hpk,d]at a;cases a;exact hw w e2
 ·refine hoth w ?_ ?_
  ·apply Classical.byContradiction;intro hn;exact hpk (h.wi.one (w/32) p.k k C A g hk O hn)
  ·have d:(H.bT.set k B)[k]?=some B:=zK b;apply Classical.byContradiction;intro hn;exact hpk (wi.one (w/32) p.k k D B a d O hn)
theorem TN (h:HI H held s0)(hk:H.bT[k]?=some A)(want:Int):iX H {H.cG k (dV A H.sp want).1 with sp:=(dV A H.sp want).2}:=by
 have ga:=h.wi.ga k A hk;obtain⟨e1,e2,u⟩:=h.k8.dV A want;obtain⟨s,r,j,m⟩:=NW ga (h.wi.ow k A hk) want;have wi:=h.wi.jz hk s r m j;rw[show(Wd.mk H.tb s0 H.bT held).sp=s0 from rfl,←e1]at wi;have g:=h.tP wi e2 u (by simp[Wd.put]) (λ_ _=>Iff.rfl) (λp hp _=>hp);have key:KL H {H.cG k (dV A H.sp want).1 with sp:=(dV A H.sp want).2}:=by
  by_cases h0:want<0
  ·have:dV A H.sp want=(A,H.sp):=by unfold dV;rw[zB h0]
   rw[this];exact λ_ _ _ _ _=>rfl
  ·obtain⟨z,_⟩:=Iw ga (h.wi.ow k A hk) (want:=want) O;have b:=UY ga;have a:∀w,¬iY (UB A want) (w/32)->(dV A H.sp want).2.wd w=H.sp.wd w:=λw e=>by
    rw[e2.w,z.wd w e,h.k8.w]
   refine F3 h hk wi (λw e=>a w λd=>?_) λw x _=>a w λd=>?_
   ·have:=(z.i _ d).2.1;rw[e1]at e;simp only at this;omega
   ·have:=(z.i _ d).1;have:=(b.1.kp.z (w/32)).2 x;omega
 exact⟨⟨_,_,g⟩,rfl,rfl,Qw _ _ _ _,key⟩
theorem Ψ (h:HI H held s0)(hk:H.bT[k]?=some A):iX H {H.cG k (eH A H.sp).1 with sp:=(eH A H.sp).2}:=by
 have ga:=h.wi.ga k A hk;obtain⟨e1,e2,g⟩:=h.k8.eH A;have z:=WlG ga (h.wi.ow k A hk);have wi:=h.wi.jz hk z.st z.runs (λj y=>by unfold fo Cl;rw[z.st.tb,z.cI]) z.cF;rw[show(Wd.mk H.tb s0 H.bT held).sp=s0 from rfl,←e1]at wi;have e:=h.tP wi e2 g (by simp[Wd.put]) (λ_ _=>Iff.rfl) (λp hp _=>hp);have a:∀w,w/32/16∉KQ A.st 0->(eH A H.sp).2.wd w=H.sp.wd w:=λw d=>by
  rw[e2.w,z.wd w d,h.k8.w]
 have key:KL H {H.cG k (eH A H.sp).1 with sp:=(eH A H.sp).2}:=by
  refine F3 h hk wi (λw d=>a w λb=>?_) λw i _=>a w λb=>?_
  ·rw[e1,z.f,zB b]at d;omega
  ·have:=((Fc ga).1 b).2 (w/32) rfl;omega
 exact⟨⟨_,_,e⟩,rfl,rfl,Qw _ _ _ _,key⟩
theorem Rz (h:HI H held s0)(hk:H.bT[k]?=some A):iX H (H.cG k (HF A)):=by
 have wi:=h.wi.tick hk;have a:=h.tP (sp':=H.sp) wi h.k8 rfl (by simp[Wd.put]) (L5 _) (λp hp _=>(zH.1 hp).1);exact⟨⟨_,_,a⟩,rfl,rfl,Qw _ _ _ H.sp,λ_ _ _ _ _=>rfl⟩
theorem Rp (h:HI H held s0)(n:Nat):iX H (U4 H n):=by
 induction n with
 | zero=>exact iX.refl h
 | succ n ih=>
  rw[HO];split
  ·rename_i A hA;obtain⟨a,d,b⟩:=ih.hi;exact ih.trans (Rz b hA)
  ·exact ih
theorem Ra (st:List Nat)(k:Nat):(KQ st k).length<=st.length/16:=by
 unfold KQ;exact zP (ny _ _) aA
theorem Sb (h:HI H held s0)(n:Nat):iX H (Q4 H n).1/\(Q4 H n).2<=n*64:=by
 induction n with
 | zero=>exact⟨iX.refl h,zC _⟩
 | succ n a=>
  obtain⟨a,m⟩:=a;rw[HJ];split
  ·rename_i A hA;obtain⟨b,e,d⟩:=a.hi;refine⟨a.trans (Ψ d hA),?_⟩;have ga:=d.wi.ga n A hA;have g:=Ra A.st 0;have j:=ga.pg.len;have i:=ga.pg.n2;simp only[ur];omega
  ·exact⟨a,O⟩
theorem Aw (st:List Nat)(e:Nat):∀(f p:Nat),(Kq st e f p).length<=f/\∀r∈Kq st e f p,r.2<=e-p
 | 0,p=>⟨by simp[Kq],by simp[Kq]⟩
 | f+1,p=>by
  unfold Kq;split
  ·exact⟨by simp,by simp⟩
  ·split
   ·obtain⟨h1,h2⟩:=Aw st e f (p+1);exact⟨O,λr a=>by have:=h2 r a;omega⟩
   ·obtain⟨h1,h2⟩:=Aw st e f (p+gp st p (e-p)+1);refine⟨by simp;omega,λr a=>?_⟩;rcases zW.1 a with rfl|a
    ·have:gp st p (e-p)<=e-p:=by
      unfold gp;refine zP (List.Sublist.length_le (List.takeWhile_sublist _)) ?_;rw[zL];omega
     exact this
    ·have:=h2 r a;omega
theorem Bf {α:Type}(f:α->Nat)(c:Nat):∀l:List α,(∀x∈l,f x<=c)->(l.map f).sum<=l.length*c
 | [],_=>by simp
 | x::l,h=>by
  have h1:=Bf f c l λy a=>h y (by simp[a]);have b:=h x aA;rw[zX,mN,zV,zl];omega
theorem MG (h:GA A)(want:Int):kx A want<=17408:=by
 unfold kx;split
 ·omega
 ·have g:=(UY h).1;have w:(YP A).st.length<=1024:=by rw[g.ga.pg.len];exact g.ga.pg.n2
  unfold UB Gf;have a:=DE want 0 ((eJ (YP A).st).flatMap (Vs (YP A).st));have b:∀x,(Vs (YP A).st x).length<=17/\∀r∈Vs (YP A).st x,r.2<=16:=λx=>by
   have:=Aw (YP A).st (16*x+16) 17 (16*x);exact⟨this.1,λr d=>by have:=this.2 r d;omega⟩
  have i:((eJ (YP A).st).flatMap (Vs (YP A).st)).length<=64*17:=by
   rw[List.length_flatMap];refine zP (Bf (λx=>(Vs (YP A).st x).length) 17 _ λx _=>(b x).1) ?_;have u:=(Ey (YP A).st).length_eq;have j:=ny (λh=>decide (0<gB (YP A).st (16*h) (16*h+16) 2)) (List.range ((YP A).st.length/16));rw[rm]at j;have:(eJ (YP A).st).length<=64:=by omega
   omega
  have e:∀r∈(eJ (YP A).st).flatMap (Vs (YP A).st),r.2<=16:=λr d=>by
   obtain⟨x,_,m⟩:=r6.1 d;exact(b x).2 r m
  have p:=Bf (λr:Nat×Nat=>r.2) 16 (gU want 0 ((eJ (YP A).st).flatMap (Vs (YP A).st))) λr d=>e r (a.subset d);have s:=a.length_le;omega
theorem Sw (h:HI H held s0)(want:Int)(n:Nat):iX H (QX H want n).1/\(QX H want n).2<=n*17408:=by
 induction n with
 | zero=>exact⟨iX.refl h,zC _⟩
 | succ n a=>
  obtain⟨a,e⟩:=a;rw[Hh];split
  ·exact⟨a,zP e (k7 _ (Nat.le_succ n))⟩
  ·split
   ·rename_i A hA;obtain⟨b,g,d⟩:=a.hi;refine⟨a.trans (TN d hA _),?_⟩;have:=MG (d.wi.ga n A hA) (want-((QX H want n).2:Int));simp only;omega
   ·exact⟨a,zP e (k7 _ (Nat.le_succ n))⟩
theorem WI.wd {W:Wd}(h:WI W)(f:Nat->Int):WI {W with sp:={W.sp with wd:=f}}:=
 ⟨h.ga,λk A hk=>⟨(h.ow k A hk).l,(h.ow k A hk).own,(h.ow k A hk).cl,(h.ow k A hk).le⟩,h.tb,h.low,h.own,h.one,h.hk,h.hf,h.ht,h.hr⟩
theorem I2 {sp:Sp}{x:Int}(h:fG sp x=0):0<=x/\x%8=0/\gf sp.st (x.toNat/256)≠0:=by
 unfold fG at h;split at h
 ·cases h
 ·split at h
  ·cases h
  ·exact⟨O,O,by assumption⟩
theorem Bd (sp:Sp)(x v:Int):(KZ sp x v).st.length=sp.st.length/\(∀p,gf (KZ sp x v).st p=0↔gf sp.st p=0)/\∀w,(KZ sp x v).wd w=if fG sp x=0/\w=x.toNat/8 then v else sp.wd w:=by
 unfold KZ;split
 ·rename_i h0;have a:=I2 h0;refine⟨by simp[om],λp=>?_,λw=>?_⟩
  ·show gf (sp.st.set (x.toNat/8/32) 2) p=0↔_;have b:x.toNat/8/32=x.toNat/256:=by omega
   rw[b];unfold gf at a ⊢;rw[zM]at a ⊢;rw[zM,oh];split
   ·rename_i he;split
    ·rw[←he];simp only[oZ];exact⟨λh=>O,λh=>(a.2.2 h).elim⟩
    ·rename_i hl;rw[zO O]at a;exact(a.2.2 rfl).elim
   ·exact Iff.rfl
  ·show(if w=x.toNat/8 then v else sp.wd w)=_
   by_cases hw:w=x.toNat/8
   ·rw[zB hw,zB ⟨h0,hw⟩]
   ·rw[zA hw,zA λh=>hw h.2]
 ·exact⟨rfl,λ_=>Iff.rfl,λw=>by rw[zA λh=>by have:=h.1;contradiction]⟩
theorem HI.write (h:HI H held s0)(x v:Int):HI {H with sp:=KZ H.sp x v} held {s0 with wd:=(KZ H.sp x v).wd}:=by
 obtain⟨a,b,_⟩:=Bd H.sp x v;exact⟨h.wi.wd _,⟨a.trans h.k8.l,λp=>(b p).trans (h.k8.z p),rfl⟩,h.cn,h.lk,h.lv,h.gv,h.th,h.ok,h.a1,a.trans h.sl⟩
end Go.Ar
namespace Go.Ar
open Go Go.Vc Go.Proofs
variable {U u w w':Hp}{F B P Q:Rg}{L:dS}{H H':Hw}{t n:Nat}{g:Th}
def rD (s:ByteArray)(i k:Nat)(w:Int):Int:=match s[i*8+k]? with
 | some b=>bits .or .u64 w (IntKind.u64.wrap (IntKind.u64.wrap (b.toNat:Int)*2^(min (8*k) 64)))
 | none=>w
def oF (s:ByteArray)(i n:Nat):Int:=(List.range n).foldl (λw k=>rD s i k w) 0
def LW (s:ByteArray)(i:Nat):Int:=IntKind.i64.wrap (oF s i 8)
def nt (sp:Sp)(a:Int)(s:ByteArray)(n:Nat):Sp:=(List.range n).foldl (λsp (i:Nat)=>KZ sp (a+((i:Int)+1)*8) (LW s i)) (KZ sp a (s.size:Int))
inductive nX (H:Hw) (thread:Int) (s:ByteArray):Hw->Int->Int->Prop
 | notReady:QO H thread≠0->nX H thread s H 0 (QO H thread)
 | B1:QO H thread=0->400<s.size->nX H thread s H 0 3
 | full {H':Hw} {a e:Int}:QO H thread=0->s.size<=400->VP H thread 0 ((((s.size+7)/8+1)*8:Nat):Int) 8 0 H' a e->e≠0->nX H thread s H' 0 e
 | ok {H1:Hw} {a:Int}:QO H thread=0->s.size<=400->VP H thread 0 ((((s.size+7)/8+1)*8:Nat):Int) 8 0 H1 a 0->0<=a->a<=500000000000->nX H thread s {H1 with sp:=nt H1.sp a s ((s.size+7)/8)} a 0
theorem Lj {s:ByteArray}{i:Nat}:s[i]?=if h:i<s.size then some s[i]else none:=by
 by_cases h:i<s.size
 ·rw[dif_pos h];exact getElem?_pos s i h
 ·rw[dif_neg h];exact getElem?_neg s i h
theorem Η (hso:HQ)(h:HH U F L H)(gc:Gc U)(hc:im H){thread a e:Int}{s:ByteArray}(hr:nX H thread s H' a e){R:Int->Int->Hp->Prop}
 (hR:∀σ' ts',Ext F U σ'->HH σ' (Grow F U) {L with ts:=ts'} H'->R a e σ'):QW.c (aW L.p) thread s U R:=by
 refine QW.o ?_;unfold QW.v;refine nw (cs:=[.int .i64 thread]) λv hz e0 d=>?_;have K1:=(HK.start h).box e0 hz;refine Ij K1.h hc d (λY=>by have:=Y.2;omega) λv1 e1=>?_;have K2:=K1.fr e1;have siz:s.size<=400->∀{K:Int->Prop},K (((((s.size+7)/8+1)*8:Nat)):Int)->Ar .i64 (((s.size:Nat):Int)+8) λE=>Ar .i64 (E-1) λM=>Nz 8<|Ar .i64 (M.tdiv 8) λn=>Ar .i64 (n+1) λJ=>Ar .i64 (J*8) λt36=>K t36:=λy K hK=>by
  refine cC (m:=s.size+8) O O (cC (m:=s.size+7) O O (nz aB (cC (m:=(s.size+7)/8) (by rw[Xq O];omega) O (cC (m:=(s.size+7)/8+1) O O (cC (m:=((s.size+7)/8+1)*8) O O hK)))))
 cases hr with
 | notReady h0=>exact cJ (by simpa using h0) (hR _ L.ts K2.e (K2.fin h))
 | B1 h0 y=>exact bZ (by rw[h0];rfl) (jt O (hR _ L.ts K2.e (K2.fin h)))
 | @full H' a' e' h0 y hw hne=>
  refine bZ (by rw[h0];rfl) (dR O ?_);refine cC (m:=s.size+8) O O (cC (m:=s.size+7) O O (nz aB (cC (m:=(s.size+7)/8) (by rw[Xq O];omega) O (cC (m:=(s.size+7)/8+1) O O (cC (m:=((s.size+7)/8+1)*8) O O ?_)))));refine VC hso K2.h hc.2.2 hw λv3 r G A=>?_;have K3:=K2.to G A λb _ d=>d;exact cJ (by simpa using hne) (hR v3 r K3.e (K3.fin h))
 | @ok H1 a' h0 y hw ha0 ha1=>
  refine bZ (by rw[h0];rfl) (dR O ?_);refine cC (m:=s.size+8) O O (cC (m:=s.size+7) O O (nz aB (cC (m:=(s.size+7)/8) (by rw[Xq O];omega) O (cC (m:=(s.size+7)/8+1) O O (cC (m:=((s.size+7)/8+1)*8) O O ?_)))));refine VC hso K2.h hc.2.2 hw λv3 r G A=>?_;have K3:=K2.to G A λb _ d=>d;refine bZ rfl (Gu K3.h (gc.bV K3.e h.o2) a _ O λv4 V W=>?_);have K4:=K3.to V W λb _ d=>d;generalize hn:(s.size+7)/8=n at hR;refine Zw (a:=bN) (λ(z:Int) w=>∃(i:Nat) (B P:Rg),z=(i:Int)/\i<=n/\HK F U B w P {L with ts:=r} {H1 with sp:=nt H1.sp a s i}) (λz _=>n-z.toNat) ⟨0,_,_,rfl,O,K4⟩ ?_;rintro(z:Int) w ⟨i,B,P,rfl,hi,K⟩;refine cL (λhlt=>?_) λX=>?_
  ·refine Vu (a:=.i .u64) (bb:=bN) (λ(x z:Int) S=>S=w/\∃k:Nat,z=(k:Int)/\k<=8/\x=oF s i k) (λ_ z _=>8-z.toNat) ⟨rfl,0,rfl,O,rfl⟩ ?_;rintro(x:Int) (z:Int) S ⟨rfl,k,rfl,hk,rfl⟩;refine cL (λQ=>?_) λN=>?_
   ·have j:rD s i k (oF s i k)=oF s i (k+1):=by unfold oF;rw[kI,lb];rfl
    refine cC (m:=i*8) O O (cC (m:=i*8+k) O O (cL (λd=>?_) λd=>?_))
    ·have u:i*8+k<s.size:=by omega
     have g:s[i*8+k]?=some s[i*8+k]:=by rw[Lj,dif_pos u]
     refine⟨s[i*8+k],O,by rw[dE];exact g,pc (cC (m:=8*k) O O (nn O (pc (cC (m:=k+1) O O ⟨⟨rfl,k+1,rfl,O,?_⟩,O⟩))))⟩;rw[←j];unfold rD;rw[g];have:min ((8*k:Nat):Int).toNat IntKind.u64.bits=min (8*k) 64:=rfl;rw[this]
    ·have g:s[i*8+k]?=none:=by rw[Lj,dif_neg O]
     refine cC (m:=k+1) O O ⟨⟨rfl,k+1,rfl,O,?_⟩,O⟩;rw[←j];unfold rD;rw[g]
   ·have C:k=8:=by omega
    subst C;refine cC (m:=i+1) O O (cC (m:=(i+1)*8) O O (ar O O (pc (Gu K.h (gc.bV K.e h.o2) _ _ O λw1 e1 Z=>?_))));have K1:=K.to e1 Z λb _ d=>d;have j:KZ (nt H1.sp a s i) (a+(((i+1)*8:Nat):Int)) (IntKind.i64.wrap (oF s i 8))=nt H1.sp a s (i+1):=by
     unfold nt;rw[kI,lb];have:a+(((i+1)*8:Nat):Int)=a+((i:Int)+1)*8:=by omega
     rw[this];rfl
    simp only[j]at K1;exact cC (m:=i+1) O O ⟨⟨i+1,_,_,rfl,O,K1⟩,O⟩
  ·have D:i=n:=by omega
   subst D;exact hR w r K.e (K.fin h)
def qR (sp:Sp)(a:Int)(j:Nat):Int:=IntKind.u8.wrap ((IntKind.u64.wrap (KT sp (a+(((j/8+1)*8:Nat):Int)))).fdiv (2^(min (8*(j%8)) 64)))
def EY (sp:Sp)(a:Int)(n:Nat):ByteArray:=⟨(((List.range n).map (qR sp a)).map λx=>UInt8.ofNat x.toNat).toArray⟩
def sf (H:Hw)(a u:Int):Bool:=fG H.sp a != 0||(decide (KT H.sp a<0)||(decide (400<KT H.sp a)||decide (u/8<(KT H.sp a+7)/8+1)))
def p9 (H:Hw)(a:Int):ByteArray:=match QL H a with
 | none=>ByteArray.mk #[]
 | some u=>if sf H a u then ByteArray.mk #[]else EY H.sp a (KT H.sp a).toNat
def py (H:Hw)(a:Int):Int:=match QL H a with
 | none=>8
 | some u=>if sf H a u then 2 else 0
theorem Woa (h:HH U F L H)(hc:im H)(a:Int)(ha:a<=500000000000)(hu:∀u,QL H a=some u->0<=u/\u<=1000000000)(ha0:(QL H a).isSome=true->0<=a){R:ByteArray->Int->Hp->Prop}
 (hR:∀σ',aG U σ'->R (p9 H a) (py H a) σ'):QU.c (aW L.p) a U R:=by
 refine QU.o ?_;unfold QU.v;refine Dp h hc λv e=>bZ rfl (KD (h.aF e) a λv1 e1=>?_);have x:=e.trans e1;cases hus:QL H a with
 | none=>
  have:=hR v1 x;unfold p9 py at this;rw[hus]at this;exact cJ rfl this
 | some u=>
  have Y:=hu u hus;have ha0:=ha0 (by rw[hus];rfl);have hV:p9 H a=if sf H a u then ByteArray.mk #[]else EY H.sp a (KT H.sp a).toNat:=by unfold p9;rw[hus]
  have hE:py H a=if sf H a u then 2 else 0:=by unfold py;rw[hus]
  rw[hV,hE]at hR;simp only[oZ,Dk,zT];refine bZ rfl (KN (h.aF x) a O λv2 e2=>?_);have s:=x.trans e2;refine Ko (λr w=>w=v2/\r=(fG H.sp a != 0||decide (KT H.sp a<0))) (λr w ⟨E,hr⟩=>?_) λJ Z=>?_
  ·subst E;refine Ko (λr w2=>w2=w/\r=(fG H.sp a != 0||(decide (KT H.sp a<0)||decide (400<KT H.sp a)))) (λr w2 ⟨E,B⟩=>?_) λJ1 G=>?_
   ·rw[E];refine Ko (λr w2=>w2=w/\r=sf H a u) (λr w2 ⟨E,y⟩=>?_) λJ2 A=>?_
    ·rw[E];refine cU (λd=>?_) λg=>?_
     ·have:=hR w s;rw[←y,d]at this;exact this
     ·rw[←y,g]at hR;have hb:=y.symm.trans g;simp only[sf,Ae,decide_eq_false_iff_not]at hb;obtain⟨_,hb1,C,hb3⟩:=hb;generalize hn:(KT H.sp a).toNat=m at hR;have hm:KT H.sp a=(m:Int):=by omega
      rw[hm];refine mk (n:=m) O O λv6 X V S=>?_;have hw6:=h.aF (s.trans V);have K0:=(HK.start (h.aF s)).box V X;refine Zw (a:=bN) (λ(z:Int) D=>∃(i:Nat) (cs:List Value),z=(i:Int)/\i<=m/\HK F w (λb=>False\/b=w.size) D (Cut F w) L H/\aG w D/\bY D w.size cs/\cs.length=m/\∀j,j<i->cs[j]?=some (.int .u8 (qR H.sp a j))) (λz _=>m-z.toNat) ⟨0,_,rfl,O,K0,V,S,by simp,λj M=>O⟩ ?_;rintro(z:Int) D ⟨i,cs,rfl,hi,K,ew,hbw,hcl,hrd⟩;refine cL (λP=>?_) λQ=>?_
      ·simp only at P;refine nz aB (cC (m:=i/8) (by rw[Xq O];omega) O (cC (m:=i/8+1) O O (cC (m:=(i/8+1)*8) O O (ar O O (KN K.h _ O λw1 e1=>?_)))));refine pc (nz aB (cC (m:=8*(i%8)) (by rw[QY O];omega) O (nn O (pc ?_))));refine ix O aC ?_;rw[add_lit,show 0+(i:Int).toNat*1=i by omega];have K1:=K.fr e1;refine(e1.bX hbw id).s0 O λw2 o2 C=>?_;refine cC (m:=i+1) O O ⟨⟨i+1,_,rfl,O,K1.own o2 (.inr rfl),(ew.trans e1).only o2 (.inr (zC _)),C,by simp[hcl],λj M=>?_⟩,O⟩;by_cases hji:j=i
       ·subst hji;rw[zK O];rfl
       ·rw[zd O];exact hrd j O
      ·have W:i=m:=by simp only at Q;omega
       subst W;have N:cs=((List.range i).map (qR H.sp a)).map (.int .u8):=by
        apply zp;intro j;by_cases M:j<i
        ·rw[hrd j M];simp[M]
        ·rw[zO O,zO aE]
       refine⟨(List.range i).map (qR H.sp a),by simp,?_,hR D (s.trans ew)⟩;intro j v' hv';rw[add_lit,hbw.cell,N];simpa using hv'
    ·refine cU (λd=>A _ _ ⟨rfl,?_⟩) λg=>?_
     ·rw[B]at d;simp only[sf,mQ]at d ⊢;rcases d with d|d|d
      ·rw[d];simp
      ·rw[d];simp
      ·rw[d];simp
     ·rw[B]at g;simp only[Ae,decide_eq_false_iff_not]at g;obtain⟨q1,q2,q3⟩:=g;refine ar O O (ar O O (nz aB (ar (by rw[Xq O];omega) (by rw[Xq O];omega) ?_)));rw[Xq O];refine ar O O (C0 u Y.1 O (A _ _ ⟨rfl,?_⟩));unfold sf;rw[q1,zJ q2,zJ q3,ra,ra,ra];rw[decide_eq_decide];omega
   ·refine cU (λd=>G _ _ ⟨rfl,?_⟩) λg=>G _ _ ⟨rfl,?_⟩
    ·rw[hr]at d;simp only[mQ]at d;rcases d with d|d
     ·rw[d];simp
     ·rw[d];simp
    ·rw[hr]at g;simp only[Ae]at g;rw[g.1,g.2,ra,ra]
  ·refine cU (λd=>Z _ _ ⟨rfl,by rw[d];rfl⟩) λg=>Z _ _ ⟨rfl,by rw[g];rfl⟩
end Go.Ar
namespace Go.Proofs
open Go.Vc
set_option maxRecDepth 100000
def W3.h:Hn:=.q .o2 (.q (.q (.cW (.seq [.op,.op,.op,.cY false 2 [.op,.op]])) .aJ) (.q .o1 (.q .o1 (.q (.k (.loop [(4,.one .s),(5,.I)] (.q (.q .o2 (.c .l .l)) (.k (.q .o7 .o6))))) (.q .o6 (.q .o1 (.q (.q .o1 (.k (.loop [(6,.one .s),(7,.I)] (.q (.q .o4 (.c .l .l)) (.q (.k (.q (.cW (.gM true [] [(70,.one .b)] (.tk [0,1,2,3,4,5] (.split 43 (.tk [6,7,8,9,10,11,12,13,14,15,16,17,18,19,20,21,22,23,24,25,26,27,28,29,30,31,32] (.done)) (.tk [6,7,8,9,10,11,12,13,14,15,16,17,18,19] (.split 57 (.tk [20,21,22,23,24,25,26,27,28,29,30,31,32] (.done)) (.tk [20,21,22,23,25,26,27,28,29] (.all [(24,.all [(30,.take 31 (.take 32 (.done)))])])))))))) (.c .o8 .l))) .o3))))) (.q .o3 .l))))))))
def W3.v (a:Int)(b:Hp)(c:Sl->Int->Hp->Prop):Prop:=bW (λd e=>If d (c ⟨none,0,0⟩ 1 e) (WU [.s,bN] (λf=>f ⟨none,0,0⟩ 8 e) λg (h:Sl) (i:Int) j=>If (i<512) (Xm.c i a j λk l m n=>aV #[.I k,.I l,.I m] 85 n λo p=>App h 3 24 85 [.I 0,.I 0,.I 0] ⟨some o,1,1⟩ p λq r=>X4.c i a r λs t=>bL (i+s) λu=>g q u t) (Xm.c 512 a j λv w x y=>aV #[.I v,.I w,.I x] 85 y λz aa=>App h 3 24 85 [.I 0,.I 0,.I 0] ⟨some z,1,1⟩ aa λab ac=>WU [.s,bN] (λad=>ad ⟨none,0,0⟩ 0 ac) λae (af:Sl) (ag:Int) ah=>If (ag<((ab.len:Nat):Int)) (Jn [.b] (λ(ai:Bool) aj=>If ai (Ix ab.a ab.len ag 3 λak=>aQ ak 0 aj λal=>aQ ak 1 aj λam=>aQ ak 2 aj λan=>aV #[.I al,.I am,.I an] 85 aj λao ap=>App af 3 24 85 [.I 0,.I 0,.I 0] ⟨some ao,1,1⟩ ap λaq ar=>bL (ag+1) λau=>ae aq au ar) (bL (ag+1) λav=>ae af av aj)) λaw=>dP ah λax=>bL (((ab.len:Nat):Int)-1) λay=>If (ag==ay) (aw true ah) (Ix ab.a ab.len ag 3 λaz=>aS ax az 1 λa0=>bL (ag+1) λa1=>Ix ab.a ab.len a1 3 λa2=>aS ax a2 1 λa3=>If (a0 != a3) (aw true ah) (Ix ab.a ab.len ag 3 λa4=>aS ax a4 0 λa5=>aS ax a4 1 λa6=>aS ax a4 2 λa7=>bL (ag+1) λa8=>Ix ab.a ab.len a8 3 λa9=>aS ax a9 0 λba=>aS ax a9 1 λbb=>aS ax a9 2 λbc=>WX.c a5 a6 a7 ah λbd be=>And (ax be) <|
 WX.c ba bb bc be λbf bg=>And (ax bg) <| aw (bd != bf) bg))) (c af 0 ah)))) λbh=>If (a<2) (bh true b) (bh (decide (a>16)) b)
theorem W3.o {a b c}(d:W3.v a b c):W3.c a b c:=Wa Tryz.func50 (x:=W3.h) (R0 d)
def Xm.h:Hn:=.q .o1 (.q .o8 (.q (.q .o1 (.k (.loop [(6,.I)] (.q (.q .o2 (.c .l .l)) (.q (.k (.q (.cW (.seq [.op,.op,.op,.op,.op,.cY true 9 (RI.ops 9)])) (.c .o3 .l))) .o3))))) .aL))
def Xm.v (a b:Int)(c:Hp)(d:Int->Int->Int->Hp->Prop):Prop:=aV #[.I 0,.I 0,.I 0] 85 c λe f=>Nz a<|bL ((512:Int).tdiv a) λg=>aV #[.I 0,.I 0,.I 0] 85 f λh i=>aR h 0 (.I a) i λj=>aR h 1 (.I 4) j λk=>aR h 2 (.I (if 32<(if 2>g then 2 else g)then 32 else(if 2>g then 2 else g))) k λl=>WU [bN] (λm=>m 4 l) λn (o:Int) p=>If (o≥1) (bL (o*256) λq=>bW (λr s=>If r (aR h 1 (.I o) s λt=>bL (o-1) λu=>n u t) (bL (o-1) λv=>n v s)) λw=>If (q≥a) (bL (o*256) λx=>Nz a <| bL (b*(x.tmod a)) λy=>bL (o*256) λz=>w (decide (y<=z)) p) (w false p)) (aQ h 0 p λaa=>aQ h 1 p λab=>aQ h 2 p λac=>aR e 0 (.I aa) p λad=>aR e 1 (.I ab) ad λae=>aR e 2 (.I ac) ae λaf=>aQ e 0 af λag=>aQ e 1 af λah=>aQ e 2 af λai=>d ag ah ai af)
theorem Xm.o {a b c d}(e:Xm.v a b c d):Xm.c a b c d:=Wa Tryz.func81 (x:=Xm.h) (R0 e)
def X4.h:Hn:=.q .o1 (.q .o1 (.q (.k (.loop [(5,.I)] (.q (.q .o6 (.c .l .l)) (.k .o3)))) .aL))
def X4.v (a b:Int)(c:Hp)(d:aN):Prop:=WU [bN] (λe=>e 8 c) λf (g:Int) h=>bL (2*g) λi=>Nz b<|bL (a.tdiv b) λj=>If (i<=j) (bL (2*g) λk=>f k h) (d g h)
theorem X4.o {a b c d}(e:X4.v a b c d):X4.c a b c d:=Wa Tryz.func82 (x:=X4.h) (R0 e)
def WX.h:Hn:=.q .o2 (.q .o1 (.q (.k (.loop [(3,.I)] (.q (.q .o9 (.c .l .l)) (.k .o3)))) .aL))
def WX.v (a b c:Int)(d:Hp)(e:aN):Prop:=aV #[.I a,.I b,.I c] 85 d λf g=>WU [bN] (λh=>h 0 g) λi (j:Int) k=>bL (j+1) λl=>aQ f 0 k λm=>bL (l*m) λn=>aQ f 1 k λo=>bL (o*256) λp=>If (n<=p) (bL (j+1) λq=>i q k) (e j k)
theorem WX.o {a b c d e}(f:WX.v a b c d e):WX.c a b c d e:=Wa Tryz.func83 (x:=WX.h) (R0 f)
end Go.Proofs
namespace Go.Ar
open Go Go.Vc Go.Proofs
variable {U w:Hp}
abbrev T3:=Int×Int×Int
def v3 (x:T3):List Value:=[.int .i64 x.1,.int .i64 x.2.1,.int .i64 x.2.2]
def mJ (l:List T3):List Value:=l.flatMap v3
theorem BK (l:List T3):(mJ l).length=l.length*3:=by
 induction l with
 | nil=>rfl
 | cons x l ih=>simp only[mJ,mU,zR,v3,zV,lS]at *;omega
theorem TU (l:List T3)(x:T3):mJ (l++[x])=mJ l++v3 x:=by simp[mJ]
theorem yZ:∀{l:List T3} {i:Nat} {x:T3},l[i]?=some x->∀{d:Nat},d<3->(mJ l)[i*3+d]?=(v3 x)[d]?
 | [],_,_,h,_,_=>by simp at h
 | y::l,0,x,h,d,hd=>by
  simp at h;subst h;have e:mJ (y::l)=v3 y++mJ l:=rfl;rw[e,zQ (by simp[v3];omega)];congr 1;omega
 | y::l,i+1,x,h,d,hd=>by
  have e:mJ (y::l)=v3 y++mJ l:=rfl;have a:(v3 y).length=3:=rfl;rw[e,zg O,a,show(i+1)*3+d-3=i*3+d by omega];exact yZ (by simpa using h) hd
theorem DW {Q:Rg}{s:Sl}{l:List T3}(h:Go.Vc.Own Q U s 3 (mJ l)):iB U s l:=by
 have p:=h.1;rw[BK]at p;refine⟨O,λi x y z e=>?_⟩;obtain⟨b,d,g⟩:=h.cell (j:=i*3+0) (v:=.int .i64 x) ((yZ e O).trans rfl);obtain⟨m,a,r⟩:=h.cell (j:=i*3+1) (v:=.int .i64 y) ((yZ e O).trans rfl);rw[d]at a;cases a;obtain⟨m,a,u⟩:=h.cell (j:=i*3+2) (v:=.int .i64 z) ((yZ e O).trans rfl);rw[d]at a;cases a;refine⟨b,0,d,KB g,?_,?_,?_⟩
 ·rw[show 0+i*3=i*3+0 by omega];exact g
 ·rw[show 0+i*3+1=i*3+1 by omega];exact r
 ·rw[show 0+i*3+2=i*3+2 by omega];exact u
def tD (s w:Int)(n:Nat):Int:=([4,3,2,1].take n).foldl (λ(r p:Int)=>if s<=p*256/\w*((p*256)%s)<=p*256 then p else r) 4
def Aj (s:Int):Int:=min 32 (max 2 (512/s))
def lF (s w:Int):T3:=(s,tD s w 4,Aj s)
def xl:Nat->Int->Int->Int
 | 0,d,_=>d
 | n+1,d,q=>if 2*d<=q then xl n (2*d) q else d
def vT (s w:Int):Int:=xl 8 8 (s/w)
def ni (x:T3):Int:=x.2.1*256/x.1
theorem Oz (s w:Int)(n:Nat):1<=tD s w n/\tD s w n<=4:=by
 have key:∀(l:List Int) (r:Int),(∀p∈l,1<=p/\p<=4)->1<=r/\r<=4->1<=l.foldl (λ(r p:Int)=>if s<=p*256/\w*((p*256)%s)<=p*256 then p else r) r/\l.foldl (λ(r p:Int)=>if s<=p*256/\w*((p*256)%s)<=p*256 then p else r) r<=4:=by
  intro l
  induction l with
  | nil=>intro r _ h;exact h
  | cons p l ih=>
   intro r hl hr;rw[lp];refine ih _ (λq a=>hl q (mM _ a)) ?_;split
   ·exact hl p mY
   ·exact hr
 refine key _ _ (λp hp=>?_) O;have:=qp hp;simp at this;omega
theorem Iv (s w:Int)(h1:8<=s)(h2:s<=512)(hw1:2<=w)(hw2:w<=16){R:Int->Int->Int->Hp->Prop}(hR:∀σ',aG U σ'->R (lF s w).1 (lF s w).2.1 (lF s w).2.2 σ'):Xm.c s w U R:=by
 refine Xm.o ?_;unfold Xm.v;have aa:1<=512/s/\512/s<=64:=⟨by rw[Int.le_ediv_iff_mul_le O];omega,Int.ediv_le_of_le_mul O O⟩;refine nw (cs:=[.int .i64 0,.int .i64 0,.int .i64 0]) λv hz e S=>nz O (ar (by rw[Xq O];omega) (by rw[Xq O];omega) ?_);rw[Xq O];refine nw (cs:=[.int .i64 0,.int .i64 0,.int .i64 0]) λv1 L e1 D=>D.s1 aA λv2 o2 E=>E.s1 aA λY o3 j=>j.s1 aA λv4 o4 H=>?_;have b:U.size≠v.size:=by omega
 have C:=Wm o4 (Wm o3 (Wm o2 (e1.bX S id) b) b) b;have M:aG U v4:=((((e.trans e1).only o2 (.inr O)).only o3 (.inr O)).only o4 (.inr O));have p:(if 32<(if 2>512/s then 2 else 512/s)then 32 else(if 2>512/s then 2 else 512/s))=Aj s:=by unfold Aj;omega
 rw[p]at H;refine Zw (a:=bN) (λ(z:Int) u=>∃n:Nat,n<=4/\z=4-(n:Int)/\aG U u/\bY u U.size [.int .i64 0,.int .i64 0,.int .i64 0]/\bY u v.size [.int .i64 s,.int .i64 (tD s w n),.int .i64 (Aj s)]) (λz _=>z.toNat) ⟨0,O,rfl,M,C,H⟩ ?_;rintro(z:Int) u ⟨n,hn,rfl,eu,hu,bu⟩;refine cL (λN=>?_) λX=>?_
 ·have ab:n<4:=by omega
  have d:tD s w (n+1)=if s<=(4-(n:Int))*256/\w*(((4-(n:Int))*256)%s)<=(4-(n:Int))*256 then 4-(n:Int)else tD s w n:=by
   have V:([4,3,2,1]:List Int)[n]?=some (4-(n:Int)):=by
    rcases(show n=0\/n=1\/n=2\/n=3 by omega)with rfl|rfl|rfl|rfl<;>rfl
   unfold tD
   rw[zj,V,lb];rfl
  refine ar O O ?_;refine Ko (λr G=>G=u/\r=decide (s<=(4-(n:Int))*256/\w*(((4-(n:Int))*256)%s)<=(4-(n:Int))*256)) (λr G ⟨A,x⟩=>?_) λJ F=>?_
  ·subst A;by_cases hc:s<=(4-(n:Int))*256/\w*(((4-(n:Int))*256)%s)<=(4-(n:Int))*256
   ·rw[zI hc]at x;rw[zB hc]at d;refine cJ x (bu.s1 aA λW o1 B=>ar O O ⟨⟨n+1,O,O,eu.only o1 (.inr O),Wm o1 hu b,by rw[d];exact B⟩,O⟩)
   ·rw[zJ hc]at x;rw[zA hc]at d;exact bZ x (ar O O ⟨⟨n+1,O,O,eu,hu,by rw[d];exact bu⟩,O⟩)
  ·have g:=Int.emod_nonneg ((4-(n:Int))*256) (show s≠0 by omega);have P:=Int.emod_lt_of_pos ((4-(n:Int))*256) (show 0<s by omega);have K:w*(((4-(n:Int))*256)%s)<=16*512:=Int.mul_le_mul hw2 O g O;have Z:0<=w*(((4-(n:Int))*256)%s):=Int.mul_nonneg O g;refine cL (λh1=>ar O O (nz O ?_)) λh1=>F _ _ ⟨rfl,(zJ λm=>h1 m.1).symm⟩;rw[QY O];refine ar O O (ar O O (F _ _ ⟨rfl,?_⟩));rw[decide_eq_decide];exact⟨λm=>⟨h1,m⟩,λm=>m.2⟩
 ·have y:n=4:=by omega
  subst y;refine bu.rI rfl (bu.rI rfl (bu.rI rfl (hu.s1 aA λW o1 B=>B.s1 aA λu2 o2 E=>E.s1 aA λQ o3 j=>j.rI rfl (j.rI rfl (j.rI rfl (hR Q ?_))))));exact((eu.only o1 (.inr O)).only o2 (.inr O)).only o3 (.inr O)
theorem M8 (s w:Int)(h1:8<=s)(h2:s<=512)(hw1:2<=w){R:aN}(hR:8<=vT s w->vT s w<=256->R (vT s w) U):X4.c s w U R:=by
 refine X4.o ?_;unfold X4.v;have j:0<=s/w/\s/w<=256:=⟨Int.ediv_nonneg O O,by
  have:s/w<=s/2:=by
   apply Int.le_ediv_of_mul_le O;have:=Int.ediv_mul_le s (show w≠0 by omega);have g:s/w*2<=s/w*w:=Int.mul_le_mul_of_nonneg_left hw1 (Int.ediv_nonneg O O);omega
  omega⟩
 refine Zw (a:=bN) (λ(d:Int) u=>u=U/\∃n:Nat,xl n d (s/w)=vT s w/\8<=d/\d<=256/\512<=d*2^n) (λd _=>1000-d.toNat) ⟨rfl,8,rfl,O,O,by decide⟩ ?_;rintro(d:Int) u ⟨rfl,n,hst,hd1,hd2,hdn⟩;refine ar O O (nz O (ar (by rw[Xq O];omega) (by rw[Xq O];omega) ?_));rw[Xq O];cases n with
 | zero=>simp at hdn;omega
 | succ n=>
  refine cL (λe=>ar O O ⟨⟨rfl,n,?_,O,O,?_⟩,O⟩) λb=>?_
  ·rw[xl,zB e]at hst;exact hst
  ·rw[Int.pow_succ]at hdn;have:2*d*2^n=d*(2^n*2):=by rw[Int.mul_comm 2 d,Int.mul_assoc,Int.mul_comm 2 (2^n)]
   omega
  ·rw[xl,zA b]at hst;rw[←hst]at hR;exact hR hd1 hd2
theorem Fx (x:T3)(h1:8<=x.1)(h2:x.1<=512)(h3:1<=x.2.1)(h4:x.2.1<=4){R:aN}(hR:∀σ',aG U σ'->R (ni x) σ'):WX.c x.1 x.2.1 x.2.2 U R:=by
 refine WX.o ?_;unfold WX.v;refine nw (cs:=[.int .i64 x.1,.int .i64 x.2.1,.int .i64 x.2.2]) λv s e m=>?_;refine Zw (a:=bN) (λ(n:Int) u=>aG U u/\bY u U.size [.int .i64 x.1,.int .i64 x.2.1,.int .i64 x.2.2]/\0<=n/\n<=128/\n*x.1<=x.2.1*256) (λn _=>1000-n.toNat) ⟨e,m,O,O,O⟩ ?_;rintro(n:Int) u ⟨eu,bu,hn0,hn1,hn⟩;have p:(n+1)*x.1<=129*512:=Int.mul_le_mul O h2 O O;have g:0<=(n+1)*x.1:=Int.mul_nonneg O O;refine ar O O (bu.rI rfl (ar O O (bu.rI rfl (ar O O ?_))));refine cL (λb=>ar O O ⟨⟨eu,bu,O,?_,b⟩,O⟩) λj=>?_
 ·have:(n+1)*8<=(n+1)*x.1:=Int.mul_le_mul_of_nonneg_left h1 O;omega
 ·have:ni x=n:=by
   unfold ni;have r:n<=x.2.1*256/x.1:=(Int.le_ediv_iff_mul_le O).2 hn;have w:x.2.1*256/x.1<n+1:=(Int.ediv_lt_iff_lt_mul O).2 O;omega
  have d:=hR u eu;rw[this]at d;exact d
def iA:Nat->Int->Int->List T3
 | 0,_,_=>[]
 | n+1,s,w=>if s<512 then lF s w::iA n (s+vT s w) w else[]
def allM (w:Int):List T3:=iA 64 8 w++[lF 512 w]
def Ge (l:List T3)(i:Nat):Bool:=i==l.length-1||(match l[i]?,l[i+1]? with
 | some x,some y=>x.2.1 != y.2.1||ni x != ni y
 | _,_=>false)
def mw (l:List T3)(n:Nat):List T3:=(List.range n).filterMap λi=>if Ge l i then l[i]? else none
def sH (w:Int):List T3:=mw (allM w) (allM w).length
def uk (x:T3):Prop:=8<=x.1/\x.1<=512/\1<=x.2.1/\x.2.1<=4
theorem F6 (s w:Int)(h1:8<=s)(h2:s<=512):uk (lF s w):=⟨h1,h2,Oz s w 4⟩
theorem tz {Q:Rg}{s:Sl}{l:List T3}{e1 e2:Nat}(ho:Go.Vc.Own Q U s 3 (mJ l))(hQ:∀b,U.size<=b->Q b)(hl:l.length<=1000)(x:T3){K:Sl->Hp->Prop}(hK:∀s' σ',Ext Q U σ'->Go.Vc.Own Q σ' s' 3 (mJ (l++[x]))->K s' σ') :
 Nw (.cells #[.int .i64 x.1,.int .i64 x.2.1,.int .i64 x.2.2] e1 (0,0)) U λn20 v3=>App s 3 24 e2 [.int .i64 0,.int .i64 0,.int .i64 0] ⟨some n20,1,1⟩ v3 K:=by
 have g:s.len=l.length:=by have:=ho.1;rw[BK]at this;omega
 refine nw (cs:=v3 x) λv p e a=>?_;refine(ho.aF e).app (ys:=v3 x) (λb a=>hQ b O) rfl rfl ?_ (by simp[v3,dJ]) ?_ ?_ mu λs' i _ d m _=>hK s' i ?_ ?_
 ·intro j u hu;rw[add_lit,zG,a.cell];exact hu
 ·simp only;have:(s.len+1)*24<=1001*24:=lV O O;omega
 ·simp only;omega
 ·exact(aG.to e).trans (d.sub λb a=>((ho.aF e).ia a).1)
 ·rw[TU];exact m
theorem T8 (w:Int)(h:w<2\/16<w){R:Sl->Int->Hp->Prop}(hR:R ⟨none,0,0⟩ 1 U):W3.c w U R:=by
 refine W3.o ?_;unfold W3.v;exact bW.intro (cL (λa=>cJ rfl hR) λa=>cJ (zI O) hR)
theorem I6 (w:Int)(hw1:2<=w)(hw2:w<=16){R:Sl->Int->Hp->Prop}(hR:∀s' σ',aG U σ'->iB σ' s' (sH w)->R s' 0 σ'):W3.c w U R:=by
 refine W3.o ?_;unfold W3.v;refine bW.intro (dR O (bZ (zJ O) ?_));refine Vu (a:=.s) (bb:=bN) (λ(all:Sl) (s:Int) u=>∃(n:Nat) (done:List T3),8<=s/\s<=768/\aG U u/\Go.Vc.Own (λb=>U.size<=b) u all 3 (mJ done)/\done++iA n s w=iA 64 8 w/\512<=s+8*(n:Int)/\(∀x∈done,uk x)/\done.length+n=64) (λ_ s _=>1000-s.toNat) ⟨64,[],O,O,Ext.refl _ _,Own.nil _ _ _,rfl,O,by simp,by simp⟩ ?_;rintro(all:Sl) (s:Int) u ⟨n,done,hs1,hs2,eu,ho,hdone,hn,hok,hlen⟩;refine cL (λQ=>?_) λL=>?_
 ·obtain⟨n,rfl⟩:∃m,n=m+1:=⟨n-1,O⟩;refine Iv s w O O hw1 hw2 λv2 e2=>?_;refine tz (ho.aF e2) (λb E=>by have:=eu.1;have:=e2.1;omega) O (lF s w) λall1 v4 e4 h4=>?_;have e04:aG U v4:=Ext.eY (eu.trans e2) e4 λb E=>.inr E;refine M8 s w O O hw1 λd1 d2=>ar O O ⟨⟨n,done++[lF s w],O,O,e04,h4,?_,O,λx B=>?_,by simp;omega⟩,O⟩
  ·rw[←hdone,zm]
   congr 1
   conv=>rhs;rw[iA,zB Q]
   rfl
  ·rcases zS.1 B with h1|h1
   ·exact hok x h1
   ·rw[zZ]at h1;subst h1;exact F6 s w O O
 ·have V:iA n s w=[]:=by
   cases n with
   | zero=>rfl
   | succ n=>rw[iA,zA L]
  rw[V,j7]at hdone;refine Iv 512 w O O hw1 hw2 λv6 e6=>?_;refine tz (ho.aF e6) (λb E=>by have:=eu.1;have:=e6.1;omega) O (lF 512 w) λe v8 e8 J=>?_;have e08:aG U v8:=Ext.eY (eu.trans e6) e8 λb E=>.inr E;rw[hdone]at J;have j:∀x∈allM w,uk x:=λx B=>by
   rcases zS.1 B with h1|h1
   ·rw[←hdone]at h1;exact hok x h1
   ·rw[zZ]at h1;subst h1;exact F6 512 w O O
  have hml:(allM w).length<=65:=by unfold allM;rw[←hdone];simp;omega
  have J:Go.Vc.Own (λb=>U.size<=b) v8 e 3 (mJ (allM w)):=J;generalize hall:allM w=l at J j hml;have hmk:sH w=mw l l.length:=by unfold sH;rw[hall]
  have hl2:e.len=l.length:=by have:=J.1;rw[BK]at this;omega
  refine Vu (a:=.s) (bb:=bN) (λ(out:Sl) (z:Int) u=>∃i:Nat,z=(i:Int)/\i<=l.length/\aG v8 u/\Go.Vc.Own (λb=>v8.size<=b) u out 3 (mJ (mw l i))/\(mw l i).length<=i) (λ_ z _=>l.length-z.toNat) ⟨0,rfl,O,Ext.refl _ _,Own.nil _ _ _,by simp[mw]⟩ ?_;rintro(out:Sl) (z:Int) u ⟨i,rfl,hi,eu8,hout,hol⟩;refine cL (λQ=>?_) λL=>?_
  ·have hi':i<l.length:=by omega
   have B:l[i]?=some l[i]:=cQ hi';generalize l[i]=x at B;have C:=j x (zE B);have g:mw l (i+1)=mw l i++(if Ge l i then[x]else[]):=by
    unfold mw;rw[kI,xw]
    congr 1
    by_cases hk:Ge l i=true
    ·simp[hk,B]
    ·simp[hk]
   have hA:∀m,aG u m->iB m e l:=λm d=>DW (J.aF (eu8.trans d));refine Ld (λr u'=>aG u u'/\r=Ge l i) (λr u' ⟨A,hr⟩=>?_) λJ3 G=>?_
   ·have P:=hout.aF A;cases hk:Ge l i with
    | true=>
     rw[hk]at hr g;refine cJ hr (Ak (hA u' A) B ?_);refine tz P (λb E=>by have:=eu8.1;have:=A.1;omega) O x λout1 v12 e12 h12=>?_;refine cC (m:=i+1) O O ⟨⟨i+1,rfl,O,Ext.eY (eu8.trans A) e12 λb E=>.inr E,?_,?_⟩,O⟩
     ·rw[g];exact h12
     ·rw[g];simp;omega
    | false=>
     rw[hk]at hr g;refine bZ hr (cC (m:=i+1) O O ⟨⟨i+1,rfl,O,eu8.trans A,?_,?_⟩,O⟩)
     ·rw[g];simpa using P
     ·rw[g];simp;omega
   ·refine⟨λm=>aG u m,Ext.refl _ _,ar O O ?_⟩;refine cU (λH=>G _ _ ⟨Ext.refl _ _,?_⟩) λhnl=>?_
    ·have:i=l.length-1:=by simp only[za]at H;omega
     unfold Ge;rw[this];simp
    ·have hi2:i+1<l.length:=by simp only[kR]at hnl;omega
     have Y:l[i+1]?=some l[i+1]:=cQ hi2;generalize l[i+1]=y at Y;have D:=j y (zE Y);have S:Ge l i=(x.2.1 != y.2.1||ni x != ni y):=by
      unfold Ge;rw[B,Y];have:(i==l.length-1)=false:=by simp only[kR];omega
      rw[this];rfl
     have X:=λ(m:Hp) (d:aG u m)=>(hA m d).2 i x.1 x.2.1 x.2.2 B;have hcy:=λ(m:Hp) (d:aG u m)=>(hA m d).2 (i+1) y.1 y.2.1 y.2.2 Y;obtain⟨b,o,ha,_,_⟩:=X u (Ext.refl _ _);have Z:∀m,aG u m->cell m ⟨b,o+i*3,none⟩=some (.int .i64 x.1)/\cell m ⟨b,o+i*3+1,none⟩=some (.int .i64 x.2.1)/\cell m ⟨b,o+i*3+2,none⟩=some (.int .i64 x.2.2):=λm d=>by
      obtain⟨b',o',p,_,h⟩:=X m d;rw[ha]at p;cases p;exact h
     have ry:∀m,aG u m->cell m ⟨b,o+(i+1)*3,none⟩=some (.int .i64 y.1)/\cell m ⟨b,o+(i+1)*3+1,none⟩=some (.int .i64 y.2.1)/\cell m ⟨b,o+(i+1)*3+2,none⟩=some (.int .i64 y.2.2):=λm d=>by
      obtain⟨b',o',p,_,h⟩:=hcy m d;rw[ha]at p;cases p;exact h
     have M:∀{K:Addr->Prop},K ⟨b,o+i*3,none⟩->Ix e.a e.len (i:Int) 3 K:=λhK=>by
      rw[ha];exact ix O O (by rw[add_lit,dE];exact hK)
     have N:∀{K:Addr->Prop},K ⟨b,o+(i+1)*3,none⟩->Ix e.a e.len ((i+1:Nat):Int) 3 K:=λhK=>by
      rw[ha];exact ix O O (by rw[add_lit,dE];exact hK)
     refine M ⟨x.2.1,λm d=>by rw[add_lit];exact(Z m d).2.1,cC (m:=i+1) O O (N ⟨y.2.1,λm d=>by rw[add_lit];exact(ry m d).2.1,?_⟩)⟩;refine cU (λhp=>G _ _ ⟨Ext.refl _ _,by rw[S,hp];rfl⟩) λhp=>?_;refine M ⟨x.1,λm d=>by rw[add_lit];exact(Z m d).1,⟨x.2.1,λm d=>by rw[add_lit];exact(Z m d).2.1,⟨x.2.2,λm d=>by rw[add_lit];exact(Z m d).2.2,?_⟩⟩⟩;refine cC (m:=i+1) O O (N ⟨y.1,λm d=>by rw[add_lit];exact(ry m d).1,⟨y.2.1,λm d=>by rw[add_lit];exact(ry m d).2.1,⟨y.2.2,λm d=>by rw[add_lit];exact(ry m d).2.2,?_⟩⟩⟩);refine Fx x C.1 C.2.1 C.2.2.1 C.2.2.2 λv13 F=>⟨F,Fx y D.1 D.2.1 D.2.2.1 D.2.2.2 λv14 W=>⟨F.trans W,G _ _ ⟨F.trans W,by rw[S,hp];rfl⟩⟩⟩
  ·have hil:i=l.length:=by omega
   subst hil;refine hR out u (e08.trans eu8) ?_;rw[hmk];exact DW hout
theorem Es:∀w:Nat,2<=w->w<=16->QM (sH (w:Int))=true:=by
 have h:((List.range 17).all λw=>decide (w<2)||QM (sH (w:Int)))=true:=by decide +kernel
 intro w h1 h2;have:=kK.1 h w (ze.2 O);simp only[mQ,zU]at this;exact this.resolve_left O
end Go.Ar
namespace Go.Proofs
open Go.Shelf
def Tryz.eV:Go.Shelf.Ren:=⟨fun|6=>231|15=>100|14=>257|28=>159|29=>160|20=>276|21=>277|22=>278|23=>279|24=>280|25=>281|26=>282|27=>283|46=>289|47=>209|48=>210|49=>290|50=>291|57=>293|n=>n,fun|22=>91|24=>98|25=>319|3=>3|39=>168|0=>0|53=>258|55=>81|4=>4|46=>251|45=>250|50=>255|5=>5|9=>9|66=>294|70=>298|76=>332|77=>333|n=>n,fun|n=>n⟩
theorem Tryz.pM:Go.Proofs.SlLaysF0.n6 Tryz.prog Tryz.eV:={
 mixed:=by kernel_rfl
 f6:=⟨Tryz.f231.name,by decide,Tryz.func231.trans (congrArg some (by kernel_rfl))⟩
 f14:=⟨Tryz.f257.name,by decide,Tryz.func257.trans (congrArg some (by kernel_rfl))⟩
 f15:=Tryz.func100.trans (congrArg some (by kernel_rfl))
 f20:=⟨Tryz.f276.name,by decide,Tryz.func276.trans (congrArg some (by kernel_rfl))⟩
 f21:=⟨Tryz.f277.name,by decide,Tryz.func277.trans (congrArg some (by kernel_rfl))⟩
 f22:=⟨Tryz.f278.name,by decide,Tryz.func278.trans (congrArg some (by kernel_rfl))⟩
 f23:=⟨Tryz.f279.name,by decide,Tryz.func279.trans (congrArg some (by kernel_rfl))⟩
 f24:=⟨Tryz.f280.name,by decide,Tryz.func280.trans (congrArg some (by kernel_rfl))⟩
 f25:=⟨Tryz.f281.name,by decide,Tryz.func281.trans (congrArg some (by kernel_rfl))⟩
 f26:=⟨Tryz.f282.name,by decide,Tryz.func282.trans (congrArg some (by kernel_rfl))⟩
 f27:=⟨Tryz.f283.name,by decide,Tryz.func283.trans (congrArg some (by kernel_rfl))⟩
 f28:=Tryz.func159.trans (congrArg some (by kernel_rfl))
 f29:=Tryz.func160.trans (congrArg some (by kernel_rfl))
 f46:=⟨Tryz.f289.name,by decide,Tryz.func289.trans (congrArg some (by kernel_rfl))⟩
 f47:=Tryz.func209.trans (congrArg some (by kernel_rfl))
 f48:=Tryz.func210.trans (congrArg some (by kernel_rfl))
 f49:=⟨Tryz.f290.name,by decide,Tryz.func290.trans (congrArg some (by kernel_rfl))⟩
 f50:=⟨Tryz.f291.name,by decide,Tryz.func291.trans (congrArg some (by kernel_rfl))⟩
 f57:=⟨Tryz.f293.name,by decide,Tryz.func293.trans (congrArg some (by kernel_rfl))⟩
 t0:=Tryz.underlying0
 a0:=Tryz.isAgg0
 z0:=Tryz.sizeOf0
 v0:=Tryz.zeroValue0
 t3:=Tryz.underlying3
 a3:=Tryz.isAgg3
 z3:=Tryz.sizeOf3
 v3:=Tryz.zeroValue3
 t4:=Tryz.underlying4
 a4:=Tryz.isAgg4
 z4:=Tryz.sizeOf4
 v4:=Tryz.zeroValue4
 t5:=Tryz.underlying5
 a5:=Tryz.isAgg5
 z5:=Tryz.sizeOf5
 v5:=Tryz.zeroValue5
 t9:=Tryz.underlying9
 a9:=Tryz.isAgg9
 z9:=Tryz.sizeOf9
 v9:=Tryz.zeroValue9
 t22:=Tryz.underlying91
 a22:=Tryz.isAgg91
 z22:=Tryz.sizeOf91
 v22:=Tryz.zeroValue91
 t25:=Tryz.underlying319
 a25:=Tryz.isAgg319
 z25:=Tryz.sizeOf319
 v25:=Tryz.zeroValue319
 t39:=Tryz.underlying168
 a39:=Tryz.isAgg168
 z39:=Tryz.sizeOf168
 v39:=Tryz.zeroValue168
 t45:=Tryz.underlying250
 a45:=Tryz.isAgg250
 z45:=Tryz.sizeOf250
 v45:=Tryz.zeroValue250
 t46:=Tryz.underlying251
 a46:=Tryz.isAgg251
 z46:=Tryz.sizeOf251
 v46:=Tryz.zeroValue251
 t50:=Tryz.underlying255
 a50:=Tryz.isAgg255
 z50:=Tryz.sizeOf255
 v50:=Tryz.zeroValue255
 t53:=Tryz.underlying258
 a53:=Tryz.isAgg258
 z53:=Tryz.sizeOf258
 v53:=Tryz.zeroValue258
 t55:=Tryz.underlying81
 a55:=Tryz.isAgg81
 z55:=Tryz.sizeOf81
 v55:=Tryz.zeroValue81
 t66:=Tryz.underlying294
 a66:=Tryz.isAgg294
 z66:=Tryz.sizeOf294
 v66:=Tryz.zeroValue294
 t70:=Tryz.underlying298
 a70:=Tryz.isAgg298
 z70:=Tryz.sizeOf298
 v70:=Tryz.zeroValue298
 t76:=Tryz.underlying332
 a76:=Tryz.isAgg332
 z76:=Tryz.sizeOf332
 v76:=Tryz.zeroValue332
 t77:=Tryz.underlying333
 a77:=Tryz.isAgg333
 z77:=Tryz.sizeOf333
 v77:=Tryz.zeroValue333}
end Go.Proofs
namespace Go.Ar
open Go Go.Vc Go.Proofs Go.RowKit Go.Sort Go.Shelf Go.Lib
abbrev tE:=Fin 64×Sl
instance:Inhabited tE:=⟨(0,⟨none,0,0⟩)⟩
def kO (x:tE):List Value:=[.int .i64 (x.1.val:Int),.slice x.2.a x.2.len x.2.cap]
def pz (x y:tE):Int:=(x.1.val:Int)-(y.1.val:Int)
theorem Cm (x y:tE)(W:World):Calls Tryz.prog 232 #[.agg #[.int .i64 (x.1.val:Int),.slice x.2.a x.2.len x.2.cap],.agg #[.int .i64 (y.1.val:Int),.slice y.2.a y.2.len y.2.cap]] W λe w'=>e=.returned (.int .i64 (pz x y))/\∃q os',w'=grow (W.drewN q) os':=by
 have b:IntKind.i64.wrap ((x.1.val:Int)-(y.1.val:Int))=pz x y:=by
  have d:=x.1.isLt;have g:=y.1.isLt;unfold pz;exact Hi O O
 go_enter Tryz.func232,Tryz.ntmps232
 go_wp2
 go_ret
 exact⟨rfl,0,_,by rw[alloc_eq_grow,alloc_eq_grow,grow_grow];rfl⟩
theorem C2:SWO (ltOf pz) where
 irrefl x:=by simp[ltOf,pz]
 trans x y z a h2:=by
  have a:=rj a;have h2:=rj h2;unfold pz at a h2;exact zI (by unfold pz;omega)
 ntrans x y z a h2:=by
  have a:=yV a;have h2:=yV h2;unfold pz at a h2;exact zJ (by unfold pz;omega)
def sW (x:tE):Nat×Sl:=(x.1.val,x.2)
theorem EM (l:List tE)(j:Nat)(hj:j<l.length*2):(fO (l.map sW))[j]?=some (flatK kO 2 l.toArray)[j]! := by
 rw[get_flatK _ _ _ _ (by simpa using hj)];have a:j/2<l.length:=by omega
 have e1:l.toArray[j/2]! = l[j/2]:=by rw[getElem!_pos _ _ (by simpa using a)];simp
 have b:(l.map sW)[j/2]?=some (sW l[j/2]):=by simp[a]
 have:=CU b (d:=j%2) O;rw[show 2*(j/2)+j%2=j by omega]at this;rw[this,e1];have hd:j%2=0\/j%2=1:=by omega
 rcases hd with h|h<;>rw[h]<;>rfl
theorem sj:HQ:=by
 intro U F s xs hrow hk hlen R hR;rintro w rfl;have S:s.len=xs.length:=by have:=hrow.1;rw[Vm]at this;omega
 rcases hrow.2 with⟨h0,hc0⟩|⟨b,cs,hF,ha,hb,hle,hcl,ht⟩
 ·have J:xs=[]:=xX.1 O;have:=AnyF.slices_SortFunc_none Tryz.pM s.a s.cap (.func (.func 232) #[] #[]) w;show Calls _ _ #[.slice s.a s.len s.cap,.func (.func 232) #[] #[]] w _;rw[h0];refine this.mono ?_;rintro e W ⟨rfl,rfl⟩;subst J;exact⟨.refl _,[],rfl,hR [] _ (.refl _) List.Pairwise.nil (Ext.refl _ _) hrow⟩
 ·have G:∀x∈xs,x.1<64:=hk
  let toK:Nat×Sl->tE:=λx=>(Fin.ofNat 64 x.1,x.2)
  have r:(xs.map toK).map sW=xs:=by
   rw[mC]
   conv=>rhs;rw[←wE xs]
   apply k5;intro x hx;simp only[Function.comp,toK,sW,Fin.ofNat,id];rw[uE (G x hx)]
  have M:(xs.map toK).length=xs.length:=by simp
  generalize xs.map toK=l at r M;have C:=hb.lt;have Y:HoldsK kO 2 w b 0 l.toArray:=by
   intro j hj;simp only[size_flatK,xF]at hj;have V:Vc.cell w.heap ⟨b,0+j,none⟩=some (flatK kO 2 l.toArray)[j]! := by
    rw[hb.cell,zG,←EM l j hj,r];rw[←ht,zY,zB (by rw[Vm];omega)]
   exact⟨V,hb.oW⟩
  have eg:∀args w,(callFunc 232 args).run Tryz.prog w=.ok (.enter 232 args) w:=enters_of Tryz.func232 (by kernel_rfl) rfl;have z:∀w,(isAgg (Tryz.eV.t 24)).run Tryz.prog w=.ok true w:=λw=>by
   have h:=Vq (P:=Tryz.prog) (t:=Tryz.eV.t 24) (d:=(Tryz.prog.underlying (Tryz.eV.t 24)).getD .bool) (by kernel_rfl) w
   rwa [show UO ((Tryz.prog.underlying (Tryz.eV.t 24)).getD .bool)=true by kernel_rfl]at h
  have ir:∀w,(Go.sizeOf (Tryz.eV.t 24)).run Tryz.prog w=.ok 2 w:=λw=>by
   have h:=Kd (P:=Tryz.prog) (t:=Tryz.eV.t 24) (by kernel_rfl) w
   rwa [show Tryz.prog.cellsOf (Tryz.eV.t 24)=2 by kernel_rfl]at h
  have A:=AnyQ.slices_SortFunc Tryz.pM 2 z ir kO (λ_=>rfl) (λx v N=>by simp only[kO,zW,yj,or_false]at N;rcases N with rfl|rfl<;>rfl) pz C2 232 #[] b 0 s.cap l.toArray w eg (λ_ _ _ _ x y=>Cm x y _) Y C (by simp only[xF];omega)
  show Calls _ _ #[.slice s.a s.len s.cap,.func (.func 232) #[] #[]] w _;rw[ha,show s.len=l.toArray.size by simp only[xF];omega];refine A.mono ?_;rintro e W ⟨rfl,d',n,os,hp,L,rfl⟩;have g:d'.size=l.length:=by simpa using hp.1
  have u:d'.toList.Perm l:=by
   have E:=hp.2.2;rw[show l.toArray.size=d'.size by simp[g]]at E;have e1:(d'.extract 0 d'.size)=d':=by simp
   have e2:(l.toArray.extract 0 d'.size)=l.toArray:=by rw[g];simp
   rw[e1,e2]at E;simpa using E
  obtain⟨Z,K⟩:=hb;have m:(sortWorldK kO 2 w b 0 n d' os).heap=(w.heap.modify b (onCells (putCells id 0 (flatK kO 2 d'))))++os:=rfl;have p:(w.heap.modify b (onCells (putCells id 0 (flatK kO 2 d')))).size=w.heap.size:=by simp
  refine⟨⟨rfl,rfl,rfl,by rw[m,Array.size_append,p];omega⟩,[],rfl,?_⟩;rw[m];have B:Ext F w.heap ((w.heap.modify b (onCells (putCells id 0 (flatK kO 2 d'))))++os):=by
   refine⟨by rw[Array.size_append,p];omega,λq X Q=>?_⟩;rw[DG (by rw[p];exact X),yK,zA λ(e:b=q)=>Q (by rw[←e];exact hF)]
  refine hR (d'.toList.map sW) _ ?_ ?_ B ⟨?_,.inr ⟨b,(putCells id 0 (flatK kO 2 d') cs.toArray).toList,hF,ha,⟨Z,?_⟩,hle,?_,?_⟩⟩
  ·rw[←r];exact u.map _
  ·rw[qJ];rw[zr];intro i j hi hj hij;have D:=L i j O hij (by simp only[wP]at hj;simp only[xF];omega);rw[getElem!_pos d' i (by simpa using hi),getElem!_pos d' j (by simpa using hj)]at D;have D:=yV D;unfold pz at D;simp only[sW,Array.getElem_toList];omega
  ·rw[Vm,zi,wP,g];omega
  ·rw[DG (by rw[p];exact C),yK,zB rfl,K];simp[onCells]
  ·simp[putCells,hcl]
  ·rw[Vm,zi,wP,g];apply zp;intro j;rw[zY];by_cases hj:j<l.length*2
   ·rw[zB hj,EM d'.toList j (by simpa[g]using hj)];have H:j<cs.length:=by
     have:l.length*2<=s.cap*2:=k7 _ O;omega
    simp only[putCells,yi,Array.getElem?_mapIdx,List.getElem?_toArray,cQ H,zh];rw[zB ⟨O,by rw[size_flatK,g];omega⟩];simp
   ·rw[zA hj,zO (by rw[Vm,zi,wP,g];omega)]
end Go.Ar