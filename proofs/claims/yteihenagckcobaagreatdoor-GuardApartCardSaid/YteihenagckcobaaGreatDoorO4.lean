/- Texts joined. -/
import Derived.Test.YteihenagckcobaaGreatDoorO3
set_option linter.unusedVariables false
set_option linter.unusedSimpArgs false
namespace Go.Vc
open Go
def vY (h:Hp)(it r:Nat):Nat:=
 match h[it]?,h[r]? with
 | some (.mapIter _ _ seen _),some (.map es _)=>(es.toList.filter λe=>!seen.contains e.born).length
 | _,_=>0
variable {U:Hp}{k:IntKind}{c:CK}{l todo:List (Int×c.T)}{cur:Option (Int×c.T)}{r it:Nat}
theorem It.num {h:Hp}(hi:It h it k c (some r) l todo cur):vY h it r=todo.length:=by
 obtain⟨u,e,a,d,g,j,i,s,p,b,m⟩:=hi;unfold vY;rw[d,g];have:=congrArg List.length b;simpa using this
theorem It.bS {h h':Hp}(hi:It h it k c (some r) l todo cur)(h1:h'[it]?=h[it]?)(h2:h'[r]?=h[r]?):It h' it k c (some r) l todo cur:=by
 obtain⟨i,d,a,g,e,b⟩:=hi;exact⟨i,d,a,h1.trans g,h2.trans e,b⟩
theorem B7 {A:aP}{body:Int->c.T->Hp->(Hp->Prop)->Prop}(hm:dH U r k c l)(I:List (Int×c.T)->Hp->Prop)
 (h0:∀v,v.size=U.size+1->bK U v->I l v)
 (hend:∀v,I [] v->A v)
 (hstep:∀todo n x v v' (J:aP),I todo v->(n,x)∈todo->Qo v v' U.size->U.size<v.size->(∀w,w[U.size]?=v'[U.size]?->w[r]?=v'[r]?->I (todo.filter λy=>!(y.1==n)) w->J w)->body n x v' J) :
 nM k c (some r) U λit v3=>X9 [] (λI=>I v3) λJ1 v4=>nU k c it v4 (A v4) λ_ _ v5=>nI k c it v5 λkey1 val1=>body key1 val1 v5 J1:=by
 refine⟨l,hm,λv E H G=>?_⟩;have K:bK U v:=⟨O,λb s _=>H b s⟩;refine CG (λw=>∃todo a,It w U.size k c (some r) l todo a/\I todo w/\U.size<w.size) (λw=>vY w U.size r) ⟨l,none,G,h0 v E K,O⟩ ?_;rintro w ⟨todo,a,g,B,j⟩;refine⟨rfl,some r,l,todo,a,g,λD=>?_,λn x C L M e=>?_⟩
 ·subst D;exact hend w B
 ·refine⟨rfl,some r,l,_,n,x,e,hstep todo n x w L _ B C M j λu m p i=>?_⟩;have d:=e.bS m p;refine⟨⟨_,_,d,i,?_⟩,?_⟩
  ·obtain⟨P,N,z,F,_⟩:=d;exact(zt.1 F).1
  ·rw[d.num,g.num];exact BQ.2 ⟨(n,x),C,by simp⟩
theorem sU {a:CK}{x0:a.T}{A:a.T->Hp->Prop}{body:Int->c.T->a.T->Hp->(a.T->Hp->Prop)->Prop}(hm:dH U r k c l)(I:List (Int×c.T)->a.T->Hp->Prop)
 (h0:∀v,v.size=U.size+1->bK U v->I l x0 v)
 (hend:∀z v,I [] z v->A z v)
 (hstep:∀todo n x z v v' (J:a.T->Hp->Prop),I todo z v->(n,x)∈todo->Qo v v' U.size->U.size<v.size->(∀z' w,w[U.size]?=v'[U.size]?->w[r]?=v'[r]?->I (todo.filter λy=>!(y.1==n)) z' w->J z' w)->body n x z v' J) :
 nM k c (some r) U λit v3=>X9 [a] (λI=>I x0 v3) λJ1 z v4=>nU k c it v4 (A z v4) λ_ _ v5=>nI k c it v5 λkey1 val1=>body key1 val1 z v5 J1:=by
 refine⟨l,hm,λv G L K=>?_⟩;have M:bK U v:=⟨O,λb B _=>L b B⟩;refine ZX (a:=a) (λz w=>∃todo d,It w U.size k c (some r) l todo d/\I todo z w/\U.size<w.size) (λ_ w=>vY w U.size r) ⟨l,none,K,h0 v G M,O⟩ ?_;rintro z w ⟨todo,d,i,D,m⟩;refine⟨rfl,some r,l,todo,d,i,λF=>?_,λn x E N P g=>?_⟩
 ·subst F;exact hend z w D
 ·refine⟨rfl,some r,l,_,n,x,g,hstep todo n x z w N _ D E P m λz' u p s j=>?_⟩;have e:=g.bS p s;refine⟨⟨_,_,e,j,?_⟩,?_⟩
  ·obtain⟨R,Q,C,H,_⟩:=e;exact(zt.1 H).1
  ·rw[e.num,i.num];exact BQ.2 ⟨(n,x),E,by simp⟩
end Go.Vc
namespace Go.Ar
open Go Go.Vc Go.Proofs
open Go.Bu (Zc)
variable {U:Hp}{F:Rg}{p q r:Nat}{sp:Sp}{l:List (Int×Sl)}{B:Nat->Nat}
theorem QA {α:Type}{l:List (Int×α)}(hn:(l.map (·.1)).Nodup){n:Int}{x:α}(h:(n,x)∈l):bW l n=some x:=by
 induction l with
 | nil=>simp at h
 | cons y l ih=>
  rw[Q3];simp only[zS,zr]at hn;rcases zW.1 h with h1|h1
  ·subst h1;rw[zC rfl]
  ·have:¬y.1=n:=λe=>hn.1 (zE.2 ⟨_,h1,e.symm⟩);rw[zB this];exact ih hn.2 h1
end Go.Ar
namespace Go.Bu
open Go Go.Vc Go.Proofs
variable {U:Hp}{p n sb:Nat}{S:Nat->Bool}{ms:List Nat}
def kh (ms:List Nat):List Value:=ms.map λm=>Value.map (some m)
structure Part (B:Nat) (h:Hp) (p n:Nat) (j:Nat) (s:Sl) (ms:List Nat):Prop where
 len:ms.length=j
 sl:s.len=j
 hd:bY h p [.int .i64 n,.slice s.a s.len s.cap]
 own:Go.Vc.Own (λb=>B<=b/\b≠p/\b∉ms) h s 1 (kh ms)
 new:∀m∈ms,B<=m/\m≠p/\m<h.size
 nd:ms.Nodup
theorem Part.done {B:Nat}{h:Hp}{j:Nat}{s:Sl}(hp:Part B h p n j s ms)(hB:B<=p)(hj:0<j)(n1:1<=n)(n2:n<=1024)(lo:2^j<=2*n)(hi:n<2^j)(jm:Bounded S n)
 (maps:∀k m,ms[k]?=some m->∃B:List (Int×Bool),dH h m .i64 .b B/\Keys S k B):∃sb,BH h p n S sb ms/\∀b,fp p sb ms b->B<=b:=by
 rcases hp.own.2 with⟨_,hl,_⟩|⟨sb,cs,⟨hq,hqp,hqm⟩,ha,hb,hle,hcl,ht⟩
 ·have:=hp.sl;omega
 ·refine⟨sb,⟨?_,?_,maps,?_,n1,n2,?_,?_,jm⟩,?_⟩
  ·refine⟨s.cap,?_⟩;have:=hp.hd;rw[ha,hp.sl,←hp.len]at this;exact this
  ·refine⟨cs.drop (kh ms).length,?_⟩;have:kh ms++cs.drop (kh ms).length=cs:=by
    conv=>lhs;lhs;rw[←ht]
    exact nG _ _
   show bY h sb (kh ms++_);rw[this];exact hb
  ·simp only[zr,zW,not_or];exact⟨⟨λe=>hqp e.symm,λa=>(hp.new p a).2.1 rfl⟩,hqm,hp.nd⟩
  ·rw[hp.len];exact lo
  ·rw[hp.len];exact hi
  ·intro b hb;simp only[fp,zW]at hb;rcases hb with rfl|rfl|h
   ·exact hB
   ·exact hq
   ·exact(hp.new b h).1
theorem Part.JS {B:Nat}{h:Hp}{j:Nat}{s:Sl}(hp:Part B h p n j s ms):cell h ⟨p,1,none⟩=some (.slice s.a s.len s.cap):=by rw[hp.hd.cell];rfl
theorem Part.bO {B:Nat}{h h':Hp}{j:Nat}{s:Sl}(hp:Part B h p n j s ms)(e:bK h h'):Part B h' p n j s ms:=
 ⟨hp.len,hp.sl,e.bT hp.hd id,hp.own.bO e,λm a=>⟨(hp.new m a).1,(hp.new m a).2.1,tZ (hp.new m a).2.2 e.1⟩,hp.nd⟩
theorem Part.step {B:Nat}{h:Hp}{j m e t bytes:Nat}{s:Sl}{zs:List Value}{K:Sl->Hp->Prop}(hp:Part B h p n j s ms)(hj:j<=1000)(hbt:bytes<=1000)(hz:zs.length=1)(hm:B<=m)(hmp:m≠p)(hml:m<h.size)(hmn:m∉ms)(hms:¬U2 s m)
 (hpB:p<h.size) (hBh:B<=h.size)
 (hgo:∀s' h',Ext (U2 s) h h'->s'.len=j+1->bY h' p [.int .i64 n,.slice s.a s.len s.cap] →
  (∀h2,Qo h' h2 p->bY h2 p [.int .i64 n,.slice s'.a s'.len s'.cap]->Part B h2 p n (j+1) s' (ms++[m]))->K s' h') :
 App s 1 bytes e zs ⟨some ⟨h.size,0,none⟩,1,1⟩ (h.push (.cells #[.map (some m)] t (0,0))) K:=by
 have H:=hp.sl;have y:Go.Vc.Own (λb=>B<=b/\b≠p/\b∉ms++[m]) (h.push (.cells #[.map (some m)] t (0,0))) s 1 (kh ms):=by
  have g:=hp.own;have h2:Go.Vc.Own (λb=>B<=b/\b≠p/\b∉ms++[m]) h s 1 (kh ms):=by
   refine⟨g.1,g.2.imp id ?_⟩;rintro⟨b,cs,⟨q1,q2,q3⟩,ha,r⟩;refine⟨b,cs,⟨q1,q2,?_⟩,ha,r⟩;simp only[zL,zN,not_or];exact⟨q3,λe=>hms ⟨0,by rw[ha,e]⟩⟩
  exact h2.bO (US _ _)
 have z:(h.push (.cells #[.map (some m)] t (0,0))).size=h.size+1:=by simp
 refine y.app (ys:=[.map (some m)]) ?_ hz rfl JZ (by simp[dP]) ?_ ?_ mN λs' h' A G N L=>?_
 ·intro b i;rw[z]at i;refine⟨O,O,?_⟩;simp only[zL,zN,not_or];exact⟨λu=>by have:=(hp.new b u).2.2;omega,O⟩
 ·simp only;have:(s.len+1)*bytes<=1001*1000:=lW O hbt;omega
 ·simp only;omega
 ·simp only at A;have d:Ext (U2 s) h h':=(US h _).to.trans G;have D:¬U2 s p:=λi=>(hp.own.je i).1.2.1 rfl;refine hgo s' h' d O (d.bT hp.hd D) λh2 w C=>⟨by simp[hp.len],O,C,?_,?_,?_⟩
  ·have:kh (ms++[m])=kh ms++[.map (some m)]:=by simp[kh]
   rw[this];exact N.bS (Ext.eL (F:=(· = p)) w rfl) (λb J _ M=>J.2.1 M)
  ·intro x hx;have E:h2.size=h'.size:=w.1;have:=d.1;rcases zL.1 hx with g|g
   ·have:=hp.new x g;exact⟨this.1,this.2.1,O⟩
   ·simp at g;subst g;exact⟨hm,hmp,O⟩
  ·rw[nE];refine⟨hp.nd,by simp,?_⟩;intro a ha b i;simp at i;subst i;rintro rfl;exact hmn ha
def iv:Nat->Bool:=λ_=>false
theorem Oa (k:Nat):Keys iv k []:=by
 refine⟨by simp,λq a=>?_⟩;have:=VV a (Ky k q);simp[iv]at this
theorem r8 (aF:Int){R:Option Addr->Int->Hp->Prop}(hbad:¬(1<=aF/\aF<=1024)->R none 1 U)
 (hR:∀(n:Nat),aF=(n:Int)->1<=n->n<=1024->∀σ' sb ms,bK U σ'->BH σ' U.size n iv sb ms->(∀b,fp U.size sb ms b->U.size<=b)->R (some ⟨U.size,0,none⟩) 0 σ'):QM.c aF U R:=by
 refine QM.o ?_;unfold QM.v;refine bV.intro (cQ (λg=>cE rfl (hbad O)) λg=>?_);refine cQ (λh2=>hbad O) λh2=>?_;obtain⟨n,rfl⟩:=zc (show 0<=aF by omega);have M:1<=n:=by omega
 have L:n<=1024:=by omega
 unfold Nw;have e0:=US U (.cells #[.int .i64 (n:Int),.slice none 0 0] 52 (0,0));refine ZX (a:=bN) (λt h=>∃(j:Nat) (s:Sl) (ms:List Nat),t=((2^j:Nat):Int)/\2^j<=2*n/\bK U h/\U.size<h.size/\Part U.size h U.size n j s ms/\∀m∈ms,dH h m .i64 .b []) (λt _=>2*n+1-t.toNat)
  ⟨0,⟨none,0,0⟩,[],rfl,by simp;omega,Ext.push _ _ _,by simp,⟨rfl,rfl,bY.push _ _ _,Own.nil _ _ _,by simp,by simp⟩,by simp⟩ ?_
 rintro t h ⟨j,s,ms,rfl,G,N,Q,d,w⟩;have hj:j<=11:=by
  apply Classical.byContradiction;intro hc;have:2^12<=2^j:=pd aB O;omega
 have V:=kF j;refine cQ (λhle=>?_) (λE=>?_)
 ·refine aG ?_;rw[add_lit,zH];refine nF d.JS ?_;have e1:=US h (.map #[] 0);have Y:(h.push (.map #[] 0)).size=h.size+1:=by simp
  have B:=d.bO e1;refine B.step (m:=h.size) O O rfl O O O (λy=>by have:=(d.new _ y).2.2;omega) (λp=>by have:=(d.own.je p).2;omega) O O λs' h' A hl p r=>?_;refine aG (p.OU aA λh2 z H=>?_);have K:=r h2 z H;have D:bK U h2:=by
   refine Ext.fresh (Ext.fresh (N.trans e1) A λi C=>(d.own.je C).1.1) (Ext.eL (F:=(· = U.size)) z rfl) λi C=>?_;rw[C];exact zD _
  refine cP (m:=2^(j+1)) (by rw[mD];omega) (by rw[mD];omega) ⟨⟨j+1,s',ms++[h.size],rfl,by rw[mD];omega,D,?_,K,?_⟩,by rw[mD];omega⟩
  ·have:=z.1;have:=A.1;omega
  ·intro m y;have oQ:∀{m:Nat},dH (h.push (.map #[] 0)) m .i64 .b []->¬U2 s m->m≠U.size->dH h2 m .i64 .b []:=λW hn J=>UX z (A.fQ W hn) J;rcases zL.1 y with g|g
   ·exact oQ (e1.fQ (w m g) id) (λp=>(d.own.je p).1.2.2 g) (d.new m g).2.1
   ·simp at g;subst g;exact oQ (dH.push _ _ _) (λp=>by have:=(d.own.je p).2;omega) O
 ·have u:0<j:=by
   rcases yH j with e|e
   ·subst e;simp at E;omega
   ·exact e
  obtain⟨sb,X,P⟩:=d.done (S:=iv) (zD _) u M L G O (λx Z=>by simp[iv]at Z) λk m y=>⟨[],w m (zG y),Oa k⟩;exact hR n rfl M L h sb ms N X P
end Go.Bu
namespace Go.Proofs
open Go.Vc
set_option maxRecDepth 100000
def W6.h:Hn:=.q .o1 (.q (.cR (.seq [.op,.op,.op,.cX true 5 (RI.ops 5),.op])) .l)
def W6.v (a:R2)(b:Hp)(c:aO):Prop:=bV (λd e=>c d e) λf=>If (!a.isNone) (bF a 1 b λh=>f (!h.isNone) b) (f false b)
theorem W6.o {a b c}(d:W6.v a b c):W6.c a b c:=Wa Tryz.func111 (x:=W6.h) (R0 d)
def QO.h:Hn:=.q .o2 (.q (.q .o3 .aJ) (.q .o3 (.q (.q (.cR (.seq [.op,.op,.op,.cX false 3 (RI.ops 3),.op,.cX false 2 [.op,.op],.op,.cX false 2 [.op,.op]])) .aJ) (.q .o8 (.q .o9 (.q .o9 (.q (.q .o3 (.k (.loop [(61,.I)] (.q .o1 (.q (.c .l .l) (.q (.k (.q .o4 (.q .o7 (.q .o9 (.cR (.gL true [18,21] [] (.tk [0,1,2,3,4,5,6,9,10,11,12,13] (.all [(7,.all [(8,.all [(14,.all [(15,.take 16 (.take 17 (.all [(18,.take 19 (.take 20 (.all [(21,.done)])))])))])]),(14,.all [(8,.all [(15,.take 16 (.take 17 (.all [(18,.take 19 (.take 20 (.all [(21,.done)])))])))])])]),(14,.all [(7,.all [(8,.all [(15,.take 16 (.take 17 (.all [(18,.take 19 (.take 20 (.all [(21,.done)])))])))])])])])))))))) .o2)))))) (.q .o3 .l))))))))
def QO.v (a:Sl)(b:R2)(c:Int)(d:Hp)(e:Option Addr->Int->Hp->Prop):Prop:=Zv.c a d λf g=>If (!f) (e none 2 g) (Xy.c b g λh i=>bV (λj k=>bV (λl m=>bV (λn o=>If n (e none 1 o) (Wi.c a o λp q=>Z5.c q λr s=>Nw (.map #[] 0) s λt u=>aV #[.slice p.a p.len p.cap,.pointer b,.pointer none,.pointer none,.pointer r,.slice none 0 0,.slice none 0 0,.map (some t.block)] 179 u λv w=>QM.c h w λx y z=>bU (some v) λaa=>aR aa 2 (.pointer x) z λab=>Kr.c h ab λac ad ae=>bU (some v) λaf=>aR af 3 (.pointer ac) ae λag=>X9 [bN] (λah=>ah 0 ag) λai (aj:Int) ak=>If (aj<((a.len:Nat):Int)) (Ix a.a a.len aj 3 λal=>aQ al 0 ak λam=>aQ al 1 ak λan=>aQ al 2 ak λao=>aV #[.I 0,.I 0,.I 0] 137 ak λap aq=>aR ap 0 (.I am) aq λar=>aR ap 1 (.I an) ar λau=>aR ap 2 (.I ao) au λav=>aQ ap 0 av λaw=>aQ ap 1 av λax=>aQ ap 2 av λay=>Z6.c aw ax ay av λaz a0 a1=>aQ ap 2 a1 λa2=>ZL.c a2 c a1 λa3 a4 a5=>Jn [] (λa6=>bL (aj+1) λa7=>ai a7 a6) λa8=>eI a5 λa9=>bU (some v) λba=>aT a9 ba 5 λbb=>bU (some v) λbc=>aT a9 bc 6 λbd=>(aV #[.pointer az] 182 a5 λbe bf=>And (a9 bf) <| (App bb 1 8 182 [.pointer none] ⟨some be,1,1⟩ bf λbg bh=>And (a9 bh) <| aV #[.pointer a3] 184 bh λbi bj=>And (a9 bj) <| App bd 1 8 184 [.pointer none] ⟨some bi,1,1⟩ bj λbk bl=>And (a9 bl) <|
 bU (some v) λbm=>aR bm 5 (.slice bg.a bg.len bg.cap) bl λbn=>bU (some v) λbo=>aR bo 6 (.slice bk.a bk.len bk.cap) bn λbp=>a8 bp) ∧ (aV #[.pointer a3] 184 bf λbq br=>And (a9 br) <| App bb 1 8 182 [.pointer none] ⟨some be,1,1⟩ br λbs bt=>And (a9 bt) <| App bd 1 8 184 [.pointer none] ⟨some bq,1,1⟩ bt λbu bv=>And (a9 bv) <| bU (some v) λbw=>aR bw 5 (.slice bs.a bs.len bs.cap) bv λbx=>bU (some v) λbz=>aR bz 6 (.slice bu.a bu.len bu.cap) bx λb0=>a8 b0)) ∧ (aV #[.pointer a3] 184 a5 λb1 b2=>And (a9 b2) <| aV #[.pointer az] 182 b2 λb3 b4=>And (a9 b4) <| App bb 1 8 182 [.pointer none] ⟨some b3,1,1⟩ b4 λb5 b6=>And (a9 b6) <| App bd 1 8 184 [.pointer none] ⟨some b1,1,1⟩ b6 λb7 b8=>And (a9 b8) <| bU (some v) λb9=>aR b9 5 (.slice b5.a b5.len b5.cap) b8 λca=>bU (some v) λcb=>aR cb 6 (.slice b7.a b7.len b7.cap) ca λcc=>a8 cc)) (e (some v) 0 ak))) λcd=>If l (cd true m) (cd (decide (c>8)) m)) λce=>If j (ce true k) (ce (decide (c<0)) k)) λcf=>If (h<32) (cf true i) (Nz 16 <| cf ((h.tmod 16) != 0) i))
theorem QO.o {a b c d e}(f:QO.v a b c d e):QO.c a b c d e:=Wa Tryz.func143 (x:=QO.h) (R0 f)
def WA.h:Hn:=.q .o2 (.q (.q .o4 (.q .o2 (.c (.q .o3 .l) .l))) (.q (.o 12) .l))
def WA.v (a:R2)(b:Int)(c:Hp)(d:Sl->Int->Hp->Prop):Prop:=WO.c a b c λe f=>If (e != 0) (d ⟨none,0,0⟩ e f) (bE a 6 f λh=>Ix h.a h.len b 1 λi=>fW i f λj=>Wz.c j f λk l m=>d k l m)
theorem WA.o {a b c d}(e:WA.v a b c d):WA.c a b c d:=Wa Tryz.func150 (x:=WA.h) (R0 e)
def WB.h:Hn:=.q .o2 (.q (.q .o4 (.q .o2 (.c (.q .o3 .l) .l))) (.q (.o 13) .l))
def WB.v (a:R2)(b c:Int)(d:Hp)(e:Sl->Int->Hp->Prop):Prop:=WO.c a b d λf g=>If (f != 0) (e ⟨none,0,0⟩ f g) (bE a 5 g λi=>Ix i.a i.len b 1 λj=>fW j g λk=>WZ.c k c g λl m n=>e l m n)
theorem WB.o {a b c d e}(f:WB.v a b c d e):WB.c a b c d e:=Wa Tryz.func152 (x:=WB.h) (R0 f)
def X2.h:Hn:=.q .o1 (.q (.q .o4 (.q .o2 .aJ)) (.q (.o 17) (.q (.q .o2 .aJ) (.q .gT .l))))
def X2.v (a:R2)(b:Int)(c:Hp)(d:aN):Prop:=WO.c a b c λe f=>If (e != 0) (d e f) (bE a 0 f λh=>Ix h.a h.len b 3 λi=>aQ i 1 f λj=>bL (b+1) λk=>Yx.c a j 1 k f λl m n=>If (m != 0) (d m n) (bE a 5 n λp=>Ix p.a p.len b 1 λq=>fW q n λr=>YN.c r l n λs t=>d s t))
theorem X2.o {a b c d}(e:X2.v a b c d):X2.c a b c d:=Wa Tryz.func153 (x:=X2.h) (R0 e)
def WJ.h:Hn:=.q .o2 (.q (.k (.q .o4 (.c .aL (.q (.cR (.seq [.op,.op,.op,.cX false 2 [.op,.op],.op,.cX false 2 [.op,.op],.op,.cX false 2 [.op,.op],.op,.cX false 5 (RI.ops 5),.op])) .aJ)))) (.q .o9 (.q (.q .o2 (.c (.q .o3 .l) .l)) (.q .o7 (.q .o3 .l)))))
def WJ.v (a:R2)(b c:Int)(d:Hp)(e:Int->Int->Hp->Prop):Prop:=W6.c a d λf g=>If (!f) (e 0 5 g) (bV (λh i=>bV (λj k=>bV (λl m=>bV (λn o=>If n (e 0 1 o) (Yx.c a b c 41 o λp q r=>If (q != 0) (e 0 q r) (bI a 7 r λt=>kf .i64 bN t p b r λu=>e p 0 u))) λv=>If l (v true m) (bL (c-1) λw=>v ((bits .and .i64 c w) != 0) m)) λx=>If j (x true k) (x (decide (c>16)) k)) λy=>If h (y true i) (y (decide (c<1)) i)) λz=>If (b<1) (z true g) (z (decide (b>64)) g))
theorem WJ.o {a b c d e}(f:WJ.v a b c d e):WJ.c a b c d e:=Wa Tryz.func155 (x:=WJ.h) (R0 f)
def WM.h:Hn:=.q .o1 (.q (.q .o3 .aK) (.q (.o 11) (.q (.q .o2 .aK) (.q .o6 (.q .o6 .aM)))))
def WM.v (a:R2)(b:Int)(c:Hp)(d:aN):Prop:=W6.c a c λe f=>If (!e) (d 5 f) (bI a 7 f λh=>Lk .i64 bN h b f λi=>If (!i.isSome) (d 8 f) (bI a 7 f λk=>lC .i64 bN k b f λl=>aV #[.I b,.I (i.getD 0)] 251 l λm n=>XT.c a ⟨some m,1,1⟩ n λo=>d 0 o))
theorem WM.o {a b c d}(e:WM.v a b c d):WM.c a b c d:=Wa Tryz.func163 (x:=WM.h) (R0 e)
def XT.h:Hn:=.q .o3 (.k (.loop [(8,.I)] (.q .o1 (.q (.c .l .l) (.q (.k (.q .o4 (.q (.cR (.tail 8 (RI.ops 8) [.op])) (.q (.cR (.tail 8 (RI.ops 8) [.op])) (.cR (.tail 8 (RI.ops 8) [.op])))))) .o2)))))
def XT.v (a:R2)(b:Sl)(c:Hp)(d:aP):Prop:=X9 [bN] (λe=>e 0 c) λf (g:Int) h=>If (g<((b.len:Nat):Int)) (Ix b.a b.len g 2 λi=>aQ i 0 h λj=>aQ i 1 h λk=>aV #[.I 0,.I 0] 251 h λl m=>aR l 0 (.I j) m λn=>aR l 1 (.I k) n λo=>bF a 4 o λq=>aQ l 0 o λr=>aQ l 1 o λs=>Xx.c q r s o λt u=>bF a 3 u λw=>aQ l 0 u λx=>aQ l 1 u λy=>Xo.c w x y u λz aa=>bF a 2 aa λac=>aQ l 0 aa λad=>aQ l 1 aa λae=>X6.c ac ad ae aa λaf ag=>bL (g+1) λah=>f ah ag) (d h)
theorem XT.o {a b c d}(e:XT.v a b c d):XT.c a b c d:=Wa Tryz.func165 (x:=XT.h) (R0 e)
def WK.h:Hn:=.q .o1 (.q (.q .o4 (.q .o2 .aJ)) (.q (.o 14) (.q (.q .o2 .aJ) (.q .o3 .aM))))
def WK.v (a:R2)(b:Int)(c:Sl)(d:Hp)(e:aN):Prop:=WO.c a b d λf g=>If (f != 0) (e f g) (bE a 5 g λi=>Ix i.a i.len b 1 λj=>fW j g λk=>YE.c k c g λl m n=>If (m != 0) (e m n) (XT.c a l n λo=>e 0 o))
theorem WK.o {a b c d e}(f:WK.v a b c d e):WK.c a b c d e:=Wa Tryz.func175 (x:=WK.h) (R0 f)
def WO.h:Hn:=.q .o1 (.q (.k (.q .o4 (.c .aM (.q (.cR (.seq [.op,.op,.op,.cX false 7 (RI.ops 7),.op])) .aK)))) .aM)
def WO.v (a:R2)(b:Int)(c:Hp)(d:aN):Prop:=W6.c a c λe f=>If (!e) (d 5 f) (bV (λg h=>If g (d 1 h) (d 0 h)) λi=>If (b<0) (i true f) (bE a 0 f λk=>i (decide (b≥((k.len:Nat):Int))) f))
theorem WO.o {a b c d}(e:WO.v a b c d):WO.c a b c d:=Wa Tryz.func206 (x:=WO.h) (R0 e)
def Yx.h:Hn:=.q .o2 (.q (.o 12) (.kg [(10,.I),(11,.I)] (.q .o2 (.c (.q .o1 (.q (.k (.loop [(12,.I)] (.q (.q .o5 (.c .l .l)) (.k .o3)))) (.q (.q .o4 .aJ) (.o 12)))) .l)) (.q (.q .o2 (.c (.q .o3 .l) .l)) (.q .o7 (.q .o8 (.q .o3 .l))))))
def Yx.v (a:R2)(b c d:Int)(e:Hp)(f:Int->Int->Hp->Prop):Prop:=bF a 2 e λh=>Xz.c h b c e λi j k=>Jn [bN,bN] (λ(l:Int) (m:Int) n=>If (m != 0) (f 0 m n) (bF a 3 n λp=>Xv.c p l b n λq r=>bF a 4 r λt=>XS.c t l b d r λu v=>f l 0 v)) λw=>If (j==6) (X9 [bN] (λx=>x 16 k) λy (z:Int) aa=>If (z<(if c>b then c else b)) (bL (z*2) λab=>y ab aa) (YH.c a z aa λac ad=>If (!ac) (f 0 6 ad) (bF a 2 ad λaf=>Xz.c af b c ad λag ah ai=>w ag ah ai))) (w i j k)
theorem Yx.o {a b c d e f}(g:Yx.v a b c d e f):Yx.c a b c d e f:=Wa Tryz.func209 (x:=Yx.h) (R0 g)
def YD.h:Hn:=.q .o3 (.q (.q .o3 (.c (.q .o3 .l) .l)) (.q (.q .o2 (.c (.q .o3 .l) .l)) (.q .o8 (.q (.q .o2 (.c (.q .o3 .l) .l)) (.kg [] (.q .o2 (.c (.q .o5 (.k (.loop [] (.q (.cR (.seq [.it .i64 bN,.op])) (.q (.c .l .l) (.k (.q (.cR (.seq [.it .i64 bN,.op,.op,.op,.op])) (.q .o3 (.q (.cR (.seq [.op,.op,.op,.op,.cX true 5 (RI.ops 5)])) (.c (.q .o5 .l) .l)))))))))) .l)) (.q (.o 15) (.q (.q .o2 (.c (.q .o4 .l) .l)) (.q .o6 .l))))))))
def YD.v (a:R2)(b:Int)(c:Hp)(d:Int->Int->Int->Hp->Prop):Prop:=W6.c a c λe f=>If (!e) (d 0 0 5 f) (If (b<0) (d 0 0 8 f) (bF a 4 f λh=>Nz 256<|bL (b.tdiv 256) λi=>YZ.c h i f λj k=>If (j==0) (d 0 0 8 k) (Jn [] (λl=>bE a 5 l λn=>bL (j-1) λo=>Ix n.a n.len o 1 λp=>fW p l λq=>Yf.c q b l λr s t=>If (s != 0) (d 0 0 s t) (bL (j-1) λu=>d u r 0 t)) λv=>If (j==41) (bI a 7 k λx=>nM .i64 bN x k λy z=>X9 [] (λaa=>aa z) λab ac=>nU .i64 bN y ac (v ac) (λad ae af=>nI .i64 bN y af λag ah=>Nz 256<|bL (b.tdiv 256) λai=>bV (λaj ak=>If aj (bL (ag*256) λal=>d (-1) al 0 ak) (ab ak)) λam=>If (ag<=ai) (bL (ag+ah) λan=>am (decide (ai<an)) af) (am false af))) (v k))))
theorem YD.o {a b c d}(e:YD.v a b c d):YD.c a b c d:=Wa Tryz.func213 (x:=YD.h) (R0 e)
def WF.h:Hn:=.q .o2 (.q (.q .o4 (.q .o2 (.c (.q .o3 .l) .l))) (.q (.q (.o 11) .aJ) (.q (.q .o3 (.k (.loop [(32,.I)] (.q .o1 (.q (.c .l .l) (.q (.k (.q .o3 (.q (.o 14) (.q (.cR (.seq [.op,.op,.op,.cX false 2 [.op,.op]])) .aJ)))) .o2)))))) (.q (.o 13) .l))))
def WF.v (a:R2)(b:Int)(c:Sl)(d:Hp)(e:Bool->Int->Hp->Prop):Prop:=WO.c a b d λf g=>If (f != 0) (e false f g) (bE a 0 g λi=>Ix i.a i.len b 3 λj=>aQ j 2 g λk=>If (((c.len:Nat):Int) != k) (e false 1 g) (X9 [bN] (λl=>l 0 g) λm (n:Int) o=>If (n<((c.len:Nat):Int)) (Ix c.a c.len n 1 λp=>bM p o λq=>bE a 5 o λs=>Ix s.a s.len b 1 λt=>fW t o λu=>WW.c u q o λv w x=>bV (λy z=>If y (e false 8 z) (bL (n+1) λaa=>m aa z)) λab=>If (w != 0) (ab true x) (ab (!v) x)) (bE a 6 o λad=>Ix ad.a ad.len b 1 λae=>fW ae o λaf=>WY.c af c o λag ah ai=>e ag ah ai)))
theorem WF.o {a b c d e}(f:WF.v a b c d e):WF.c a b c d e:=Wa Tryz.func217 (x:=WF.h) (R0 f)
def YJ.h:Hn:=.q .o1 (.q (.cR (.seq [.op,.op,.op,.cX true 7 (RI.ops 7),.op])) .l)
def YJ.v (a:R2)(b:Int)(c:Hp)(d:aO):Prop:=W6.c a c λe f=>bV (λg h=>d g h) λi=>If e (bF a 3 f λk=>XF.c k b f λl m=>i (decide (l>0)) m) (i false f)
theorem YJ.o {a b c d}(e:YJ.v a b c d):YJ.c a b c d:=Wa Tryz.func251 (x:=YJ.h) (R0 e)
def YH.h:Hn:=.q .o1 (.q (.q .o2 (.k (.loop [(5,.I)] (.q (.q .o9 (.c .l .l)) (.q (.k (.q (.q .o8 (.c .l .l)) (.q (.q .o3 (.k (.loop [(6,.I)] (.q (.q .o6 (.c .l .l)) (.q (.k .o6) .o3))))) (.q .o7 .aM)))) .o4))))) .aM)
def YH.v (a:R2)(b:Int)(c:Hp)(d:aO):Prop:=X9 [bN] (λe=>e b c) λf (g:Int) h=>bL (g+b) λi=>bF a 1 h λk=>Xy.c k h λl m=>If (i<=l) (bF a 1 m λo=>Y4.c o g b m λp q=>If (p != 0) (bL (g+b) λr=>f r q) (Nz 16<|bL (g.tdiv 16) λs=>X9 [bN] (λt=>t s q) λu (v:Int) w=>bL (g+b) λx=>Nz 16<|bL (x.tdiv 16) λy=>If (v<y) (bF a 3 w λaa=>X1.c aa v w λab ac=>bL (v+1) λad=>u ad ac) (bF a 2 w λaf=>X6.c af g b w λag ah=>d true ah))) (d false m)
theorem YH.o {a b c d}(e:YH.v a b c d):YH.c a b c d:=Wa Tryz.func254 (x:=YH.h) (R0 e)
end Go.Proofs
namespace Go.Ar
open Go Go.Vc Go.Proofs
open Go.Bu (Zc Qx Y9)
inductive Lb where
 | hd|dD|free|nK|own|dO|cN|runs
 | cD (k:Nat)
 | cM (k:Nat)
 deriving DecidableEq
structure Lay where
 p:Nat
 hs:Nat
 fr:Nat
 tr:Nat
 op:Nat
 rn:Nat
 dD:Sl
 dO:Sl
 cN:Sl
 fG:List Nat
 fV:List Nat
def kJ (Y:Lay):List Value:=[.slice Y.dD.a Y.dD.len Y.dD.cap,.pointer (some ⟨Y.hs,0,none⟩),.pointer (some ⟨Y.fr,0,none⟩),.pointer (some ⟨Y.tr,0,none⟩),.pointer (some ⟨Y.op,0,none⟩),.slice Y.dO.a Y.dO.len Y.dO.cap,.slice Y.cN.a Y.cN.len Y.cN.cap,.map (some Y.rn)]
def fZ (tb:List bZ):List Value:=tb.flatMap λc=>[.int .i64 (c.size:Int),.int .i64 (c.aF:Int),.int .i64 (c.batch:Int)]
def fJ (l:List Nat):List Value:=l.map λb=>.pointer (some ⟨b,0,none⟩)
def iH (l:List (Nat×Nat)):List (Int×Int):=l.map λr=>((r.1:Int),(r.2:Int))
def sE (p n:Nat)(S:Nat->Bool):Hp->Rg->Prop:=λU F=>∃sb ms,Go.Bu.BH U p n S sb ms/\∀b,Go.Bu.fp p sb ms b->F b
def mA (p:Nat)(st:List Nat):Hp->Rg->Prop:=λU F=>∃q,ic U p q st/\F p/\F q
def jP (p:Option Nat)(c:Option bZ)(ss:Option (List cF)):Hp->Rg->Prop:=λU F=>match p,c,ss with
 | some p,some c,some ss=>∃ps,fB U F p c ps ss
 | _,_,_=>True
def k7 (p:Option Nat)(c:Option bZ)(room:Nat)(t:Option gD):Hp->Rg->Prop:=λU F=>match p,c,t with
 | some p,some c,some t=>jo U F p c.batch room t
 | _,_,_=>True
def AC (A:AR)(Y:Lay)(T:Nat->Hp->Rg->Prop):Lb->Hp->Rg->Prop
 | .hd=>iq Y.p (kJ Y)
 | .dD=>cW Y.dD 3 (fZ A.tb)
 | .free=>sE Y.fr A.n A.S
 | .nK=>mA Y.tr A.st
 | .own=>λU F=>ja U F Y.op A.ow
 | .dO=>bR Y.dO 1 (fJ Y.fG)
 | .cN=>bR Y.cN 1 (fJ Y.fV)
 | .runs=>jE Y.rn .i64 bN (iH A.runs)
 | .cD k=>jP Y.fG[k]? A.tb[k]? A.cD[k]?
 | .cM k=>T k
def cK (A:AR)(Y:Lay)(k:Nat):Hp->Rg->Prop:=k7 Y.fV[k]? A.tb[k]? A.room A.cM[k]?
theorem sE.loc (p n:Nat)(S:Nat->Bool):dM (sE p n S):=by
 rintro U σ' F G ⟨i,m,h,s⟩ u r;have g:∀b,Go.Bu.fp p i m b->b<U.size:=λb a=>by
  unfold Go.Bu.fp at a;rcases zW.1 a with h1|h1
  ·obtain⟨c,d⟩:=h.hd;rw[h1];exact d.lt
  rcases zW.1 h1 with h2|h2
  ·obtain⟨c,d⟩:=h.row;rw[h2];exact d.lt
  ·obtain⟨k,w⟩:=zQ h2;obtain⟨B,x,_⟩:=h.maps k b w;exact x.lt
 have e:Ext (λb=>¬Go.Bu.fp p i m b) U σ':=⟨u,λb a j=>(r b a (s b (Classical.not_not.1 j))).2⟩;exact⟨i,m,h.bS e λb a y=>y a,λb a=>(r b (g b a) (s b a)).1⟩
theorem mA.loc (p:Nat)(st:List Nat):dM (mA p st):=by
 rintro U σ' F G ⟨q,h,j,i⟩ r a;have e:Ext (λb=>b≠p/\b≠q) U σ':=⟨r,λb m s=>by
  by_cases h1:b=p
  ·subst h1;exact(a b m j).2
  ·have d:b=q:=Classical.byContradiction λd=>s ⟨h1,d⟩;subst d;exact(a b m i).2⟩
 exact⟨q,h.bS e (λg=>g.1 rfl) (λg=>g.2 rfl),(a p h.lt.1 j).1,(a q h.lt.2 i).1⟩
theorem jP.loc (p:Option Nat)(c:Option bZ)(ss:Option (List cF)):dM (jP p c ss):=by
 rintro U e F G h b d;unfold jP at *;split
 ·simp only at h;obtain⟨a,h⟩:=h;exact⟨a,fB.loc _ _ _ _ h b d⟩
 ·trivial
theorem k7.loc (p:Option Nat)(c:Option bZ)(room:Nat)(t:Option gD):dM (k7 p c room t):=by
 rintro U d F G h a b;unfold k7 at *;split
 ·exact jo.loc _ _ _ _ h a b
 ·trivial
theorem AC.loc {A:AR}{Y:Lay}{T:Nat->Hp->Rg->Prop}(hT:∀k,dM (T k)):∀i,dM (AC A Y T i)
 | .hd=>iq.loc _ _
 | .dD=>cW.loc _ _ _
 | .free=>sE.loc _ _ _
 | .nK=>mA.loc _ _
 | .own=>ja.loc
 | .dO=>bR.loc _ _ _
 | .cN=>bR.loc _ _ _
 | .runs=>jE.loc _ _ _ _
 | .cD k=>jP.loc _ _ _
 | .cM k=>hT k
theorem cK.loc {A:AR}{Y:Lay}(k:Nat):dM (cK A Y k):=k7.loc _ _ _ _
structure eV (A:AR) (Y:Lay):Prop where
 c:Y.fG.length=A.tb.length
 t:Y.fV.length=A.tb.length
 cD:A.cD.length=A.tb.length
 cM:A.cM.length=A.tb.length
 nv:1<=A.tb.length
 p8:A.tb.length<=40
 n1:32<=A.n
 n2:A.n<=1024
 n3:A.n%16=0
 st:A.st.length=A.n
 room:A.room<=8
 ok:∀c∈A.tb,c.ok
structure dG (U:Hp) (F:Rg) (Y:Lay) (A:AR) (T:Nat->Hp->Rg->Prop):Prop where
 lay:eV A Y
 tl:∀k,dM (T k)
 sep:Sep (AC A Y T) U F
def AH (U:Hp)(F:Rg)(p hs:Nat)(A:AR):Prop:=∃Y:Lay,Y.p=p/\Y.hs=hs/\dG U F Y A (cK A Y)
variable {U:Hp}{F:Rg}{p hs:Nat}{A:AR}{Y:Lay}{T:Nat->Hp->Rg->Prop}
theorem dG.loc:dM λU F=>dG U F Y A T:=λU d F G h a b=>⟨h.lay,h.tl,Sep.loc (AC.loc h.tl) _ _ _ _ h.sep a b⟩
theorem AH.loc:dM λU F=>AH U F p hs A:=λU e F G ⟨Y,a,d,h⟩ b hs=>⟨Y,a,d,dG.loc _ _ _ _ h b hs⟩
theorem dG.bO {σ':Hp}(h:dG U F Y A T)(e:bK U σ'):dG σ' F Y A T:=dM.bO dG.loc h e
theorem dG.hd (h:dG U F Y A T):bY U Y.p (kJ Y):=by
 obtain⟨G,b,d,a⟩:=h.sep.get .hd;exact a
theorem VH (tb:List bZ):(fZ tb).length=tb.length*3:=by
 induction tb with
 | nil=>rfl
 | cons x l ih=>simp only[fZ,oy,zO,zY,lA]at *;omega
theorem Gm {tb:List bZ}{i:Nat}{c:bZ}(h:tb[i]?=some c):(fZ tb)[3*i]?=some (.int .i64 (c.size:Int))/\(fZ tb)[3*i+1]?=some (.int .i64 (c.aF:Int))/\(fZ tb)[3*i+2]?=some (.int .i64 (c.batch:Int)):=by
 induction tb generalizing i with
 | nil=>simp at h
 | cons x l ih=>
  have e:fZ (x::l)=[.int .i64 (x.size:Int),.int .i64 (x.aF:Int),.int .i64 (x.batch:Int)]++fZ l:=by simp[fZ]
  rw[e];cases i with
  | zero=>simp at h;subst h;simp
  | succ i=>
   have:=ih (i:=i) (by simpa using h);rw[show 3*(i+1)=3*i+3 by omega];simpa using this
theorem dG.oM (h:dG U F Y A T):Y.dD.len=A.tb.length:=by
 obtain⟨G,b,a⟩:=h.sep.get .dD;have:=a.1;rw[VH]at this;omega
theorem sQ {s:Sl}{tb:List bZ}(h:cW s 3 (fZ tb) U F){k d:Nat}{c:bZ}(hc:tb[k]?=some c)(hd:d<3){K:Int->Prop}(hK:K (if d=0 then c.size else if d=1 then c.aF else c.batch:Nat)) :
 Ix s.a s.len (k:Int) 3 λa=>gA .i64 (a.add d) U K:=by
 have g:=Gm hc;have i:(fZ tb)[3*k+d]?=some (.int .i64 ((if d=0 then c.size else if d=1 then c.aF else c.batch:Nat):Int)):=by
  match d,hd with
  | 0,_=>exact g.1
  | 1,_=>exact g.2.1
  | 2,_=>exact g.2.2
 have p:=(cV.1 hc).1;obtain⟨b,o,m,e⟩:=h.cell i;have j:=h.1;rw[VH]at j;rw[m];refine ix O O ?_;rw[add_lit,add_lit];refine nQ ?_ hK;rw[show o+(k:Int).toNat*3+d=o+(3*k+d) by omega];exact e
theorem dG.vH (h:dG U F Y A T){k d:Nat}{c:bZ}(hc:A.tb[k]?=some c)(hd:d<3){K:Int->Prop}(hK:K (if d=0 then c.size else if d=1 then c.aF else c.batch:Nat)) :
 Ix Y.dD.a Y.dD.len (k:Int) 3 λa=>gA .i64 (a.add d) U K:=by
 obtain⟨G,e,b⟩:=h.sep.get .dD;exact sQ b hc hd hK
theorem Cc {s:Sl}{l:List Nat}(h:cW s 1 (fJ l) U F){k q:Nat}(hq:l[k]?=some q){K:Option Addr->Prop}(hK:K (some ⟨q,0,none⟩)):Ix s.a s.len (k:Int) 1 λa=>fW a U K:=by
 have i:=(cV.1 hq).1;obtain⟨b,o,g,d⟩:=h.cell (j:=k) (v:=.pointer (some ⟨q,0,none⟩)) (by simp[fJ,hq]);have e:=h.1;simp[fJ]at e;rw[g];refine ix O O ?_;rw[add_lit];exact tT (by rw[show o+(k:Int).toNat*1=o+k by omega];exact d) hK
theorem dG.lP (h:dG U F Y A T){k q:Nat}(hq:Y.fG[k]?=some q){K:Option Addr->Prop}(hK:K (some ⟨q,0,none⟩)):Ix Y.dO.a Y.dO.len (k:Int) 1 λa=>fW a U K:=by
 obtain⟨G,d,b⟩:=h.sep.get .dO;exact Cc (bR.gF b) hq hK
theorem dG.rF (h:dG U F Y A T){k q:Nat}(hq:Y.fV[k]?=some q){K:Option Addr->Prop}(hK:K (some ⟨q,0,none⟩)):Ix Y.cN.a Y.cN.len (k:Int) 1 λa=>fW a U K:=by
 obtain⟨G,d,b⟩:=h.sep.get .cN;exact Cc (bR.gF b) hq hK
theorem dG.at_ (h:dG U F Y A T){k:Nat}(hk:k<A.tb.length):∃c ss q t r,A.tb[k]?=some c/\A.cD[k]?=some ss/\Y.fG[k]?=some q/\A.cM[k]?=some t/\Y.fV[k]?=some r/\c.ok:=by
 have e:=h.lay.c;have d:=h.lay.t;have b:=h.lay.cD;have a:=h.lay.cM;exact⟨A.tb[k],A.cD[k],Y.fG[k],A.cM[k],Y.fV[k],by simp,by simp,by simp,by simp,by simp,h.lay.ok _ (j3 hk)⟩
theorem Ci {k q:Nat}{c:bZ}{ss:List cF}{G:Rg}(h1:Y.fG[k]?=some q)(h2:A.tb[k]?=some c)(h3:A.cD[k]?=some ss)(h:AC A Y T (.cD k) U G):∃ps,fB U G q c ps ss:=by
 simp only[AC]at h;rw[h1,h2,h3]at h;exact h
theorem dG.cD (h:dG U F Y A T){k q:Nat}{c:bZ}{ss:List cF}(h1:Y.fG[k]?=some q)(h2:A.tb[k]?=some c)(h3:A.cD[k]?=some ss):∃G ps,(∀b,G b->F b)/\fB U G q c ps ss:=by
 obtain⟨G,e,a⟩:=h.sep.get (.cD k);obtain⟨ps,d⟩:=Ci h1 h2 h3 a;exact⟨G,ps,e,d⟩
theorem UY (h:dG U F Y A T){R:aO}(hR:R true U):W6.c (aW Y.p) U R:=by
 refine W6.o ?_;unfold W6.v;exact bV.intro (cE rfl (aG (h.hd.rP rfl hR)))
theorem V5 (h:dG U F Y A T)(k:Int){R:aN}(h1:A.ck k=false->R 1 U)(h0:∀x:Nat,k=x->x<A.tb.length->R 0 U):WO.c (aW Y.p) k U R:=by
 refine WO.o ?_;unfold WO.v;have g:=h.oM;have a:¬(0<=k/\k<A.tb.length)->R 1 U:=λd=>h1 (by unfold AR.ck;rw[←uk];exact zK d);refine UY h (cB rfl (bV.intro (cQ (λe=>cE rfl (a O)) λe=>aG (h.hd.rS rfl (cQ (λb=>?_) λb=>?_)))))
 ·simp only at b;exact a O
 ·simp only at b;exact h0 k.toNat O O
theorem ME (h:dG U F Y A T)(x:Int){R:aO}(hR:R (GZ A x) U):YJ.c (aW Y.p) x U R:=by
 refine YJ.o ?_;unfold YJ.v;obtain⟨G,b,q,a,_⟩:=h.sep.get .nK;refine UY h (bV.intro (cE rfl (aG (h.hd.rP rfl (Lw a x ?_)))));have:decide (xU A.st x>0)=GZ A x:=by
  unfold xU GZ;by_cases hx:0<=x
  ·by_cases hl:x<A.st.length
   ·rw[zC ⟨hx,hl⟩,zJ hx,qG,decide_eq_decide];omega
   ·rw[zB O,zJ hx,qG,zP,zV O];rfl
  ·rw[zB O,zK hx];rfl
 rw[this];exact hR
structure iG (A:AR):Prop where
 ta:∀r∈A.runs,∀s∈A.runs,∀x,r.1<=x->x<r.1+r.2->s.1<=x->x<s.1+s.2->r=s
 xp:∀x,x<1024->A.ow x=41->(qP A x).isSome=true
 cls:∀x,x<1024->A.ow x≠0->A.ow x≠41->A.ow x<=A.tb.length
 fit:∀r∈A.runs,r.1+r.2<=1024
theorem Bn (h:iG A){x:Nat}{r:Nat×Nat}(hr:r∈A.runs)(h1:r.1<=x)(h2:x<r.1+r.2):qP A x=some r:=by
 cases hf:qP A x with
 | none=>
  unfold qP at hf;rw[nH]at hf;have:=hf r hr;simp[h1,h2]at this
 | some s=>
  unfold qP at hf;have b:=sj hf;have a:=tx hf;simp at a;rw[h.ta r hr s b x h1 h2 a.1 a.2]
theorem R3 (h:dG U F Y A T)(hr:iG A)(x:Int)(hx:iE x){R:Int->Int->Int->Hp->Prop}(h1:∀σ' k a,bK U σ'->UC A x=some (k,a)->R k (a:Int) 0 σ')(h0:∀σ',bK U σ'->UC A x=none->R 0 0 8 σ') :
 YD.c (aW Y.p) x U R:=by
 refine YD.o ?_;unfold YD.v;refine UY h (cB rfl (cQ (λc1=>h0 U (Ext.refl _ _) (by unfold UC;rw[zC c1])) λc1=>aG (h.hd.rP rfl (nz aB ?_))));obtain⟨y,rfl⟩:=zc (show 0<=x by omega);have hy:y<=9223372036854775807:=by unfold iE at hx;omega
 have Z:((y:Int).tdiv 256)=((y/256:Nat):Int):=by rw[XO O];simp
 refine ar (by rw[Z];omega) (by rw[Z];omega) ?_;rw[Z];obtain⟨G,hG,hP⟩:=h.sep.get .own;refine Rj hP _ ?_;have eo:qy A.ow ((y/256:Nat):Int)=if y/256<1024 then A.ow (y/256)else 0:=by
  unfold qy;by_cases hl:y/256<1024
  ·rw[zC O,zC hl];rfl
  ·rw[zB O,zB hl]
 have g:UC A (y:Int)=(let no:=if y/256<1024 then A.ow (y/256)else 0
  if no=0 then none else if no=41 then(qP A (y/256)).map λr=>(-1,r.1*256)else
  match A.tb[no-1]?,A.cD[no-1]? with
  | some c,some ss=>(qH c ss (y:Int)).map λa=>(((no-1:Nat):Int),a)
  | _,_=>none):=by
  unfold UC;rw[zB c1];rfl
 rw[eo];generalize hno:(if y/256<1024 then A.ow (y/256)else 0)=no at *
 simp only at g;rw[wT];refine cO (λe0=>h0 U (Ext.refl _ _) (by rw[g,zC (by simpa using e0)])) λe0=>?_;have D:no≠0:=by simpa using e0
 rw[zB D]at g;have E:y/256<1024:=by
  rcases kc (y/256) 1024 with h|h
  ·exact h
  ·rw[zB O]at hno;exact absurd hno.symm D
 rw[zC E]at hno;refine Jn.intro ?_;have e41:(((no:Nat):Int)==41)=(no==41):=lE no 41;rw[e41];refine cO (λS=>?_) λS=>?_
 ·have w:no=41:=by simpa using S
  subst w;rw[zC rfl]at g;obtain⟨r,H⟩:=pM.1 (hr.xp _ E hno);have j:=sj H;have C:=tx H;simp at C;obtain⟨G,hG,M⟩:=h.sep.get .runs;refine aG (h.hd.rM rfl ?_);refine B7 M.2 (λb v=>bK U v/\(∀z∈b,z∈iH A.runs)/\((r.1:Int),(r.2:Int))∈b) (λv hz e=>⟨e,λz hz=>hz,zE.2 ⟨r,j,rfl⟩⟩) (λv hv=>absurd hv.2.2 aA) ?_;rintro b n z v v' J ⟨e,d,B⟩ hm ho hlt2 hJ;have e':bK U v':=Ext.fresh e ho.ext λi hi=>by omega
  obtain⟨s,P,hse⟩:=zE.1 (d _ hm);cases hse;have hfit:=hr.fit s P;refine nz aB (ar O O ?_);refine bV.intro (cQ (λc3=>ar O O (cQ (λc4=>?_) λc4=>?_)) λc3=>cB rfl ?_)
  ·have X:=Bn hr P (x:=y/256) O O;refine ar O O ?_;have:=h1 v' (-1) (s.1*256) e' (by rw[g,X];rfl);simpa using this
  ·refine hJ v' rfl rfl ⟨e',λu V=>d u (zI.1 V).1,zI.2 ⟨B,?_⟩⟩;have:¬(r.1:Int)=(s.1:Int):=λe=>by
    have:=Bn hr j C.1 C.2;have e1:r.1=s.1:=by omega
    by_cases h2:r.2=0
    ·omega
    by_cases h3:s.2=0
    ·have:=M.2.nodup;have N:=QA this (zE.2 ⟨r,j,rfl⟩);have K:=QA this (zE.2 ⟨s,P,rfl⟩);rw[e1,K]at N;have:s.2=r.2:=by
      have:(s.2:Int)=(r.2:Int):=Option.some.inj N;omega
     omega
    ·have:=hr.ta r j s P r.1 O O O O;subst this;omega
   simpa using this
  ·refine hJ v' rfl rfl ⟨e',λu V=>d u (zI.1 V).1,zI.2 ⟨B,?_⟩⟩;have:¬(r.1:Int)=(s.1:Int):=λe=>by omega
   simpa using this
 ·have w:no≠41:=by simpa using S
  rw[zB w]at g;have Q:=hr.cls _ E (by rw[hno];exact D) (by rw[hno];exact w);rw[hno]at Q;obtain⟨c,ss,q,t,r,hc,L,hq,_,_,hok⟩:=h.at_ (k:=no-1) O;obtain⟨G,ps,hG,hC⟩:=h.cD hq hc L;rw[hc,L]at g;simp only at g;refine aG (h.hd.rS rfl (cP (m:=no-1) O (by have:=h.lay.p8;omega) (h.lP hq (Px hC _ hx (λa W=>?_) λW=>?_))))
  ·refine cB rfl (cP (m:=no-1) O (by have:=h.lay.p8;omega) (h1 U _ a (Ext.refl _ _) ?_));rw[g,W];rfl
  ·refine cE rfl (h0 U (Ext.refl _ _) ?_);rw[g,W];rfl
end Go.Ar
namespace Go.Ar
open Go Go.Vc Go.Proofs
open Go.Bu (Zc Qx Y9)
open Classical in
theorem _root_.Go.Vc.Sep.jQ {L:Type}{C:L->Hp->Rg->Prop}{U:Hp}{F:Rg}(hC:∀i,dM (C i))(h:Sep C U F)(i:L):∃G:Rg,(∀b,G b->F b)/\C i U G/\(∀j,j≠i->∃H:Rg,(∀b,H b->F b)/\(∀b,H b->¬G b)/\C j U H)/\∀(σ':Hp) (C':L->Hp->Rg->Prop) (G':Rg),
 (∀j,j≠i->C' j=C j)->Ext G U σ'->(∀b,G' b->G b\/U.size<=b)->C' i σ' G'->dM (C' i)->Sep C' σ' λb=>F b/\b<U.size/\¬G b\/G' b:=by
 obtain⟨ρ,h⟩:=h;refine⟨_,λb a=>a.1,h i,λj p=>⟨_,λb a=>a.1,λb m x=>p (m.2.symm.trans x.2),h j⟩,λσ' C' G' p e w u y=>⟨λb=>if G' b then i else ρ b,λj=>?_⟩⟩
 by_cases hji:j=i
 ·subst hji;exact y.mono u λb _ a=>⟨.inr a,zC a⟩
 ·rw[p j hji];refine hC j _ _ _ _ (h j) e.1 λb a r=>?_;have d:¬(F b/\ρ b=i):=λs=>hji (r.2.symm.trans s.2);have g:¬G' b:=λs=>by
   rcases w b s with m|m
   ·exact d m
   ·omega
  exact⟨⟨.inl ⟨r.1,a,d⟩,(zB g).trans r.2⟩,e.2 b a d⟩
variable {U:Hp}{F:Rg}{p hs:Nat}{A:AR}{Y:Lay}{T:Nat->Hp->Rg->Prop}
theorem dG.step (h:dG U F Y A T)(i:Lb):∃G:Rg,(∀b,G b->F b)/\AC A Y T i U G/\(∀j,j≠i->∃H:Rg,(∀b,H b->F b)/\(∀b,H b->¬G b)/\AC A Y T j U H)/\∀(σ':Hp) (A':AR) (Y':Lay) (T':Nat->Hp->Rg->Prop) (G' H:Rg),
 eV A' Y'->(∀k,dM (T' k))->(∀j,j≠i->AC A' Y' T' j=AC A Y T j)->Ext G U σ'->(∀b,G' b->G b\/U.size<=b)->AC A' Y' T' i σ' G'->(∀b,(F b/\b<U.size/\¬G b\/G' b)->H b)->dG σ' H Y' A' T':=by
 obtain⟨G,m,r,hd,a⟩:=h.sep.jQ (AC.loc h.tl) i;refine⟨G,m,r,hd,λσ' A' Y' T' G' H x g w e s d p=>⟨x,g,?_⟩⟩;exact(Sep.loc (AC.loc g)).mono (a σ' _ G' w e s d (AC.loc g i)) λb _ u=>p b u
theorem Hm {U:Hp}{F G G':Rg}(hG:∀b,G b->F b)(hg:∀b,G' b->G b\/U.size<=b):∀b,(F b/\b<U.size/\¬G b\/G' b)->Grow F U b:=λb a=>by
 rcases a with a|a
 ·exact .inl a.1
 ·exact(hg b a).imp (hG b) id
theorem ym {U:Hp}{F G G':Rg}(hG:∀b,G b->F b)(hg:∀b,G' b->G b):∀b,(F b/\b<U.size/\¬G b\/G' b)->F b:=λb a=>by
 rcases a with a|a
 ·exact a.1
 ·exact hG b (hg b a)
theorem EN {U:Hp}{F G:Rg}(hG:∀b,G b->F b):∀b,(F b/\b<U.size/\¬G b\/Cut G U b)->Cut F U b:=λb a=>by
 rcases a with a|a
 ·exact⟨a.1,a.2.1⟩
 ·exact⟨hG b a.1,a.2⟩
theorem Ib {ow:Nat->Nat}:∀j,j≠Lb.own->AC {A with ow:=ow} Y T j=AC A Y T j:=by
 intro j hj;cases j<;>first|rfl|exact absurd rfl hj
theorem Sh {st:List Nat}:∀j,j≠Lb.nK->AC {A with st:=st} Y T j=AC A Y T j:=by
 intro j hj;cases j<;>first|rfl|exact absurd rfl hj
theorem yG {S:Nat->Bool}:∀j,j≠Lb.free->AC {A with S:=S} Y T j=AC A Y T j:=by
 intro j hj;cases j<;>first|rfl|exact absurd rfl hj
theorem Jb {rs:List (Nat×Nat)}:∀j,j≠Lb.runs->AC {A with runs:=rs} Y T j=AC A Y T j:=by
 intro j hj;cases j<;>first|rfl|exact absurd rfl hj
theorem I2 {k:Nat}{ss:List cF}:∀j,j≠Lb.cD k->AC {A with cD:=A.cD.set k ss} Y T j=AC A Y T j:=by
 intro j hj;cases j<;>first|rfl|skip
 rename_i k';have a:k≠k':=λe=>hj (by rw[e]);simp only[AC];rw[zk a]
theorem eV.ow {ow:Nat->Nat}(h:eV A Y):eV {A with ow:=ow} Y:=⟨h.c,h.t,h.cD,h.cM,h.nv,h.p8,h.n1,h.n2,h.n3,h.st,h.room,h.ok⟩
theorem eV.AM {S:Nat->Bool}(h:eV A Y):eV {A with S:=S} Y:=⟨h.c,h.t,h.cD,h.cM,h.nv,h.p8,h.n1,h.n2,h.n3,h.st,h.room,h.ok⟩
theorem eV.qC {rs:List (Nat×Nat)}(h:eV A Y):eV {A with runs:=rs} Y:=⟨h.c,h.t,h.cD,h.cM,h.nv,h.p8,h.n1,h.n2,h.n3,h.st,h.room,h.ok⟩
theorem eV.vn {st:List Nat}(h:eV A Y)(hl:st.length=A.st.length):eV {A with st:=st} Y:=⟨h.c,h.t,h.cD,h.cM,h.nv,h.p8,h.n1,h.n2,h.n3,hl.trans h.st,h.room,h.ok⟩
theorem eV.kQ {k:Nat}{ss:List cF}(h:eV A Y):eV {A with cD:=A.cD.set k ss} Y:=⟨h.c,h.t,by simpa using h.cD,h.cM,h.nv,h.p8,h.n1,h.n2,h.n3,h.st,h.room,h.ok⟩
theorem Dv (st:List Nat)(a m:Int)(v:Nat)(fr:List Nat):(V7 st a m v fr).length=st.length:=by
 unfold V7;split<;>simp[Ku]
theorem L9 (st:List Nat)(k:Int):(iW st k).length=st.length:=by
 unfold iW;split<;>simp[Ku]
theorem dG.Clear (h:dG U F Y A T)(a m:Nat)(ha:a<=1000000){R:aN}(hR:∀σ' t,Ext F U σ'->dG σ' (Grow F U) Y {A with ow:=jB A.ow a m 0} T->R t σ'):Xx.c (aW Y.op) a m U R:=by
 obtain⟨G,i,j,_,d⟩:=h.step .own;refine NZ j a m ha λσ' e p=>hR σ' _ (e.sub i) ?_;exact d σ' _ _ T (Grow G U) _ h.lay.ow h.tl Ib e (λb g=>g) p (Hm i λb g=>g)
theorem dG.Set (h:dG U F Y A T)(a m:Nat)(ha:a<=1000000){no:Nat}(h1:1<=no)(h2:no<=1000){R:aN}(hR:∀σ' t,Ext F U σ'->dG σ' (Grow F U) Y {A with ow:=jB A.ow a m no} T->R t σ'):XS.c (aW Y.op) a m no U R:=by
 obtain⟨G,i,j,_,d⟩:=h.step .own;refine I3 j a m ha h1 h2 λσ' e p=>hR σ' _ (e.sub i) ?_;exact d σ' _ _ T (Grow G U) _ h.lay.ow h.tl Ib e (λb g=>g) p (Hm i λb g=>g)
theorem dG.nK (h:dG U F Y A T):∃G:Rg,(∀b,G b->F b)/\∃q,ic U Y.tr q A.st/\F q/\∀(σ':Hp) (st:List Nat),st.length=A.st.length->Ext (· = q) U σ'->ic σ' Y.tr q st->Ext F U σ'/\dG σ' F Y {A with st:=st} T:=by
 obtain⟨G,i,⟨q,p,j,g⟩,_,d⟩:=h.step .nK;refine⟨G,i,q,p,i _ g,λσ' st m e r=>⟨e.sub λb a=>by subst a;exact i _ g,?_⟩⟩;exact d σ' _ _ T G _ (h.lay.vn m) h.tl Sh (e.sub λb a=>by subst a;exact g) (λb a=>.inl a) ⟨q,r,j,g⟩ (ym i λb a=>a)
theorem dG.uY (h:dG U F Y A T)(a m:Int){R:aN}(hR:∀σ' t,Ext F U σ'->dG σ' F Y {A with st:=V7 A.st a m 2 [1]} T->R t σ'):Xo.c (aW Y.tr) a m U R:=by
 obtain⟨G,i,q,d,_,b⟩:=h.nK;refine N9 d a m λσ' e g=>?_;have:=b σ' _ (Dv _ _ _ _ _) e g;exact hR σ' _ this.1 this.2
theorem dG.IF (h:dG U F Y A T)(a m:Int){R:aN}(hR:∀σ' t,Ext F U σ'->dG σ' F Y {A with st:=V7 A.st a m 1 [2,3]} T->R t σ'):Xv.c (aW Y.tr) a m U R:=by
 obtain⟨G,i,q,d,_,b⟩:=h.nK;refine Pb d a m λσ' e g=>?_;have:=b σ' _ (Dv _ _ _ _ _) e g;exact hR σ' _ this.1 this.2
theorem dG.AW (h:dG U F Y A T)(k:Int){R:aN}(hR:∀σ' t,Ext F U σ'->dG σ' F Y {A with st:=iW A.st k} T->R t σ'):X1.c (aW Y.tr) k U R:=by
 obtain⟨G,g,q,b,_,a⟩:=h.nK;refine JA b k λσ' e d=>?_;have:=a σ' _ (L9 _ _) e d;exact hR σ' _ this.1 this.2
theorem dG.free (h:dG U F Y A T):∃sb ms,Go.Bu.BH U Y.fr A.n A.S sb ms/\∀(σ':Hp) (S:Nat->Bool),Ext (· ∈ ms) U σ'->Go.Bu.BH σ' Y.fr A.n S sb ms->Ext F U σ'/\dG σ' F Y {A with S:=S} T:=by
 obtain⟨G,i,⟨sb,ms,m,g⟩,_,d⟩:=h.step .free;have j:∀b,b∈ms->G b:=λb a=>g b (by unfold Go.Bu.fp;simp[a]);refine⟨sb,ms,m,λσ' S e p=>⟨e.sub λb a=>i b (j b a),?_⟩⟩;exact d σ' _ _ T G _ h.lay.AM h.tl yG (e.sub j) (λb a=>.inl a) ⟨sb,ms,p,g⟩ (ym i λb a=>a)
theorem dG.wh (h:dG U F Y A T)(a m:Int){R:aN}(hR:∀σ' t,Ext F U σ'->dG σ' F Y {A with S:=Qx A.n A.S a m} T->R t σ'):X6.c (aW Y.fr) a m U R:=by
 obtain⟨j,i,d,b⟩:=h.free;refine Go.Bu.qk d a m λσ' e g=>?_;have:=b σ' _ e g;exact hR σ' _ this.1 this.2
theorem dG.vd (h:dG U F Y A T)(a m:Int){R:Int->Int->Hp->Prop}(hR:∀σ',Ext F U σ'->dG σ' F Y {A with S:=Go.Bu.iN A.n A.S a m} T->R ((Go.Bu.iY A.n A.S a m:Nat):Int) (Go.Bu.iR A.n A.S a m) σ'):Xz.c (aW Y.fr) a m U R:=by
 obtain⟨j,i,d,b⟩:=h.free;refine Go.Bu.kU d a m λσ' e g=>?_;have:=b σ' _ e g;exact hR σ' this.1 this.2
def rV (rs:List (Nat×Nat)):List Value:=rs.flatMap λr=>[.int .i64 (r.1:Int),.int .i64 (r.2:Int)]
theorem Da (rs:List (Nat×Nat)):(rV rs).length=rs.length*2:=by
 induction rs with
 | nil=>rfl
 | cons x l ih=>simp only[rV,oy,zO,zY,lA]at *;omega
theorem JG {l:List (Nat×Nat)}{i:Nat}{r:Nat×Nat}(h:l[i]?=some r):(rV l)[2*i]?=some (.int .i64 (r.1:Int))/\(rV l)[2*i+1]?=some (.int .i64 (r.2:Int)):=by
 induction l generalizing i with
 | nil=>simp at h
 | cons x l ih=>
  have e:rV (x::l)=[.int .i64 (x.1:Int),.int .i64 (x.2:Int)]++rV l:=by simp[rV]
  rw[e];cases i with
  | zero=>simp at h;subst h;simp
  | succ i=>
   have:=ih (i:=i) (by simpa using h);rw[show 2*(i+1)=2*i+2 by omega];simpa using this
theorem Jw (c:bZ)(l:List Nat):iJ c l=rV (l.map λs=>(s,c.aF)):=by
 simp[iJ,rV,List.flatMap_map]
theorem Sd {s:Sl}{rs:List (Nat×Nat)}(h:cW s 2 (rV rs) U F){i:Nat}{r:Nat×Nat}(hr:rs[i]?=some r){K:Int->Int->Prop}(hK:K (r.1:Int) (r.2:Int)) :
 Ix s.a s.len (i:Int) 2 λa=>gA .i64 (a.add 0) U λu=>gA .i64 (a.add 1) U λw=>K u w:=by
 have g:=JG hr;have y:=(cV.1 hr).1;obtain⟨b,o,j,m⟩:=h.cell g.1;obtain⟨x,o1,d,e⟩:=h.cell g.2;rw[j]at d;cases d;have p:=h.1;rw[Da]at p;rw[j];refine ix O O ?_;rw[add_lit];refine nQ ?_ (nQ ?_ hK)<;>rw[add_lit]
 ·rw[show o+(i:Int).toNat*2+0=o+2*i by omega];exact m
 ·rw[show o+(i:Int).toNat*2+1=o+(2*i+1) by omega];exact e
theorem dG.mono {G:Rg}(h:dG U F Y A T)(hs:∀b,b<U.size->F b->G b):dG U G Y A T:=dM.mono dG.loc h hs
theorem dG.cut (h:dG U F Y A T):dG U (Cut F U) Y A T:=dM.cut dG.loc h
theorem M3 (A:AR)(rs:List (Nat×Nat))(r:Nat×Nat):VX A (rs++[r])=VU (VX A rs) r:=by simp[VX]
theorem Fg (h:dG U F Y A T){sl:Sl}{rs:List (Nat×Nat)}{X:Rg}(hs:cW sl 2 (rV rs) U X)(hX:∀b,b<U.size->X b->¬F b)(hl:rs.length<=1000000)(hb:∀r∈rs,r.1<=1000000){R:aP}
 (hR:∀σ',Ext F U σ'->dG σ' (Grow F U) Y (VX A rs) T->R σ'):XT.c (aW Y.p) sl U R:=by
 refine XT.o ?_;unfold XT.v;have W:sl.len=rs.length:=by have:=hs.1;rw[Da]at this;omega
 have B:cW sl 2 (rV rs) U (Cut X U):=aH.cut hs;refine ZX (a:=bN) (λ(t:Int) v=>∃i:Nat,t=(i:Int)/\i<=rs.length/\Ext F U v/\dG v (Grow F U) Y (VX A (rs.take i)) T) (λt _=>rs.length-t.toNat) ⟨0,rfl,O,Ext.refl _ _,by simpa[VX]using h.mono λb _ hb=>.inl hb⟩ ?_;rintro t v ⟨i,rfl,Q,e,K⟩;refine cQ (λhlt=>?_) λhge=>?_
 ·have w:i<rs.length:=by omega
  have y:rs[i]?=some rs[i]:=cU w;have N:=hb _ (j3 w);have z:=aH.bS B e λb M y u=>hX b M y.1 u;refine Sd z y ?_;have C:rs.take (i+1)=rs.take i++[rs[i]]:=by rw[k9,y];rfl
  generalize rs[i]=r at *;refine nw (cs:=[.int .i64 0,.int .i64 0]) λv4 hz4 e4 D=>D.s1 aA λv5 o5 b5=>b5.s1 aA λv6 o6 S=>?_;have s:bK v v6:=Ext.fresh (Ext.fresh e4 o5.ext λi Q=>O) o6.ext λi Q=>by omega
  have x:=K.cut.bO s;have V:¬Cut (Grow F U) v v.size:=λu=>by have:=u.2;omega
  have g:bY v6 v.size [.int .i64 (r.1:Int),.int .i64 (r.2:Int)]:=S;have z6:v.size<v6.size:=S.lt;refine aG (x.hd.rP rfl (g.rI rfl (g.rI rfl (x.Clear r.1 r.2 N λv7 t7 e7 E=>?_))));have L:=e7.bT g V;have d:=E.mono (G:=λb=>Cut (Grow F U) v b\/v.size<b) λb _ hb=>by
   rcases hb with hb|hb
   ·exact .inl hb
   ·exact .inr O
  have H:¬(Cut (Grow F U) v v.size\/v.size<v.size):=λu=>by
   rcases u with h|h
   ·exact V h
   ·omega
  refine aG (d.hd.rP rfl (L.rI rfl (L.rI rfl (d.uY _ _ λv8 t8 P j=>?_))));have Z:=P.bT L H;refine aG (j.hd.rP rfl (Z.rI rfl (Z.rI rfl (j.wh _ _ λv9 t9 e9 J=>?_))));have sub:∀b,(Cut (Grow F U) v b\/v.size<b)->Grow F U b:=λb hb=>by
   rcases hb with hb|hb
   ·exact hb.1
   ·exact .inr (by have:=e.1;omega)
  have ee:Ext F U v9:=((((e.trans (bK.to s)).ju (e7.sub λb hb=>hb.1))).ju (P.sub sub)).ju (e9.sub sub);refine cP (m:=i+1) O O ⟨⟨i+1,rfl,O,ee,?_⟩,O⟩;rw[C,M3];exact J.mono λb _ hb=>sub b hb
 ·have:i=rs.length:=by omega
  subst this;rw[mS]at K;exact hR v e K
end Go.Ar
namespace Go.Proofs
open Go.Vc
set_option maxRecDepth 100000
def XC.h:Hn:=.q .o1 (.q (.q .o3 .aK) (.q .o1 (.q (.q .o5 (.k (.loop [(3,.I)] (.q (.cR (.seq [.it .i64 .p,.op])) (.q (.c .l .l) (.k (.q (.cR (.seq [.it .i64 .p,.op,.op,.op,.op])) (.oq 17)))))))) .aL)))
def XC.v (a:R2)(b:Hp)(c:aN):Prop:=W4.c a b λd e=>If (!d) (c 0 e) (bI a 2 e λg=>nM .i64 .p g e λh i=>X9 [bN] (λj=>j 0 i) λk (l:Int) m=>nU .i64 .p h m (c l m) (λn o p=>nI .i64 .p h p λq r=>bE a 0 p λt=>Ix t.a t.len q 3 λu=>aQ u 0 p λv=>bE r 0 p λx=>bL (v*((x.len:Nat):Int)) λy=>bL (l+y) λz=>k z p))
theorem XC.o {a b c}(d:XC.v a b c):XC.c a b c:=Wa Tryz.func79 (x:=XC.h) (R0 d)
def W4.h:Hn:=.q .o1 (.q (.cR (.seq [.op,.op,.op,.cX true 5 (RI.ops 5),.op])) .l)
def W4.v (a:R2)(b:Hp)(c:aO):Prop:=bV (λd e=>c d e) λf=>If (!a.isNone) (bI a 2 b λh=>f (!h.isNone) b) (f false b)
theorem W4.o {a b c}(d:W4.v a b c):W4.c a b c:=Wa Tryz.func110 (x:=W4.h) (R0 d)
def QN.h:Hn:=.q .o2 (.q (.k (.q .o4 (.c .aL (.q (.cR (.seq [.op,.op,.op,.cX false 2 [.op,.op],.op])) .aJ)))) (.q .o8 .l))
def QN.v (a:Sl)(b:Int)(c:Hp)(d:Option Addr->Int->Hp->Prop):Prop:=Zv.c a c λe f=>If (!e) (d none 2 f) (bV (λg h=>If g (d none 1 h) (Wi.c a h λi j=>Nw (.map #[] 0) j λk l=>aV #[.slice i.a i.len i.cap,.I b,.map (some k.block)] 168 l λm n=>d (some m) 0 n)) λo=>If (b<0) (o true f) (o (decide (b>65536)) f))
theorem QN.o {a b c d}(e:QN.v a b c d):QN.c a b c d:=Wa Tryz.func144 (x:=QN.h) (R0 e)
def XV.h:Hn:=.q .o2 (.q .o8 (.q (.q .o2 (.c (.q .o3 .l) .l)) (.q (.q .o6 (.c (.q (.q .o9 (.q .o6 (.c .o8 (.o 11)))) .aL) .l)) (.q .o7 (.q .o8 (.q .gT (.q .gT (.q .o3 .l))))))))
def XV.v (a:R2)(b:Int)(c:Hp)(d:Int->Int->Hp->Prop):Prop:=Xi.c a b c λe f g=>If (f != 0) (d 0 f g) (bE e 0 g λi=>If (((i.len:Nat):Int)==0) (bE a 0 g λk=>Ix k.a k.len b 3 λl=>aQ l 2 g λm=>bD e 1 g λo=>If (o<m) (bD e 1 g λq=>bL (q+1) λr=>bU e λs=>aR s 1 (.I r) g λt=>d 0 4 t) (bD e 1 g λv=>bL (v+m) λw=>bU e λx=>aR x 1 (.I (if 128<w then 128 else w)) g λy=>d 0 4 y)) (bE e 0 g λaa=>bL (((aa.len:Nat):Int)-1) λab=>bE e 0 g λad=>Ix ad.a ad.len ab 1 λae=>bM ae g λaf=>bE e 0 g λah=>eY ah 1 0 ab (ah.cap:Nat) λai=>bU e λaj=>aR aj 0 (.slice ai.a ai.len ai.cap) g λak=>bD e 2 ak λam=>bU e λan=>aR an 2 (.I (if ab<am then ab else am)) ak λao=>d af 0 ao))
theorem XV.o {a b c d}(e:XV.v a b c d):XV.c a b c d:=Wa Tryz.func147 (x:=XV.h) (R0 e)
def X4.h:Hn:=.q .o2 (.q .o8 (.q (.q .o2 (.c (.q .o3 .l) .l)) (.q (.oq 15) .l)))
def X4.v (a:R2)(b:Int)(c:Hp)(d:Int->Int->Hp->Prop):Prop:=Xi.c a b c λe f g=>If (f != 0) (d 0 f g) (bD e 1 g λi=>bE a 0 g λk=>Ix k.a k.len b 3 λl=>aQ l 2 g λm=>d (if m<i then m else i) 0 g)
theorem X4.o {a b c d}(e:X4.v a b c d):X4.c a b c d:=Wa Tryz.func149 (x:=X4.h) (R0 e)
def X3.h:Hn:=.q .o1 (.q .o8 (.q (.q .o2 .aJ) (.q .o3 (.q .o2 (.q .o4 .l)))))
def X3.v (a:R2)(b:Int)(c:Sl)(d:Hp)(e:aN):Prop:=Xi.c a b d λf g h=>If (g != 0) (e g h) (WC.c c h λi j=>WR.c i j λk=>WS.c f i k λl m=>e l m)
theorem X3.o {a b c d e}(f:X3.v a b c d e):X3.c a b c d e:=Wa Tryz.func154 (x:=X3.h) (R0 f)
def Yu.h:Hn:=.q .o2 (.q .o8 (.q (.q .o2 (.c (.q .o3 .l) .l)) (.q (.q .o5 (.q .o2 (.c (.q .o3 .l) .l))) (.q (.q (.oq 10) .aJ) (.q .o9 (.kg [] (.q .o6 (.c .o8 .l)) (.q (.o 11) .l)))))))
def Yu.v (a:R2)(b c:Int)(d:Hp)(e:Sl->Int->Hp->Prop):Prop:=Xi.c a b d λf g h=>If (g != 0) (e ⟨none,0,0⟩ g h) (aV #[.I c] 3 h λi j=>WS.c f ⟨some i,1,1⟩ j λk l=>If (k != 0) (e ⟨none,0,0⟩ k l) (bE f 0 l λn=>bD f 1 l λp=>If (((n.len:Nat):Int)<=p) (e ⟨none,0,0⟩ 0 l) (bE a 0 l λr=>Ix r.a r.len b 3 λs=>aQ s 2 l λt=>Jn [] (λu=>bE f 0 u λw=>W0.c f (if((w.len:Nat):Int)<t then((w.len:Nat):Int)else t) u λx y=>e x 0 y) λz=>bD f 1 l λab=>If (ab<t) (bD f 1 l λad=>bL (ad+1) λae=>bU f λaf=>aR af 1 (.I ae) l λag=>z ag) (z l))))
theorem Yu.o {a b c d e}(f:Yu.v a b c d e):Yu.c a b c d e:=Wa Tryz.func157 (x:=Yu.h) (R0 f)
def X8.h:Hn:=.q .o1 (.q (.cR (.gL false [] [(2,.one .b)] (.take 0 (.all [(1,.take 2 (.split 5 (.tk [3,5,6,7] (.all [(4,.all [(8,.tk [9,10,11] (.done))]),(8,.all [(4,.tk [9,10,11] (.done))])])) (.tk [3,4,5,6,7,8,9,10,11] (.done))))])))) .l)
def X8.v (a:R2)(b:Hp)(c:aO):Prop:=Jn [.b] (λ(d:Bool) e=>c d e) λf=>W4.c a b λg h=>If g (bU a λi=>(XC.c a h λj k=>aQ i 1 k λl=>f (decide (j>l)) k) ∧ (aQ i 1 h λm=>XC.c a h λn o=>f (decide (n>m)) o)) (f false h)
theorem X8.o {a b c}(d:X8.v a b c):X8.c a b c:=Wa Tryz.func158 (x:=X8.h) (R0 d)
def WX.h:Hn:=.q .o1 (.q .o3 .l)
def WX.v (a:R2)(b:Hp)(c:Sl->Hp->Prop):Prop:=W9.c a ⟨216,#[],#[]⟩ b λd e=>c d e
theorem WX.o {a b c}(d:WX.v a b c):WX.c a b c:=Wa Tryz.func159 (x:=WX.h) (R0 d)
def XD.h:Hn:=.q .o1 (.q .o3 .l)
def XD.v (a:R2)(b:Hp)(c:Sl->Hp->Prop):Prop:=W9.c a ⟨218,#[],#[]⟩ b λd e=>c d e
theorem XD.o {a b c}(d:XD.v a b c):XD.c a b c:=Wa Tryz.func164 (x:=XD.h) (R0 d)
def Xi.h:Hn:=.q .o2 (.q (.q .o3 .aJ) (.q .o4 (.q (.q .o2 .aJ) (.q .o3 .l))))
def Xi.v (a:R2)(b:Int)(c:Hp)(d:Option Addr->Int->Hp->Prop):Prop:=W4.c a c λe f=>If (!e) (d none 5 f) (Zl.c a b f λg h=>If g.isNone (d none 1 h) (d g 0 h))
theorem Xi.o {a b c d}(e:Xi.v a b c d):Xi.c a b c d:=Wa Tryz.func204 (x:=Xi.h) (R0 e)
def WS.h:Hn:=.q .o1 (.q (.q .o9 .aK) (.q (.o 11) .aM))
def WS.v (a:R2)(b:Sl)(c:Hp)(d:aN):Prop:=bE a 0 c λf=>bL (((f.len:Nat):Int)+((b.len:Nat):Int)) λg=>If (g>256) (d 6 c) (bE a 0 c λi=>Xa.c i c λj k=>App j 1 8 3 [.I 0] b k λl m=>bU a λn=>aR n 0 (.slice l.a l.len l.cap) m λo=>d 0 o)
theorem WS.o {a b c d}(e:WS.v a b c d):WS.c a b c d:=Wa Tryz.func212 (x:=WS.h) (R0 e)
def W0.h:Hn:=.q .o1 (.q .o8 (.q (.o 11) (.q (.cR (.tail 13 (RI.ops 13) [.op])) .aL)))
def W0.v (a:R2)(b:Int)(c:Hp)(d:Sl->Hp->Prop):Prop:=bE a 0 c λf=>eY f 1 0 b (f.cap:Nat) λg=>WC.c g c λh i=>bE a 0 i λk=>eY k 1 b (k.len:Nat) (k.cap:Nat) λl=>WC.c l i λm n=>bU a λo=>aR o 0 (.slice m.a m.len m.cap) n λp=>bD a 2 p λr=>bE a 0 p λt=>bU a λu=>aR u 2 (.I (if((t.len:Nat):Int)<r then((t.len:Nat):Int)else r)) p λv=>d h v
theorem W0.o {a b c d}(e:W0.v a b c d):W0.c a b c d:=Wa Tryz.func214 (x:=W0.h) (R0 e)
def W9.h:Hn:=.q .o1 (.q (.q .o3 .aK) (.q .o1 (.q (.q .o5 (.k (.loop [(5,.one .s)] (.q (.cR (.seq [.it .i64 .p,.op])) (.q (.c .l .l) (.k (.q (.cR (.seq [.it .i64 .p,.op,.op,.op,.op])) (.q (.o 12) (.q .o3 (.c .o7 .l)))))))))) (.q .o2 .aL))))
def W9.v (a:R2)(b:Fv)(c:Hp)(d:Sl->Hp->Prop):Prop:=W4.c a c λe f=>If (!e) (d ⟨none,0,0⟩ f) (bI a 2 f λh=>nM .i64 .p h f λi j=>X9 [.s] (λk=>k ⟨none,0,0⟩ j) λl (m:Sl) n=>nU .i64 .p i n (ZR.c m ⟨264,#[],#[]⟩ n λo=>d m o) (λp q r=>nI .i64 .p i r λs t=>bE a 0 r λv=>Ix v.a v.len s 3 λw=>aQ w 2 r λx=>VM Tryz.prog b [.pointer t,.I x] [.one .s] r λy z=>If (((y.len:Nat):Int)>0) (aV #[.I s,.slice y.a y.len y.cap] 135 z λaa ab=>App m 2 32 135 [.I 0,.slice none 0 0] ⟨some aa,1,1⟩ ab λac ad=>l ac ad) (l m z)))
theorem W9.o {a b c d}(e:W9.v a b c d):W9.c a b c d:=Wa Tryz.func215 (x:=W9.h) (R0 e)
def Xn.h:Hn:=.q .o1 (.q .o9 (.kg [] (.q .o6 (.c (.o 12) .l)) (.q .o9 .aL)))
def Xn.v (a:R2)(b:Int)(c:Hp)(d:Sl->Hp->Prop):Prop:=bD a 2 c λf=>bL (f+1) λg=>Nz 2<|bL (g.tdiv 2) λh=>W0.c a h c λi j=>Jn [] (λk=>bE a 0 k λm=>bU a λn=>aR n 2 (.I ((m.len:Nat):Int)) k λo=>d i o) λp=>bD a 1 j λr=>If (r>b) (bD a 1 j λt=>bL (t-b) λu=>bU a λv=>aR v 1 (.I (if b>u then b else u)) j λw=>p w) (p j)
theorem Xn.o {a b c d}(e:Xn.v a b c d):Xn.c a b c d:=Wa Tryz.func216 (x:=Xn.h) (R0 e)
def Yn.h:Hn:=.q .o1 (.q .o8 .l)
def Yn.v (a:R2)(b:Int)(c:Hp)(d:Sl->Hp->Prop):Prop:=bE a 0 c λf=>W0.c a ((f.len:Nat):Int) c λg h=>d g h
theorem Yn.o {a b c d}(e:Yn.v a b c d):Yn.c a b c d:=Wa Tryz.func218 (x:=Yn.h) (R0 e)
def Zl.h:Hn:=.q .o1 (.q (.q (.cR (.seq [.op,.op,.op,.op,.cX false 2 [.op,.op],.op,.cX false 7 (RI.ops 7)])) .aK) (.kg [] (.q .o7 (.c .o8 .l)) (.q .o7 .l)))
def Zl.v (a:R2)(b:Int)(c:Hp)(d:Option Addr->Hp->Prop):Prop:=W4.c a c λe f=>bV (λg h=>bV (λi j=>If i (d none j) (Jn [] (λk=>bI a 2 k λm=>Lk .i64 .p m b k λn=>d (n.getD none) k) λo=>bU a λp=>bB p 2 j λq=>Lk .i64 .p q b j λr=>If ((r.getD none).isNone) (bI a 2 j λt=>aV #[.slice none 0 0,.I 1,.I 0] 171 j λu v=>kf .i64 .p t b (some u) v λw=>o w) (o j))) λx=>If g (x true h) (bE a 0 h λz=>x (decide (b≥((z.len:Nat):Int))) h)) λaa=>If (!e) (aa true f) (aa (decide (b<0)) f)
theorem Zl.o {a b c d}(e:Zl.v a b c d):Zl.c a b c d:=Wa Tryz.func248 (x:=Zl.h) (R0 e)
end Go.Proofs
namespace Go.Ar
open Go Go.Vc Go.Proofs
theorem cW.sub {U:Hp}{F:Rg}{s:Sl}{sz:Nat}{xs:List Value}(h:cW s sz xs U F){lo hi mx:Nat}(h1:lo<=hi)(h2:hi<=s.len)(h3:hi<=mx) :
 cW ⟨if mx=lo then s.a else s.a.map (·.add (lo*sz)),hi-lo,mx-lo⟩ sz ((xs.drop (lo*sz)).take ((hi-lo)*sz)) U F:=by
 have e:=h.1;have e1:hi*sz<=s.len*sz:=lU _ h2;have e2:(hi-lo)*sz=hi*sz-lo*sz:=Nat.sub_mul _ _ _;have g:lo*sz<=hi*sz:=lU _ h1;refine⟨by rw[zZ,jZ];simp only;omega,?_⟩;by_cases hm:mx=lo
 ·left;have:hi-lo=0:=by omega
  rw[this,ux,xw]
 ·rcases h.2 with h0|⟨b,o,cs,hb,ha,hq,hc⟩
  ·left;subst h0;simp
  ·refine .inr ⟨b,o+lo*sz,cs,hb,?_,hq,λj d=>?_⟩
   ·simp only[zB hm,ha,zX,add_lit]
   ·rw[zZ,jZ]at d;rw[vR,hc _ O,zj,kW,zC O]
inductive tK where
 | hd|dD|mp
 | li (k:Nat)
 deriving DecidableEq
structure gS where
 p:Nat
 m:Nat
 dD:Sl
 ps:List (Nat×Nat)
def iU (ps:List (Nat×Nat))(k:Nat):Option Nat:=(ps.find? λx=>x.1==k).map (·.2)
def jV (ps:List (Nat×Nat)):List (Int×Option Addr):=ps.map λx=>((x.1:Int),some ⟨x.2,0,none⟩)
def mJ (s:Sl)(l:Li):List Value:=[.slice s.a s.len s.cap,.int .i64 (l.lim:Int),.int .i64 (l.low:Int)]
def iO (b:Nat)(l:Li):Hp->Rg->Prop:=λU F=>F b/\fL l/\∃s:Sl,bY U b (mJ s l)/\cW s 1 (Wo l.os) U (λq=>F q/\q≠b)/\s.len<=s.cap
def nW (b:Option Nat)(l:Option Li):Hp->Rg->Prop:=λU F=>match b,l with
 | some b,some l=>iO b l U F
 | none,some l=>l=ij
 | _,none=>True
def Cd (Y:gS)(bud:Nat):List Value:=[.slice Y.dD.a Y.dD.len Y.dD.cap,.int .i64 (bud:Int),.map (some Y.m)]
def CC (tb:List bZ)(bud:Nat)(ls:List Li)(Y:gS):tK->Hp->Rg->Prop
 | .hd=>iq Y.p (Cd Y bud)
 | .dD=>cW Y.dD 3 (fZ tb)
 | .mp=>jE Y.m .i64 .p (jV Y.ps)
 | .li k=>nW (iU Y.ps k) ls[k]?
theorem iO.loc (b:Nat)(l:Li):dM (iO b l):=by
 rintro U y F G ⟨x,w,s,j,u,p⟩ r a;have i:=a b j.lt x;obtain⟨e,m⟩:=j;exact⟨i.1,w,s,⟨e,i.2.trans m⟩,cW.loc _ _ _ _ _ _ _ u r λq g d=>⟨⟨(a q g d.1).1,d.2⟩,(a q g d.1).2⟩,p⟩
theorem nW.loc (b:Option Nat)(l:Option Li):dM (nW b l):=by
 intro U σ' F G h hz hs;unfold nW at *;split at h
 ·exact iO.loc _ _ _ _ _ _ h hz hs
 ·exact h
 ·trivial
theorem CC.loc {tb:List bZ}{bud:Nat}{ls:List Li}{Y:gS}:∀i,dM (CC tb bud ls Y i)
 | .hd=>iq.loc _ _
 | .dD=>cW.loc _ _ _
 | .mp=>jE.loc _ _ _ _
 | .li k=>nW.loc _ _
structure eC (U:Hp) (F:Rg) (Y:gS) (tb:List bZ) (bud:Nat) (ls:List Li):Prop where
 nv:tb.length<=40
 ok:∀c∈tb,c.ok
 len:ls.length=tb.length
 keys:∀x∈Y.ps,x.1<tb.length
 sep:Sep (CC tb bud ls Y) U F
variable {U:Hp}{F G:Rg}{Y:gS}{tb:List bZ}{bud:Nat}{ls:List Li}{b k:Nat}{l:Li}
theorem eC.loc:dM λU F=>eC U F Y tb bud ls:=λU d F G h a b=>⟨h.nv,h.ok,h.len,h.keys,Sep.loc CC.loc _ _ _ _ h.sep a b⟩
theorem eC.bO {σ':Hp}(h:eC U F Y tb bud ls)(e:bK U σ'):eC σ' F Y tb bud ls:=dM.bO eC.loc h e
theorem eC.hd (h:eC U F Y tb bud ls):bY U Y.p (Cd Y bud):=by
 obtain⟨G,b,a⟩:=h.sep.get .hd;exact a.2
theorem eC.jy (h:eC U F Y tb bud ls):cW Y.dD 3 (fZ tb) U F:=by
 obtain⟨G,d,a⟩:=h.sep.get .dD;exact aH.mono a λb _ a=>d b a
theorem eC.oM (h:eC U F Y tb bud ls):Y.dD.len=tb.length:=by
 have:=h.jy.1;rw[VH]at this;omega
theorem eC.map (h:eC U F Y tb bud ls):dH U Y.m .i64 .p (jV Y.ps):=by
 obtain⟨G,b,a⟩:=h.sep.get .mp;exact a.2
theorem Bg (ps:List (Nat×Nat))(k:Nat):bW (α:=Option Addr) (jV ps) (k:Int)=(iU ps k).map λb=>some ⟨b,0,none⟩:=by
 induction ps with
 | nil=>rfl
 | cons x l ih=>
  simp only[bW,jV,iU,zS,ui]at *;have e:(((x.1:Nat):Int)==(k:Int))=(x.1==k):=lE _ _;rw[e];cases x.1==k
  ·exact ih
  ·rfl
theorem EI {ps:List (Nat×Nat)}(h:iU ps k=none):∀x∈ps,x.1≠k:=by
 unfold iU at h;simp only[qZ,nH,zT]at h;exact h
theorem Pj {ps:List (Nat×Nat)}(h:iU ps k=none)(b:Nat):dB (α:=Option Addr) (jV ps) (k:Int) (some ⟨b,0,none⟩)=jV (ps++[(k,b)]):=by
 unfold dB;rw[zB]
 ·simp[jV]
 ·simp only[jV,List.any_map,kC,Function.comp,zT,not_exists,not_and];intro x hx e;exact EI h x hx O
theorem Uu {ps:List (Nat×Nat)}(h:iU ps k=none)(b j:Nat):iU (ps++[(k,b)]) j=if j=k then some b else iU ps j:=by
 have a:=EI h;unfold iU at *;rw[List.find?_append];by_cases hj:j=k
 ·subst hj;have:ps.find? (λx=>x.1==j)=none:=by simpa using h
  rw[this];simp
 ·rw[zB hj];cases hf:ps.find? (λx=>x.1==j)with
  | none=>
   have:(k==j)=false:=by simpa using λe=>hj e.symm
   simp[this]
  | some x=>simp
theorem EE {ps:List (Nat×Nat)}(hn:((jV ps).map (·.1)).Nodup)(h:(k,b)∈ps):iU ps k=some b:=by
 induction ps with
 | nil=>simp at h
 | cons x l ih=>
  simp only[jV,zS,zr]at hn;unfold iU;rw[ui];rcases zW.1 h with rfl|h
  ·simp
  ·have:(x.1==k)=false:=by
    have:x.1≠k:=λe=>hn.1 (zE.2 ⟨(((k:Nat):Int),some ⟨b,0,none⟩),zE.2 ⟨(k,b),h,rfl⟩,by rw[e]⟩);simpa using this
   rw[this];exact ih hn.2 h
theorem UP (h:eC U F Y tb bud ls){R:aO}(hR:R true U):W4.c (aW Y.p) U R:=by
 refine W4.o ?_;unfold W4.v;exact bV.intro (cE rfl (aG (h.hd.rM rfl hR)))
theorem eC.vL (h:eC U F Y tb bud ls)(hb:iU Y.ps k=some b)(hl:ls[k]?=some l):∃G:Rg,(∀q,G q->F q)/\iO b l U G/\¬G Y.m ∧
 ∀(σ':Hp) (l':Li) (G':Rg),Ext G U σ'->(∀q,G' q->Grow G U q)->iO b l' σ' G'->Ext F U σ'/\eC σ' (λq=>F q/\q<U.size/\¬G q\/G' q) Y tb bud (ls.set k l'):=by
 have i:=(cV.1 hl).1;obtain⟨G,s,g,d,a⟩:=h.sep.jQ CC.loc (.li k);have g:iO b l U G:=by
  simp only[CC,nW,hb,hl]at g;exact g
 have p:¬G Y.m:=by
  obtain⟨H,_,hd,r⟩:=d .mp (by intro e;cases e);exact hd _ r.1
 refine⟨G,s,g,p,λσ' l' G' e u x=>⟨e.sub s,h.nv,h.ok,by rw[nR];exact h.len,h.keys,?_⟩⟩;refine a σ' (CC tb bud (ls.set k l') Y) G' (λj w=>?_) e u ?_ (CC.loc _)
 ·cases j<;>try rfl
  rename_i m;have p:m≠k:=λe=>w (by rw[e]);simp only[CC,zk (Ne.symm p)]
 ·simp only[CC,nW,hb,zM i];exact x
theorem eC.mono (h:eC U F Y tb bud ls)(hs:∀q,q<U.size->F q->G q):eC U G Y tb bud ls:=dM.mono eC.loc h hs
theorem eC.cut (h:eC U F Y tb bud ls):eC U (Cut F U) Y tb bud ls:=dM.cut eC.loc h
theorem eC.fC {v:Hp}(h:eC v (Grow F U) Y tb bud ls)(e0:Ext F U v)(hb:iU Y.ps k=some b)(hl:ls[k]?=some l):∃G:Rg,iO b l v G ∧
 ∀(σ':Hp) (l':Li) (G':Rg),Ext G v σ'->(∀q,G' q->Grow G v q)->iO b l' σ' G'->Ext F U σ'/\eC σ' (Grow F U) Y tb bud (ls.set k l'):=by
 obtain⟨G,p,j,_,d⟩:=h.vL hb hl;refine⟨G,j,λσ' l' G' e i g=>?_⟩;obtain⟨e1,m⟩:=d σ' l' G' e i g;refine⟨e0.ju e1,m.mono λq _ a=>?_⟩;have:=e0.1;rcases a with a|a
 ·exact a.1
 ·rcases i q a with h2|h2
  ·exact p q h2
  ·exact .inr O
theorem M9 (h:eC U F Y tb bud ls)(hk:k<tb.length){R:Option Addr->Hp->Prop}(hR:∀σ' Y' b,Ext F U σ'->Y'.p=Y.p->iU Y'.ps k=some b->eC σ' (Grow F U) Y' tb bud ls->R (some ⟨b,0,none⟩) σ') :
 Zl.c (aW Y.p) (k:Int) U R:=by
 refine Zl.o ?_;unfold Zl.v;have B:k<ls.length:=by rw[h.len];exact hk
 have D:ls[k]?=some ls[k]:=cU B;generalize ls[k]=l at D;have N:=h.oM;refine UP h (bV.intro (cB rfl ?_));refine bV.intro (fR O (aG (h.hd.rS rfl ?_)));refine fR aC ?_;refine Jn.intro (aG (h.hd.rM rfl ⟨_,h.map,?_⟩));rw[Bg];cases hf:iU Y.ps k with
 | some b=>
  refine cB rfl (aG (h.hd.rM rfl ⟨_,h.map,?_⟩));rw[Bg,hf];exact hR U Y b (Ext.refl _ _) rfl hf (h.mono λq _ a=>.inl a)
 | none=>
  refine cE rfl (aG (h.hd.rM rfl (nw (cs:=[.slice none 0 0,.int .i64 1,.int .i64 0]) λv Q e y=>?_)));obtain⟨G,H,u,S,hd,g,w,r⟩:=h.cut.sep.oJ CC.loc .mp (.li k) (by intro e;cases e);have M:∀q,G q->F q:=λq a=>(u q a).1;have g:jE Y.m .i64 .p (jV Y.ps) U G:=g;have w:l=ij:=by
   simp only[CC,nW,hf,D]at w;exact w
  have K:=g.2.lt;have J:dH v Y.m .i64 .p (jV Y.ps):=e.fQ g.2 id;refine⟨Y.m,_,rfl,J,λv2 E s=>?_⟩;rw[Pj hf]at s;have e2:Ext F U v2:=(bK.to e).only E (.inl (M _ g.1));have C:Ext (λq=>G q\/H q) U v2:=(bK.to e).only E (.inl (.inl g.1));have A:bY v2 U.size [.slice none 0 0,.int .i64 1,.int .i64 0]:=Ws E y O;have d:eC v2 (Grow F U) {Y with ps:=Y.ps++[(k,U.size)]} tb bud ls:=by
   refine⟨h.nv,h.ok,h.len,λx i=>?_,?_⟩
   ·rcases zL.1 i with i|i
    ·exact h.keys x i
    ·simp only[zN]at i;subst i;exact hk
   refine(Sep.loc CC.loc).mono (r v2 (CC tb bud ls {Y with ps:=Y.ps++[(k,U.size)]}) G (· = U.size) (λj z L=>?_) C (λq a=>.inl (.inl a)) (λq a=>.inr O) (λq z L=>?_) ⟨g.1,s⟩ ?_ CC.loc) λq _ a=>?_
   ·cases j<;>first|rfl|exact absurd rfl z|skip
    rename_i m;have P:m≠k:=λe=>L (by rw[e]);simp only[CC,Uu hf,zB P]
   ·have:=(u q z).2;omega
   ·simp only[CC,Uu hf,zR,D,w,nW];exact⟨rfl,fL.nil,⟨none,0,0⟩,A,cW.nil _ _ _ _,zD _⟩
   ·rcases a with a|a|a
    ·exact .inl a.1.1
    ·exact .inl (M q a)
    ·exact .inr O
  refine aG (d.hd.rM rfl ⟨_,d.map,?_⟩);rw[Bg,Uu hf,zC rfl];exact hR v2 {Y with ps:=Y.ps++[(k,U.size)]} U.size e2 rfl (by show iU (Y.ps++[(k,U.size)]) k=_;rw[Uu hf,zC rfl]) d
theorem Gh (h:eC U F Y tb bud ls)(hk:k<tb.length){R:Option Addr->Int->Hp->Prop}(hR:∀σ' Y' b,Ext F U σ'->Y'.p=Y.p->iU Y'.ps k=some b->eC σ' (Grow F U) Y' tb bud ls->R (some ⟨b,0,none⟩) 0 σ') :
 Xi.c (aW Y.p) (k:Int) U R:=by
 refine Xi.o ?_;unfold Xi.v;exact UP h (cB rfl (M9 h hk λσ' Y' b e g a d=>cB rfl (hR σ' Y' b e g a d)))
theorem bR.qm {s:Sl}{sz:Nat}{xs:List Value}(h:bR s sz xs U F):s.len<=s.cap:=by
 rcases h.2 with⟨q1,q2⟩|⟨_,_,_,_,_,q,_⟩
 ·omega
 ·exact q
theorem Hl (h:iO b l U G){m:Nat}(hm:m<=l.os.length){R:Sl->Hp->Prop}
 (hR:∀s z σ',Ext (· = b) U σ'->U.size<=z->bR s 1 (Wo (l.os.take m)) σ' (λq=>U.size<=q/\q<z)->iO b (gp m l).2 σ' (λq=>q=b\/z<=q)->R s σ') :
 W0.c (aW b) (m:Int) U R:=by
 refine W0.o ?_;unfold W0.v;obtain⟨W,d,s,y,E,X⟩:=h;have N:s.len=l.os.length:=by have:=E.1;simp[Wo]at this;omega
 have J:=d.many;have L:=d.low;have u:=cW.sub E (lo:=0) (hi:=m) (mx:=s.cap) O O O;have e1:((Wo l.os).drop (0*1)).take ((m-0)*1)=Wo (l.os.take m):=by simp[Wo]
 rw[e1]at u;refine aG (y.rS rfl (iM (lo:=0) O aC aC (UR u Vt aC λs1 K P x B=>?_)));have i:=x.bT y id;have C:=aH.bO E x;have g:=cW.sub C (lo:=m) (hi:=s.len) (mx:=s.cap) O O O;have e2:((Wo l.os).drop (m*1)).take ((s.len-m)*1)=Wo (l.os.drop m):=by
  rw[mQ (by simp[Wo];omega)];simp[Wo]
 rw[e2]at g;refine aG (i.rS rfl (iM aC aC aC (UR g Vt aC λs2 V F A w=>?_)));have D:=A.bT i id;refine aG (D.s1 (by simp[mJ]) λv3 o3 e=>aG (e.rI rfl (aG (e.rS rfl (aG (e.s1 (by simp[mJ]) λv4 o4 j=>?_))))));have a:Ext (· = b) V v4:=o3.ext.trans o4.ext;have Q:=y.lt;have H:=x.1;have p:s2.len=l.os.length-m:=by rw[F];simp only;omega
 refine hR s1 K.size v4 ((bK.to (x.trans A)).trans a) H ?_ ⟨.inl rfl,xZ d,s2,?_,?_,bR.qm w⟩
 ·refine aI.bS (aI.bO (aI.mono B (G:=λq=>U.size<=q/\q<K.size) λq r S=>⟨S,r⟩) A) a λq _ r M=>by omega
 ·have:(if((s2.len:Nat):Int)<(l.low:Int)then((s2.len:Nat):Int)else(l.low:Int))=((min l.low (l.os.length-m):Nat):Int):=by rw[p];split<;>omega
  rw[this]at j;exact j
 ·refine aH.mono (aH.bS w.gF a λq _ r M=>O) λq _ r=>⟨.inr r,O⟩
theorem I4 (h:iO b l U G){sl:Sl}{xs:List Int}{X:Rg}(hs:cW sl 1 (Wo xs) U X)(hx:xs≠[])(hfit:l.os.length+xs.length<=256){R:aN}
 (hR:∀σ',Ext (· = b) U σ'->iO b (eA xs l) σ' (λq=>q=b\/U.size<=q)->R 0 σ'):WS.c (aW b) sl U R:=by
 refine WS.o ?_;unfold WS.v;obtain⟨H,w,s,g,d,J⟩:=h;have B:s.len=l.os.length:=by have:=d.1;simp[Wo]at this;omega
 have A:sl.len=xs.length:=by have:=hs.1;simp[Wo]at this;omega
 have z:=pC.2 hx;have y:eA xs l = {l with os:=l.os++xs}:=by unfold eA;rw[zB O]
 refine aG (g.rS rfl (cP (m:=l.os.length+xs.length) aC O (fR O (aG (g.rS rfl ?_)))));refine Xa.o ?_;unfold Xa.v;refine iM (lo:=0) aC aC aC ?_;have E:=g.lt;refine⟨Wo l.os,Wo xs,by simp[Wo];omega,by simp[Wo];omega,?_,hs.rd,Vt,?_,by simp only;omega,λr=>by simp only at r;omega,λx c p=>?_⟩
 ·by_cases h0:s.len=0
  ·have:l.os=[]:=u9.1 O;rw[this];simp only[h0,zR];cases s.a<;>simp[Rd,Wo]
  ·simp only[zB h0,ux];have:=d.rd;cases ha:s.a with
   | none=>rw[ha]at this;simpa[Rd]using this
   | some a=>rw[ha]at this;simpa[Rd,Addr.add_zero']using this
 ·simp only;have:(s.len-0+sl.len)*8<=256*8:=lW O O;omega
 ·refine nw λv K e i=>aG ((e.bT g id).s1 (by simp[mJ]) λF o2 u=>?_);have D:l.os.length+xs.length<=c:=by simp only at p;omega
  refine hR F ((bK.to e).trans o2.ext) ?_;rw[y];have:=xy (xs:=xs) w;rw[y]at this;refine⟨.inl rfl,this,⟨some ⟨U.size,0,none⟩,s.len-0+sl.len,c⟩,u,⟨by simp[Wo];omega,.inr ⟨U.size,0,_,⟨.inr (zD _),O⟩,rfl,(Ws o2 i O).q,λj C=>?_⟩⟩,by simp only;omega⟩;simp only[Wo,zl,zO]at C;rw[zH,ka,←ka,ze (by simp[Wo];omega)];simp[Wo]
theorem JT (h:iO b l U G){sl:Sl}{xs:List Int}{X:Rg}(hs:cW sl 1 (Wo xs) U X)(hfit:¬l.os.length+xs.length<=256)(hxs:xs.length<=1000000){R:aN}
 (hR:R 6 U):WS.c (aW b) sl U R:=by
 refine WS.o ?_;unfold WS.v;obtain⟨j,d,s,g,a,p⟩:=h;have i:s.len=l.os.length:=by have:=a.1;simp[Wo]at this;omega
 have e:sl.len=xs.length:=by have:=hs.1;simp[Wo]at this;omega
 have:=d.many;exact aG (g.rS rfl (cP (m:=l.os.length+xs.length) aC O (lT O hR)))
end Go.Ar
namespace Go.Ar
open Go Go.Vc Go.Proofs
variable {U:Hp}{F G:Rg}{Y:gS}{tb:List bZ}{bud:Nat}{ls:List Li}{b k:Nat}{l:Li}{c:bZ}
theorem eC.cls (h:eC U F Y tb bud ls)(hc:tb[k]?=some c):c.ok/\k<tb.length:=⟨h.ok c (zG hc),(cV.1 hc).1⟩
theorem iO.st {v:Hp}(h:iO b l U G){s:Sl}{l':Li}(ho:Ext (· = b) U v)(hb:bY v b (mJ s l'))(hs:cW s 1 (Wo l'.os) U (λq=>G q/\q≠b))(hc:s.len<=s.cap)(ok:fL l'):iO b l' v G:=
 ⟨h.1,ok,s,hb,aH.bS hs ho λq _ a d=>a.2 d,hc⟩
theorem kU (h:eC U F Y tb bud ls)(hc:tb[k]?=some c)(hl:ls[k]?=some l){R:Int->Int->Hp->Prop}
 (hR:∀σ' Y',Ext F U σ'->Y'.p=Y.p->eC σ' (Grow F U) Y' tb bud (ls.set k (QY c l).2)->R ((QY c l).1.getD 0) (if(QY c l).1.isSome then 0 else 4) σ'):XV.c (aW Y.p) (k:Int) U R:=by
 obtain⟨u,hk⟩:=h.cls hc;refine XV.o ?_;unfold XV.v;refine Gh h hk λv Y' b e Z hb W=>cB rfl ?_;obtain⟨G,hL,C⟩:=W.fC e hb hl;have A:=hL;obtain⟨Q,i,s,g,L,w⟩:=hL;have E:=W.hd;rw[Z]at E;have V:s.len=l.os.length:=by have:=L.1;simp[Wo]at this;omega
 have o1:=i.low;have o2:=i.many;have o3:=i.lim;have o4:=i.nj;have a:=Ce u i;have fin:∀v' G',Ext G v v'->(∀q,G' q->Grow G v q)->iO b (QY c l).2 v' G'->R ((QY c l).1.getD 0) (if(QY c l).1.isSome then 0 else 4) v':=λv' G' S hg N=>by
  obtain⟨e2,h2⟩:=C v' _ G' S hg N;exact hR v' Y' e2 Z h2
 unfold bZ.ok at u;have B:∀{v':Hp},Ext (· = b) v v'->Ext G v v':=λS=>S.sub λq y=>by rw[y];exact Q
 refine aG (g.rS rfl ?_);by_cases h0:l.os=[]
 ·have e1:(QY c l).1=none:=by unfold QY;rw[h0];rfl
  have e2:(QY c l).2=if l.lim<c.batch then{l with lim:=l.lim+1}else{l with lim:=min (l.lim+c.batch) 128}:=by unfold QY;rw[h0];rfl
  rw[e1,e2]at fin;rw[e2]at a;refine cE (by simp[V,h0]) (aG (E.rS rfl (sQ W.jy hc (d:=2) O ?_)));simp only[zB (show ¬(2=0) by omega),zB (show ¬(2=1) by omega)];refine aG (g.rI rfl (cQ (λc1=>?_) λc1=>?_))
  ·have z:l.lim<c.batch:=by omega
   rw[zC z]at fin a;refine aG (g.rI rfl (cP (m:=l.lim+1) O O (aG (g.s1 (by simp[mJ]) λv' H j=>?_))));exact fin v' G (B H.ext) (λq y=>.inl y) (A.st H.ext j L w a)
  ·have z:¬l.lim<c.batch:=by omega
   rw[zB z]at fin a;refine aG (g.rI rfl (cP (m:=l.lim+c.batch) O O (aG (g.s1 (by simp[mJ]) λv' H j=>?_))));refine fin v' G (B H.ext) (λq y=>.inl y) (A.st H.ext ?_ L w a);have:(if(128:Int)<((l.lim+c.batch:Nat):Int)then(128:Int)else((l.lim+c.batch:Nat):Int))=((min (l.lim+c.batch) 128:Nat):Int):=by split<;>omega
   rw[this]at j;exact j
 ·have hpos:=pC.2 h0;obtain⟨x,hx⟩:∃x,l.os[l.os.length-1]?=some x:=⟨_,cU O⟩;have K:l.os.getLast?=some x:=by rw[List.getLast?_eq_getElem?];exact hx
  have e1:(QY c l).1=some x:=by unfold QY;rw[K]
  have e2:(QY c l).2 = {l with os:=l.os.dropLast,low:=min l.low (l.os.length-1)}:=by unfold QY;rw[K]
  rw[e1,e2]at fin;rw[e2]at a;refine cB (by simp only[ma];omega) ?_;refine aG (g.rS rfl (cP (m:=l.os.length-1) aC O (aG (g.rS rfl (L.np hx (aG (g.rS rfl ?_)))))));have r:=cW.sub L (lo:=0) (hi:=l.os.length-1) (mx:=s.cap) O O O;have ed:((Wo l.os).drop (0*1)).take ((l.os.length-1-0)*1)=Wo l.os.dropLast:=by simp[Wo,xK]
  rw[ed]at r;refine iM (lo:=0) O aC aC (aG (g.s1 (by simp[mJ]) λv1 X D=>aG (D.rI rfl (aG (D.s1 (by simp[mJ]) λv2 P M=>?_)))));have J:=X.ext.trans P.ext;refine fin v2 G (B J) (λq y=>.inl y) (A.st J ?_ r aC a);have:(if((l.os.length-1:Nat):Int)<(l.low:Int)then((l.os.length-1:Nat):Int)else(l.low:Int))=((min l.low (l.os.length-1):Nat):Int):=by split<;>omega
  rw[this]at M;exact M
theorem Lc (h:eC U F Y tb bud ls)(hc:tb[k]?=some c)(hl:ls[k]?=some l){R:Int->Int->Hp->Prop}
 (hR:∀σ' Y',Ext F U σ'->Y'.p=Y.p->eC σ' (Grow F U) Y' tb bud ls->R ((GU c l:Nat):Int) 0 σ'):X4.c (aW Y.p) (k:Int) U R:=by
 obtain⟨u,w⟩:=h.cls hc;refine X4.o ?_;unfold X4.v;refine Gh h w λv Y' b e m x g=>cB rfl ?_;obtain⟨G,z,r⟩:=g.fC e x hl;obtain⟨A,y,s,i,B,j⟩:=z;have a:=g.hd;rw[m]at a;refine aG (i.rI rfl (aG (a.rS rfl (sQ g.jy hc (d:=2) O ?_))));simp only[zB (show ¬(2=0) by omega),zB (show ¬(2=1) by omega)];have:(if(c.batch:Int)<(l.lim:Int)then(c.batch:Int)else(l.lim:Int))=((GU c l:Nat):Int):=by unfold GU;split<;>omega
 rw[this];exact hR v Y' e m g
theorem Nd (l:List Int)(i:Nat)(h:i<l.length):l.reverse[i]?=l[l.length-1-i]? := by
 rw[List.getElem?_reverse h]
theorem NC {s:Sl}{xs:List Int}(h:bR s 1 (Wo xs) U F)(hlen:xs.length<=1000000){R:aP}(hR:∀σ',Ext F U σ'->bR s 1 (Wo xs.reverse) σ' F->R σ'):WR.c s U R:=by
 refine WR.o ?_;unfold WR.v;have M:s.len=xs.length:=by have:=h.1;simp[Wo]at this;omega
 let jc (i:Nat):List Int:=(List.range xs.length).map λj=>if j<i\/xs.length-i<=j then xs.getD (xs.length-1-j) 0 else xs.getD j 0
 have kK:∀i,(jc i).length=xs.length:=λi=>by simp[jc]
 have bW:∀i j,j<xs.length->(jc i)[j]?=some (if j<i\/xs.length-i<=j then xs.getD (xs.length-1-j) 0 else xs.getD j 0):=λi j d=>by simp[jc,d]
 have N:jc 0=xs:=by
  apply zo;intro j;by_cases d:j<xs.length
  ·rw[bW 0 j d,zB O];simp[zP,cU d]
  ·rw[zV (by rw[kK];omega),zV O]
 have z:∀i,xs.length<=2*i+1->i<=xs.length->jc i=xs.reverse:=by
  intro i H G;apply zo;intro j;by_cases d:j<xs.length
  ·rw[bW i j d,Nd xs j d,zP,zP,cU (show xs.length-1-j<xs.length by omega),cU d];split
   ·rfl
   ·have:xs.length-1-j=j:=by omega
    simp only[this];rfl
  ·rw[zV (by rw[kK];omega),zV aE]
 have step:∀i,2*i+1<xs.length->((jc i).set i (xs.getD (xs.length-1-i) 0)).set (xs.length-1-i) (xs.getD i 0)=jc (i+1):=by
  intro i hi;apply zo;intro j;by_cases d:j<xs.length
  ·rw[bW (i+1) j d,mI,mI];simp only[nR,kK];by_cases e1:xs.length-1-i=j
   ·subst e1;rw[zC rfl,zC O,zC O]
    congr 2;omega
   ·rw[zB e1];by_cases e2:i=j
    ·subst e2;rw[zC rfl,zC O,zC O]
    ·rw[zB e2,bW i j d];by_cases e3:j<i\/xs.length-i<=j
     ·rw[zC e3,zC O]
     ·rw[zB e3,zB O]
  ·rw[zV (by simp[kK];omega),zV (by rw[kK];omega)]
 refine yD ?_;rw[Uo O O];refine Uw (a:=bN) (bb:=bN) (λ(i j:Int) v=>∃n:Nat,i=(n:Int)/\j=(xs.length:Int)-1-n/\n<=xs.length/\Ext F U v/\bR s 1 (Wo (jc n)) v F) (λi _ _=>xs.length-i.toNat) ⟨0,rfl,O,O,Ext.refl _ _,by rw[N];exact h⟩ ?_;rintro i j v ⟨n,rfl,rfl,V,ev,r⟩;refine cQ (λP=>?_) λL=>?_
 ·have y:2*n+1<xs.length:=by omega
  have B:(xs.length:Int)-1-n=((xs.length-1-n:Nat):Int):=by omega
  rw[B];have C:=bW n (xs.length-1-n) O;have D:=bW n n O;rw[zB O]at C D;rw[zP]at C D;obtain⟨b,p⟩:∃b,s.a=some ⟨b,0,none⟩:=by
   rcases r.2 with⟨q1,q2⟩|⟨b,cs,_,A,_⟩
   ·omega
   ·exact⟨b,A⟩
  have e:∀u,bR s 1 (Wo (jc n)) u F->∀(j:Nat) (x:Int),(jc n)[j]?=some x->cell u (Addr.add ⟨b,0,none⟩ ((j:Int).toNat*1))=some (.int .i64 x):=λu w j x Q=>by
   obtain⟨E,o,A,K⟩:=w.gF.cell (j:=j) (v:=.int .i64 x) (by simp[Wo,Q]);rw[p]at A;cases A;rw[add_lit,show 0+(j:Int).toNat*1=0+j by omega];exact K
  rw[p];refine⟨λu=>bR s 1 (Wo (jc n)) u F,r,?_⟩;refine ix O O ⟨_,λu w=>e u w _ _ C,?_⟩;refine ix O O ⟨_,λu w=>e u w _ _ D,?_⟩;refine ix O O ?_;refine r.st (j:=n) (by simp[Wo,kK];omega) (λE g=>by rw[p]at g;cases g;rw[add_lit];simp) λS e1 H=>?_;refine ix O O ?_;refine H.st (j:=xs.length-1-n) (by simp[Wo,kK];omega) (λE g=>by rw[p]at g;cases g;rw[add_lit];simp) λW e2 G=>?_;refine cP (m:=n+1) O O (cP (m:=xs.length-1-n-1) O O ⟨⟨n+1,rfl,O,O,(ev.trans e1).trans e2,?_⟩,O⟩);rw[←step n y,zP,zP];have J:∀(l:List Int) (i:Nat) (x:Int),Wo (l.set i x)=(Wo l).set i (.int .i64 x):=λl i x=>by simp[Wo,u6]
  rw[J,J];exact G
 ·rw[z n O O]at r;exact hR v ev r
theorem M8 (h:iO b l U G){sl:Sl}(hz:sl.len=0){R:aN}(hR:∀σ',Ext (· = b) U σ'->iO b l σ' G->R 0 σ'):WS.c (aW b) sl U R:=by
 refine WS.o ?_;unfold WS.v;have B:=h;obtain⟨D,j,s,u,g,E⟩:=h;have w:s.len=l.os.length:=by have:=g.1;simp[Wo]at this;omega
 have z:=j.many;refine aG (u.rS rfl (cP (m:=l.os.length) aC O (fR O (aG (u.rS rfl ?_)))));refine Xa.o ?_;unfold Xa.v;refine iM (lo:=0) aC aC aC ?_;have d:=cW.sub g (lo:=0) (hi:=s.len) (mx:=s.len) O O O;have C:((Wo l.os).drop (0*1)).take ((s.len-0)*1)=Wo l.os:=by rw[w,mQ (by simp[Wo])];simp
 rw[C]at d;have key:∀(e:Sl),cW e 1 (Wo l.os) U (λq=>G q/\q≠b)->e.len<=e.cap->bU (some ⟨b,0,none⟩) λx=>dS (x.add 0) (.slice e.a e.len e.cap) U λv2=>R 0 v2:=λe p y=>by
  refine aG (u.s1 (by simp[mJ]) λv2 o2 r=>hR v2 o2.ext ?_);exact B.st (l':=l) (s:=e) o2.ext r p y j
 refine⟨Wo l.os,[],by simp[Wo];omega,by simp[hz],d.rd,by cases sl.a<;>simp[Rd],by simp,?_,by simp only;omega,λA=>?_,λi=>absurd (by simp only[hz];omega) i⟩
 ·simp only[hz];have:(s.len-0+0)*8<=256*8:=lW O O;omega
 ·simp only[hz,j7];cases ha:(if s.len=0 then s.a else s.a.map (·.add (0*1)))
  ·rw[ha]at d;exact key ⟨none,s.len-0,s.len-0⟩ d (zD _)
  ·rw[ha]at d;exact key ⟨some _,s.len-0,s.len-0⟩ d (zD _)
theorem FV (h:iO b l U G){sl:Sl}{xs:List Int}{X:Rg}(hs:cW sl 1 (Wo xs) U X)(hfit:l.os.length+xs.length<=256){R:aN}
 (hR:∀σ',Ext (· = b) U σ'->iO b (eA xs l) σ' (Grow G U)->R 0 σ'):WS.c (aW b) sl U R:=by
 by_cases hx:xs=[]
 ·subst hx;have g:eA [] l=l:=by unfold eA;rw[zB (by simp only[lA]at hfit ⊢;omega)];simp
  refine M8 h (by have:=hs.1;simp[Wo]at this;omega) λσ' e a=>hR σ' e ?_;rw[g];exact(iO.loc _ _).mono a λq _ d=>.inl d
 ·exact I4 h hs hx hfit λσ' e a=>hR σ' e ((iO.loc _ _).mono a λq _ d=>d.imp (λe=>by rw[e];exact h.1) id)
theorem JB (h:eC U F Y tb bud ls)(hc:tb[k]?=some c)(hl:ls[k]?=some l){sl:Sl}{xs:List Int}{X:Rg}(hs:cW sl 1 (Wo xs) U X)(hX:∀q,X q->¬F q)(hfit:l.os.length+xs.length<=256){R:aN}
 (hR:∀σ' Y',Ext F U σ'->Y'.p=Y.p->eC σ' (Grow F U) Y' tb bud (ls.set k (eA xs.reverse l))->R 0 σ'):X3.c (aW Y.p) (k:Int) sl U R:=by
 obtain⟨s,z⟩:=h.cls hc;have A:sl.len=xs.length:=by have:=hs.1;simp[Wo]at this;omega
 refine X3.o ?_;unfold X3.v;refine Gh h z λv Y' b e x y E=>cB rfl ?_;have m:=aH.bS hs e λq _ a=>hX q a;refine UR m Vt O λs1 H B e1 i=>?_;refine NC i O λv2 e2 r=>?_;have d:bK v v2:=Ext.fresh e1 e2 λq a=>a;obtain⟨G,u,g⟩:=(E.bO d).fC (e.trans (bK.to d)) y hl;refine FV u r.gF aE λv3 D j=>?_;obtain⟨w,C⟩:=g v3 _ _ (D.sub λq a=>a▸u.1) (λq a=>a) j;exact hR v3 Y' w x C
theorem Z8 {α:Type}{ls:List α}{k:Nat}{l:α}(h:ls[k]?=some l):ls.set k l=ls:=by
 apply zo;intro j;by_cases hj:j=k
 ·subst hj;rw[zM (cV.1 h).1,h]
 ·rw[zk (Ne.symm hj)]
theorem R9 (h:eC U F Y tb bud ls)(hc:tb[k]?=some c)(hl:ls[k]?=some l)(x:Int){R:Sl->Int->Hp->Prop}
 (hR:∀σ' Y' s e (Q:Rg),Ext F U σ'->Y'.p=Y.p->(l.os.length+1<=256->e=0)->(∀q,Q q->U.size<=q)->bR s 1 (Wo (dK c x l).1) σ' Q->eC σ' (λq=>Grow F U q/\¬Q q) Y' tb bud (ls.set k (dK c x l).2)->R s e σ'):Yu.c (aW Y.p) (k:Int) x U R:=by
 obtain⟨N,hk⟩:=h.cls hc;refine Yu.o ?_;unfold Yu.v;refine Gh h hk λv Y' b e hp hb h'=>cB rfl ?_;have hσv:=e.1;obtain⟨G,hG,hL,_,J⟩:=h'.vL hb hl;have hblt:b<v.size:=by obtain⟨_,_,s,hbk,_⟩:=hL;exact hbk.lt
 have u:=hL.1;have aa:=hL.2.1;have hmany:=aa.many;have r:∀(σ':Hp) (l':Li) (G':Rg),Ext G v σ'->(∀q,G' q->Grow G v q)->iO b l' σ' G'->Ext F U σ'/\eC σ' (λq=>Grow F U q/\q<v.size/\¬G q\/G' q) Y' tb bud (ls.set k l'):=λσ' l' G' e' hg hL'=>by
  obtain⟨e1,h1⟩:=J σ' l' G' e' hg hL';exact⟨e.ju e1,h1⟩
 have hin:∀{G':Rg} {q:Nat},(∀q,G' q->Grow G v q)->(Grow F U q/\q<v.size/\¬G q\/G' q)->Grow F U q:=λhg a=>by
  rcases a with a|a
  ·exact a.1
  ·rcases hg _ a with H|H
   ·exact hG _ H
   ·exact .inr O
 refine nw (cs:=[.int .i64 x]) λv1 hz1 e1 hb1=>?_;have ad:=(iO.loc _ _).bO hL e1;have Z:cW ⟨some ⟨v.size,0,none⟩,1,1⟩ 1 (Wo [x]) v1 (· = v.size):=hb1.gF (o:=0) rfl (by simp[Wo]) (λj hj=>by
  simp only[Wo,zS,qh,zY,lA]at hj ⊢;rw[zH])
 by_cases hfit:l.os.length+1<=256
 ·refine FV ad Z (by simpa using hfit) λv2 e2 B=>cB rfl ?_;have C:Ext G v v2:=(bK.to e1).trans (e2.sub λq a=>a▸u);have ab:∀q,Grow G v1 q->Grow G v q:=λq a=>a.imp id λP=>by omega
  obtain⟨eF2,H⟩:=r v2 _ _ C ab B;have i:(eA [x] l).os=l.os++[x]/\(eA [x] l).lim=l.lim/\(eA [x] l).low=l.low:=by unfold eA;rw[zB (by simp only[zY,lA];omega)];exact⟨rfl,rfl,rfl⟩
  have w:=B;obtain⟨_,ok2,s2,g,S,E⟩:=B;have hs2l:s2.len=l.os.length+1:=by have:=S.1;simp[Wo,i.1]at this;omega
  refine aG (g.rS rfl (aG (g.rI rfl ?_)));rw[i.2.1];refine cQ (λc1=>?_) λc1=>?_
  ·have D:l.os.length+1<=l.lim:=by simp only at c1;omega
   have y:dK c x l=([],eA [x] l):=by unfold dK;rw[zB O,zC D]
   refine hR v2 Y' _ 0 (λ_=>False) eF2 hp (λ_=>rfl) (λq a=>a.elim) (by rw[y];exact bR.nil _ _ _ _) ?_;rw[y];exact H.mono λq _ a=>⟨hin ab a,id⟩
  ·have D:¬l.os.length+1<=l.lim:=by simp only at c1;omega
   have y:dK c x l=gp (min c.batch (l.os.length+1)) (mo c (eA [x] l)):=by unfold dK;rw[zB O,zB D]
   have L:=H.hd;rw[hp]at L;refine aG (L.rS rfl (sQ H.jy hc (d:=2) O ?_));simp only[zB (show ¬(2=0) by omega),zB (show ¬(2=1) by omega)];refine Jn.intro ?_;have A:∀v3,Ext (· = b) v2 v3->iO b (mo c (eA [x] l)) v3 (Grow G v1)->bU (some ⟨b,0,none⟩) λa62=>jj (a62.add 0) v3 λM=>W0.c (aW b) (if((M.len:Nat):Int)<(c.batch:Int)then((M.len:Nat):Int)else(c.batch:Int)) v3 λt67 v4=>R t67 0 v4:=by
    intro v3 e3 hL3;have ac:=hL3;obtain⟨_,ok3,s3,V,hs3,hcap3⟩:=hL3;have X:(mo c (eA [x] l)).os=l.os++[x]:=by unfold mo;split<;>exact i.1
    have W:s3.len=l.os.length+1:=by have:=hs3.1;simp[Wo,X]at this;omega
    refine aG (V.rS rfl ?_);have em:(if((s3.len:Nat):Int)<(c.batch:Int)then((s3.len:Nat):Int)else(c.batch:Int))=((min c.batch (l.os.length+1):Nat):Int):=by rw[W];split<;>omega
    rw[em];refine Hl ac (by rw[X];simp;omega) λs z v4 e4 hz hr hL4=>?_;have e24:Ext (· = b) v2 v4:=e3.trans e4;have e04:Ext G v v4:=C.trans (e24.sub λq a=>a▸u);have hs23:=e3.1;have hs02:=C.1;obtain⟨eF4,h4⟩:=r v4 _ (λq=>q=b\/z<=q) e04 (λq a=>a.imp (λ(P:q=b)=>by rw[P];exact u) λ(P:z<=q)=>O) hL4;refine hR v4 Y' s 0 (λq=>v3.size<=q/\q<z) eF4 hp (λ_=>rfl) (λq a=>O) (by rw[y];exact hr) ?_;rw[y];refine h4.mono λq _ a=>⟨?_,λhQ=>?_⟩
    ·rcases a with a|a|a
     ·exact a.1
     ·subst a;exact hG _ u
     ·exact .inr O
    ·rcases a with a|a|a<;>omega
   refine aG (g.rI rfl ?_);rw[i.2.1];refine cQ (λc2=>?_) λc2=>?_
   ·have c2':l.lim<c.batch:=by omega
    have eu:mo c (eA [x] l) = {eA [x] l with lim:=l.lim+1}:=by unfold mo;rw[i.2.1,zC c2']
    have K:=DX N ok2;refine aG (g.rI rfl ?_);rw[i.2.1];have hl128:=aa.lim;refine cP (m:=l.lim+1) O O (aG (g.s1 (by simp[mJ]) λv3 o3 hb3=>A v3 o3.ext ?_));rw[eu]at K ⊢;exact w.st o3.ext hb3 S E K
   ·have eu:mo c (eA [x] l)=eA [x] l:=by unfold mo;rw[i.2.1,zB O]
    exact A v2 (Ext.refl _ _) (by rw[eu];exact w)
 ·refine JT ad Z (by simpa using hfit) aA (cE rfl ?_);have y:dK c x l=([],l):=by unfold dK;rw[zC O]
  refine hR v1 Y' _ 6 (λ_=>False) (e.trans (bK.to e1)) hp (λP=>absurd P hfit) (λq a=>a.elim) (by rw[y];exact bR.nil _ _ _ _) ?_;rw[y,Z8 hl];exact(h'.bO e1).mono λq _ a=>⟨a,id⟩
end Go.Ar
namespace Go.Ar
open Go Go.Vc Go.Proofs
open Go.Bu (Zc Qx Y9)
variable {U:Hp}{F:Rg}{p hs:Nat}{A:AR}{Y:Lay}{T:Nat->Hp->Rg->Prop}
theorem dG.sH (h:dG U F Y A T){k q:Nat}{c:bZ}{ss:List cF}(h1:Y.fG[k]?=some q)(h2:A.tb[k]?=some c)(h3:A.cD[k]?=some ss) :
 ∃G:Rg,(∀b,G b->F b)/\(∃ps,fB U G q c ps ss)/\(∀j,∃H:Rg,(∀b,H b->F b)/\(∀b,H b->¬G b)/\T j U H)/\∀(σ':Hp) (ss':List cF) (ps':List (Nat×Nat)) (G' H:Rg),
  Ext G U σ'->(∀b,G' b->G b\/U.size<=b)->fB σ' G' q c ps' ss'->(∀b,(F b/\b<U.size/\¬G b\/G' b)->H b)->dG σ' H Y {A with cD:=A.cD.set k ss'} T:=by
 obtain⟨G,g,r,hd,a⟩:=h.step (.cD k);have p:k<A.cD.length:=(cV.1 h3).1;refine⟨G,g,Ci h1 h2 h3 r,λj=>hd (.cM j) (by intro e;cases e),λσ' ss' ps' G' H e m d i=>?_⟩;refine a σ' _ _ T G' H h.lay.kQ h.tl I2 e m ?_ i;simp only[AC];rw[h1,h2,zM p];exact⟨ps',d⟩
theorem O8 (h:dG U F Y A T)(k m:Int){R:Sl->Int->Hp->Prop}(hR:∀s σ',Ext F U σ'->bR s 1 (ints (Ya A k m)) σ' (λb=>U.size<=b)->dG σ' (Cut F U) Y (Yr A k m) T->R s (Qq A k m) σ') :
 WB.c (aW Y.p) k m U R:=by
 refine WB.o ?_;unfold WB.v;refine V5 h k (λj=>?_) λx J w=>?_
 ·have e1:Qq A k m=1:=by unfold Qq;rw[j];rfl
  have e2:Yr A k m=A:=by unfold Yr;rw[e1];rfl
  have i:Ya A k m=[]:=by unfold Ya;rw[e1];rfl
  have:=hR ⟨none,0,0⟩ U (Ext.refl _ _) (by rw[i];exact bR.nil _ _ _ _) (by rw[e2];exact h.cut);rw[e1]at this;exact cE rfl this
 ·subst J;have j:A.ck (x:Int)=true:=by unfold AR.ck;simp;omega
  obtain⟨c,ss,q,t,r,y,d,B,_,_,H⟩:=h.at_ w;obtain⟨G,z,⟨K,D⟩,_,a⟩:=h.sH B y d;refine cB rfl (aG (h.hd.rS rfl (h.lP B ?_)));by_cases hm:m<0
  ·have e1:Qq A x m=1:=by unfold Qq;rw[j,zC rfl,zC hm]
   have e2:Yr A x m=A:=by unfold Yr;rw[e1];rfl
   have i:Ya A x m=[]:=by unfold Ya;rw[e1];rfl
   have:=hR ⟨none,0,0⟩ U (Ext.refl _ _) (by rw[i];exact bR.nil _ _ _ _) (by rw[e2];exact h.cut);rw[e1]at this;exact Nk D m hm this
  ·have e1:Qq A x m=0:=by unfold Qq;rw[j,zC rfl,zB hm]
   have C:Vk A x m=QS c m.toNat ss:=by unfold Vk;simp only[dE];rw[y,d]
   have e2:Yr A x m = {A with cD:=A.cD.set x (QS c m.toNat ss).2}:=by unfold Yr;rw[e1,zC rfl,C];rfl
   have i:Ya A x m=(QS c m.toNat ss).1:=by unfold Ya;rw[e1,zC rfl,C]
   refine P4 D m O λs σ' e g u=>?_;have:=hR s σ' (e.sub z) (by rw[i];exact g) (by rw[e2];exact a σ' _ _ (Cut G U) _ e (λb E=>.inl E.1) u (EN z));rw[e1]at this;exact this
theorem IV {k:Nat}{f:gD->gD}:∀j,j≠Lb.cM k->AC {A with cM:=A.cM.modify k f} Y (cK {A with cM:=A.cM.modify k f} Y) j=AC A Y (cK A Y) j:=by
 intro j hj;cases j<;>first|rfl|skip
 rename_i k';have a:k≠k':=λe=>hj (by rw[e]);simp only[AC,cK];simp[sy,a]
theorem eV.jY {k:Nat}{f:gD->gD}(h:eV A Y):eV {A with cM:=A.cM.modify k f} Y:=⟨h.c,h.t,h.cD,by simpa using h.cM,h.nv,h.p8,h.n1,h.n2,h.n3,h.st,h.room,h.ok⟩
theorem dG.sN (h:dG U F Y A (cK A Y)){k q:Nat}{c:bZ}{t:gD}(h1:Y.fV[k]?=some q)(h2:A.tb[k]?=some c)(h3:A.cM[k]?=some t) :
 ∃G:Rg,(∀b,G b->F b)/\jo U G q c.batch A.room t/\∀(σ':Hp) (f:gD->gD) (G' H:Rg),
  Ext G U σ'->(∀b,G' b->G b\/U.size<=b)->jo σ' G' q c.batch A.room (f t)->(∀b,(F b/\b<U.size/\¬G b\/G' b)->H b)->dG σ' H Y {A with cM:=A.cM.modify k f} (cK {A with cM:=A.cM.modify k f} Y):=by
 obtain⟨G,m,d,hd,a⟩:=h.step (.cM k);have g:jo U G q c.batch A.room t:=by
  simp only[AC,cK]at d;rw[h1,h2,h3]at d;exact d
 refine⟨G,m,g,λσ' f G' H e r i p=>?_⟩;refine a σ' _ _ _ G' H h.lay.jY (λj=>cK.loc j) IV e r ?_ p;simp only[AC,cK];rw[h1,h2,List.getElem?_modify_eq,h3];exact i
theorem H6 (h:dG U F Y A (cK A Y))(k:Int){R:Sl->Int->Hp->Prop}(hR:∀s σ',Ext F U σ'->(∀b,kD s b->F b)->cW s 1 (Wo (Yp A k)) σ' (kD s)->s.len<=s.cap->dG σ' (λb=>F b/\¬kD s b) Y (Zx A k) (cK (Zx A k) Y)->R s (ZY A k) σ') :
 WA.c (aW Y.p) k U R:=by
 refine WA.o ?_;unfold WA.v;refine V5 h k (λB=>?_) λx P E=>?_
 ·have e1:ZY A k=1:=by unfold ZY;rw[B];rfl
  have e2:Zx A k=A:=by unfold Zx;rw[e1];rfl
  have y:Yp A k=[]:=by unfold Yp;rw[e1];rfl
  have:=hR ⟨none,0,0⟩ U (Ext.refl _ _) (λb d=>by obtain⟨a,g,_⟩:=d;cases g) (by rw[y];exact cW.nil _ _ _ _) (zD _) (by rw[e2];exact h.mono λb _ d=>⟨d,λ⟨a,g,_⟩=>by cases g⟩);rw[e1]at this;exact cE rfl this
 ·subst P;have B:A.ck (x:Int)=true:=by unfold AR.ck;simp;omega
  obtain⟨c,S,q,t,r,K,M,Q,z,J,N⟩:=h.at_ E;obtain⟨G,D,H,i⟩:=h.sN J K z;refine cB rfl (aG (h.hd.rS rfl (h.rF J ?_)));by_cases d:t.bs=[]
  ·have e1:ZY A x=4:=by unfold ZY;rw[B,zC rfl];simp only[dE];rw[z];simp[d]
   have e2:Zx A x=A:=by unfold Zx;rw[e1];rfl
   have y:Yp A x=[]:=by unfold Yp;rw[e1];rfl
   have:=hR ⟨none,0,0⟩ U (Ext.refl _ _) (λb d=>by obtain⟨a,g,_⟩:=d;cases g) (by rw[y];exact cW.nil _ _ _ _) (zD _) (by rw[e2];exact h.mono λb _ d=>⟨d,λ⟨a,g,_⟩=>by cases g⟩);rw[e1]at this;exact Nj H d this
  ·have e1:ZY A x=0:=by unfold ZY;rw[B,zC rfl];simp only[dE];rw[z];simp[d]
   have e2:Zx A x = {A with cM:=A.cM.modify x gD.rem}:=by unfold Zx;rw[e1,zC rfl];rfl
   have y:Yp A x=t.bs.getLast?.getD []:=by unfold Yp;rw[e1,zC rfl];simp only[dE];rw[z]
   refine NT H d λs σ' e j m w C=>?_;have u:∀b,(F b/\b<U.size/\¬G b\/G b/\¬kD s b)->F b/\¬kD s b:=λb d=>by
    rcases d with d|d
    ·exact⟨d.1,λL=>d.2.2 (j b L)⟩
    ·exact⟨D b d.1,d.2⟩
   have:=hR s σ' (e.sub D) (λb d=>D b (j b d)) (by rw[y];exact m) w (by rw[e2];exact i σ' _ (λb=>G b/\¬kD s b) _ e (λb d=>.inl d.1) C u);rw[e1]at this;exact this
theorem Nl (h:dG U F Y A (cK A Y))(k:Int){sl:Sl}{xs:List Int}{X:Rg}(hs:cW sl 1 (Wo xs) U X)(hi:∀x∈xs,iE x){R:Bool->Int->Hp->Prop}(hR:∀σ',Ext F U σ'->dG σ' (Grow F U) Y (QV A k xs) (cK (QV A k xs) Y)->R (KQ A k xs) (U6 A k xs) σ') :
 WF.c (aW Y.p) k sl U R:=by
 refine WF.o ?_;unfold WF.v;have u:sl.len=xs.length:=by have:=hs.1;simp[Wo]at this;omega
 have no:∀e:Int,e≠0->U6 A k xs=e->R false e U:=λe he C=>by
  have e3:KQ A k xs=false:=by unfold KQ;rw[zK O];rfl
  have e2:QV A k xs=A:=by unfold QV;rw[e3];rfl
  have:=hR U (Ext.refl _ _) (by rw[e2];exact h.mono λb _ g=>.inl g);rw[C,e3]at this;exact this
 refine V5 h k (λW=>cE rfl (no 1 aB (by unfold U6;rw[W];rfl))) λx P Z=>?_;subst P;have W:A.ck (x:Int)=true:=by unfold AR.ck;simp;omega
 obtain⟨c,ss,q,t,r,M,K,hq,ht,hr,aa⟩:=h.at_ Z;obtain⟨G1,ps,hG1,S⟩:=h.cD hq M K;obtain⟨G,hG,hC,H⟩:=h.sN hr M ht;have N:U6 A x xs=if xs.length=c.batch then(if xs.all (λx=>dX c ss x==some true)then 0 else 8)else 1:=by unfold U6;rw[W,zC rfl];simp only[dE];rw[M,K]
 refine cB rfl (aG (h.hd.rS rfl (h.vH (d:=2) M O ?_)));simp only[zB (show ¬(2=0) by omega),zB (show ¬(2=1) by omega)];rw[om];refine cO (λg=>?_) λg=>?_
 ·have:¬xs.length=c.batch:=by rw[←u];simpa using g
  exact no 1 aB (by rw[N,zB this])
 have L:xs.length=c.batch:=by rw[←u];simpa using g
 rw[zC L]at N;have h32:c.batch<=32:=aa.2.2.2.2.2.2.2;refine ZX (a:=bN) (λ(i:Int) v=>∃j:Nat,i=(j:Int)/\j<=xs.length/\v=U/\∀y∈xs.take j,dX c ss y=some true) (λi _=>xs.length-i.toNat) ⟨0,rfl,O,rfl,by simp⟩ ?_;rintro i v ⟨j,rfl,hj,rfl,s⟩;refine cQ (λhlt2=>?_) λhge=>?_
 ·have E:j<xs.length:=by omega
  have P:xs[j]?=some xs[j]:=cU E;have Q:xs.take (j+1)=xs.take j++[xs[j]]:=by rw[k9,P];rfl
  have w:=j3 E;generalize xs[j]=y at *;have J:dX c ss y≠some true->R false 8 v:=λhn=>no 8 aB (by
   rw[N,zB];intro ha;rw[j6]at ha;exact hn (by simpa using ha y w))
  refine hs.np P (aG (h.hd.rS rfl (h.lP hq (GN S _ (hi y w) (λb g=>?_) λg=>?_))))
  ·refine bV.intro (cB rfl ?_);cases b
   ·exact cE rfl (J (by rw[g];simp))
   ·refine cB rfl (cP (m:=j+1) O O ⟨⟨j+1,rfl,O,rfl,λz hz=>?_⟩,O⟩);rw[Q]at hz;rcases zL.1 hz with C|C
    ·exact s z C
    ·simp at C;rw[C];exact g
  ·exact bV.intro (cE rfl (cE rfl (J (by rw[g];simp))))
 ·have:j=xs.length:=by omega
  subst this;rw[mS]at s;have B:U6 A x xs=0:=by
   rw[N,zC];rw[j6];intro y hy;simp[s y hy]
  have D:KQ A x xs=decide (t.bs.length<A.room):=by unfold KQ;rw[B];simp only[dE];rw[ht];simp
  refine aG (h.hd.rS rfl (h.rF hr (J8 hC hs O (λhn=>absurd L hn) (λ_ hf=>?_) λ_ hf σ' e V=>?_)))
  ·rw[zK O]at D;have e2:QV A x xs=A:=by unfold QV;rw[D];rfl
   have:=hR v (Ext.refl _ _) (by rw[e2];exact h.mono λb _ g=>.inl g);rw[B,D]at this;exact this
  ·rw[zJ O]at D;have e2:QV A x xs = {A with cM:=A.cM.modify x λt=>{t with bs:=t.bs++[xs]}}:=by unfold QV;rw[D,zC rfl];rfl
   have:=hR σ' (e.sub hG) (by rw[e2];exact H σ' (λt=>{t with bs:=t.bs++[xs]}) (Grow G v) _ e (λb g=>g) V (Hm hG λb g=>g));rw[B,D]at this;exact this
theorem fB.Oz {q:Nat}{c:bZ}{ps:List (Nat×Nat)}{ss:List cF}{G:Rg}(h:fB U G q c ps ss):∀s∈ss,s.st<=1024:=by
 intro s hs;obtain⟨i,a⟩:=zQ hs;have b:=(cV.1 a).1;have d:i<ps.length:=by rw[h.len];exact b
 have:=(h.sp _ _ _ (cU d) a).fit;omega
theorem LX (h:dG U F Y A T)(k:Int){sl:Sl}{xs:List Int}(hi:∀x∈xs,iE x)(hl:xs.length<=1000000)(hcap:sl.len<=sl.cap)
 (hs:(∃X:Rg,cW sl 1 (Wo xs) U X/\∀b,b<U.size->X b->¬F b)\/∃j,∀H,T j U H->cW sl 1 (Wo xs) U H)
 {R:aN} (hR:∀σ',Ext F U σ'->dG σ' (Grow F U) Y (Zu A k xs) T->R (QJ A k xs) σ') :
 WK.c (aW Y.p) k sl U R:=by
 refine WK.o ?_;unfold WK.v;have no:∀e:Int,e≠0->QJ A k xs=e->R e U:=λe he M=>by
  have e2:Zu A k xs=A:=by unfold Zu;rw[zB O]
  have:=hR U (Ext.refl _ _) (by rw[e2];exact h.mono λb _ d=>.inl d);rw[M]at this;exact this
 refine V5 h k (λV=>cE rfl (no 1 aB (by unfold QJ;rw[V];rfl))) λx hx Z=>?_;subst hx;have V:A.ck (x:Int)=true:=by unfold AR.ck;simp;omega
 obtain⟨c,g,q,t,r,E,u,hq,_,_,hok⟩:=h.at_ Z;obtain⟨G,S,⟨ps,K⟩,hd,B⟩:=h.sH hq E u;have hX:∃X:Rg,cW sl 1 (Wo xs) U X/\∀b,X b->¬G b:=by
  rcases hs with⟨X,M,h2⟩|⟨j,hj⟩
  ·exact⟨Cut X U,aH.cut M,λb d hg=>h2 b d.2 d.1 (S b hg)⟩
  ·obtain⟨H,_,D,hT⟩:=hd j;exact⟨H,hj H hT,D⟩
 obtain⟨X,J,L⟩:=hX;have W:QJ A x xs=iD c g xs:=by unfold QJ;rw[V,zC rfl];simp only[dE];rw[E,u]
 refine cB rfl (aG (h.hd.rS rfl (h.lP hq (Jo K J L hi hl hcap (λD=>?_) λh0 o σ1 e1 m P=>?_))))
 ·refine cE (by simpa using D) (no _ D W)
 ·refine cB rfl ?_;have eS:Zu A x xs=VX {A with cD:=A.cD.set x (cG (xs.foldl (fE c) g))} ((Qe (xs.foldl (fE c) g)).map λs=>(s,c.aF)):=by
   unfold Zu;rw[W,zC h0];simp only[dE];rw[E,u]
  have N:=B σ1 _ _ (Cut G U) _ e1 (λb d=>.inl d.1) P (EN S);rw[Jw]at m;have C:((Qe (xs.foldl (fE c) g)).map λs=>(s,c.aF)).length<=1000000/\∀r∈((Qe (xs.foldl (fE c) g)).map λs=>(s,c.aF)),r.1<=1000000:=by
   have i:∀(ys:List Int) (ls:List cF),((ys.foldl (fE c) ls).map (·.st))=ls.map (·.st):=by
    intro ys
    induction ys with
    | nil=>intro ls;rfl
    | cons y ys ih=>
     intro ls;rw[qM,ih];unfold fE;split
     ·rename_i j hj;split
      ·rename_i s a;split
       ·simp only[u6];apply zo;intro z;rw[mI];by_cases w:j=z
        ·subst w;rw[zC rfl];have:=(cV.1 a).1;rw[zC (by simpa using this)];simp[a,cF.put]
        ·rw[zB w]
       ·rfl
      ·rfl
     ·rfl
   have Q:∀s∈Qe (xs.foldl (fE c) g),s∈g.map (·.st):=by
    intro s a;rw[←i xs g];unfold Qe at a;simp only[zE,zI]at a ⊢;obtain⟨z,w,rfl⟩:=a;exact⟨z,w.1,rfl⟩
   have hfew:=K.pD;refine⟨?_,λr hr=>?_⟩
   ·have:(Qe (xs.foldl (fE c) g)).length<=(xs.foldl (fE c) g).length:=by
     unfold Qe;rw[zl];exact rZ _ _
    have h2:(xs.foldl (fE c) g).length=g.length:=by have:=congrArg List.length (i xs g);simpa using this
    rw[zl];omega
   ·obtain⟨s,a,rfl⟩:=zE.1 hr;obtain⟨z,w,rfl⟩:=zE.1 (Q s a);have:=K.Oz z w;simp only;omega
  refine Fg N m.gF (λb _ d hf=>by have:=hf.2;omega) C.1 C.2 λσ2 e2 aa=>?_;have:=hR σ2 ((e1.sub S).trans (e2.sub λb d=>d.1)) ?_
  ·rw[W,h0]at this;exact this
  ·rw[eS];exact aa.mono λb _ d=>by
    rcases d with d|d
    ·exact .inl d.1
    ·exact .inr (zh e1.1 d)
theorem RY (l:List (Nat×Nat))(x:Int):bW (iH l) x=(l.find? λr=>(r.1:Int)==x).map λr=>(r.2:Int):=by
 induction l with
 | nil=>rfl
 | cons r l ih=>
  have:iH (r::l)=((r.1:Int),(r.2:Int))::iH l:=rfl;rw[this,Q3,ui,ih];by_cases h:(r.1:Int)=x
  ·simp[h]
  ·have:((r.1:Int)==x)=false:=by simpa using h
   rw[this,zB h]
theorem PI (l:List (Nat×Nat))(x:Int):cS (iH l) x=iH (l.filter λq=>!((q.1:Int)==x)):=by
 unfold cS iH;rw[vf];rfl
theorem Ru (l:List (Nat×Nat))(x m:Nat):dB (iH l) (x:Int) (m:Int)=iH (cA.mset2 l x m):=by
 unfold dB cA.mset2 iH;have e:(l.map λr=>((r.1:Int),(r.2:Int))).any (λy=>y.1==(x:Int))=l.any λr=>r.1==x:=by
  rw[List.any_map]
  congr 1
  funext r
  exact lE r.1 x
 rw[e];split
 ·rw[lb,lb];apply j2;intro r _;simp only[Function.comp_def];rw[lE];split<;>rfl
 ·simp
theorem dG.qO (h:dG U F Y A T):F Y.rn/\dH U Y.rn .i64 bN (iH A.runs)/\∀(σ':Hp) (rs:List (Nat×Nat)),Qo U σ' Y.rn->dH σ' Y.rn .i64 bN (iH rs)->dG σ' F Y {A with runs:=rs} T:=by
 obtain⟨G,g,⟨e,m⟩,_,a⟩:=h.step .runs;refine⟨g _ e,m,λσ' rs j p=>?_⟩;exact a σ' _ _ T G _ h.lay.qC h.tl Jb (j.ext.sub λb d=>by subst d;exact e) (λb d=>.inl d) ⟨e,p⟩ (ym g λb d=>d)
theorem Sy (h:dG U F Y A T)(x:Int)(hf:∀r∈A.runs,r.1<=1000000){R:aN}(hR:∀σ',Ext F U σ'->dG σ' (Grow F U) Y (Qr A x) T->R (KH A x) σ') :
 WM.c (aW Y.p) x U R:=by
 refine WM.o ?_;unfold WM.v;obtain⟨L,J,g⟩:=h.qO;refine UY h (cB rfl (aG (h.hd.rM rfl ⟨_,J,?_⟩)));rw[RY];cases hr:(A.runs.find? λr=>(r.1:Int)==x)with
 | none=>
  have e1:KH A x=8:=by unfold KH pL;rw[hr];rfl
  have e2:Qr A x=A:=by unfold Qr pL;rw[hr]
  have:=hR U (Ext.refl _ _) (by rw[e2];exact h.mono λb _ a=>.inl a);rw[e1]at this;exact cE rfl this
 | some r=>
  have e1:KH A x=0:=by unfold KH pL;rw[hr];rfl
  have e2:Qr A x=VU {A with runs:=A.runs.filter λq=>!((q.1:Int)==x)} r:=by unfold Qr pL;rw[hr]
  have s:=sj hr;have u:(r.1:Int)=x:=by simpa using tx hr
  refine cB rfl (aG (h.hd.rM rfl ⟨_,J,λm B _ D=>?_⟩));have o1:=B _ rfl;have d:dH m Y.rn .i64 bN (cS (iH A.runs) x):=D;rw[PI]at d;have E:=g m _ o1 d;simp only[zX,pv];refine nw (cs:=[.int .i64 x,.int .i64 (r.2:Int)]) λP M e w=>?_;have G:=E.cut.bO e;have y:cW ⟨some ⟨m.size,0,none⟩,1,1⟩ 2 (rV [r]) P (· = m.size):=by
   refine⟨rfl,.inr ⟨_,0,_,rfl,rfl,w.q,λj Q=>?_⟩⟩;have:rV [r]=[.int .i64 (r.1:Int),.int .i64 (r.2:Int)]:=rfl;rw[this,u,zH]
  refine Fg G y (λb _ a K=>by have:=K.2;omega) aA (λq H=>by simp at H;subst H;exact hf _ s) λv3 N C=>?_;have z:Ext F U v3:=(o1.ext.sub λb a=>by subst a;exact L).trans ((bK.to e).trans (N.sub λb a=>a.1));have:=hR v3 z (by
   rw[e2];exact C.mono λb _ a=>by
    rcases a with a|a
    ·exact .inl a.1
    ·exact .inr (by have:=o1.1;omega))
  rw[e1]at this;exact this
theorem KO (rs:List (Nat×Nat)):∀A:AR,(VX A rs).tb=A.tb/\(VX A rs).room=A.room/\(VX A rs).cM=A.cM/\(VX A rs).cD=A.cD/\(VX A rs).runs=A.runs/\(VX A rs).n=A.n:=by
 induction rs with
 | nil=>intro A;exact⟨rfl,rfl,rfl,rfl,rfl,rfl⟩
 | cons r rs ih=>intro A;exact ih (VU A r)
theorem V1 (A:AR)(k:Int)(xs:List Int):(Zu A k xs).tb=A.tb/\(Zu A k xs).room=A.room/\(Zu A k xs).cM=A.cM/\(Zu A k xs).runs=A.runs/\(Zu A k xs).n=A.n:=by
 unfold Zu;split
 ·split
  ·exact⟨(KO _ _).1,(KO _ _).2.1,(KO _ _).2.2.1,(KO _ _).2.2.2.2.1,(KO _ _).2.2.2.2.2⟩
  ·exact⟨rfl,rfl,rfl,rfl,rfl⟩
 ·exact⟨rfl,rfl,rfl,rfl,rfl⟩
theorem gD.ot (t:gD):∀xs∈t.tick.bs,xs∈t.bs:=λxs h=>tI h
theorem KK {α:Type}{l:List α}{k:Nat}{t:α}{f:α->α}(h:l[k]?=some t):l.modify k f=l.set k (f t):=by
 apply zo;intro i;rw[mI,sy];by_cases hi:k=i
 ·subst hi;have:=(cV.1 h).1;rw[zC rfl,zC this,h];simp
 ·simp[hi]
def zx (A:AR)(Y:Lay)(k r:Nat)(c:bZ)(t:gD)(out:Sl)(sls:List Sl)(j:Nat):Hp->Rg->Prop:=
 if j=k then λU G=>jo U G r c.batch A.room t.tick/\cW out 1 (sls.map pG) U G/\qj sls t.out U G else cK A Y j
theorem zx.loc {k r:Nat}{c:bZ}{t:gD}{out:Sl}{sls:List Sl}(j:Nat):dM (zx A Y k r c t out sls j):=by
 unfold zx;split
 ·exact λU i F G ⟨d,g,e⟩ a b=>⟨jo.loc _ _ _ _ d a b,cW.loc _ _ _ _ _ _ _ g a b,qj.loc _ _ _ _ _ _ e a b⟩
 ·exact cK.loc j
end Go.Ar
namespace Go.Bu
variable {n:Nat}{S:Nat->Bool}
theorem VT {m a k x:Nat}(h:ZA n S m a k=some x):∃j,j<k/\m<=2^j/\a<=2^j/\(Ka n S j).head?=some x/\∀i,i<j->m<=2^i->a<=2^i->Ka n S i=[]:=by
 have wA:∀k,ZA n S m a k=none->∀i,i<k->m<=2^i->a<=2^i->Ka n S i=[]:=by
  intro k
  induction k with
  | zero=>intro _ i hi;omega
  | succ k ih=>
   intro hn i hi d b;rw[ZA]at hn;split at hn
   ·cases hn
   ·rename_i hn';by_cases e:i=k
    ·subst e;rw[zC ⟨d,b⟩]at hn;simpa using hn
    ·exact ih hn' i O d b
 induction k with
 | zero=>simp[ZA]at h
 | succ k ih=>
  rw[ZA]at h;split at h
  ·rename_i y hy;cases h;obtain⟨j,d,b⟩:=ih hy;exact⟨j,O,b⟩
  ·rename_i hn;split at h
   ·rename_i hc;exact⟨k,O,hc.1,hc.2,h,wA k hn⟩
   ·cases h
theorem UL {m a:Nat}:∀{k},ZA n S m a k=none->∀i,i<k->m<=2^i->a<=2^i->Ka n S i=[]
 | 0,_,i,hi,_,_=>by omega
 | k+1,hn,i,hi,h1,h2=>by
  rw[ZA]at hn;split at hn
  ·cases hn
  ·rename_i hn';by_cases e:i=k
   ·subst e;rw[zC ⟨h1,h2⟩]at hn;simpa using hn
   ·exact UL hn' i O h1 h2
theorem kZ (hb:Bounded S n){m a x:Nat}(h:Y9 n S m a=some x):x+m<=n/\∀y,x<=y->y<x+m->S y=true:=by
 obtain⟨j,_,p,_,e,_⟩:=VT h;have b:x∈Ka n S j:=List.mem_of_head? e;obtain⟨q,rfl,d⟩:=(QG hb).1 b;have:=ZF hb (Zw.1 d).1;exact⟨O,λy g i=>VV d (Z3.2 O)⟩
end Go.Bu
namespace Go.Ar
open Go Go.Vc Go.Proofs
open Go.Bu (Zc Qx Y9)
variable {U:Hp}{F H:Rg}{p hs:Nat}{A:AR}{sp:Sp}{Y:Lay}{T:Nat->Hp->Rg->Prop}
structure W2 (U:Hp) (F H:Rg) (Y:Lay) (A:AR) (T:Nat->Hp->Rg->Prop) (sp:Sp):Prop where
 a:dG U F Y A T
 s:dL U H Y.hs sp
 d:∀b,F b->¬H b
 g:Gl U
 o:iV F
 o2:iV H
def iP (F H:Rg):Rg:=λb=>F b\/H b
theorem W2.lJ (h:W2 U F H Y A T sp){σ':Hp}{A':AR}(e:Ext F U σ')(ha:dG σ' F Y A' T):W2 σ' F H Y A' T sp:=
 ⟨ha,dM.bS dL.loc h.s e λb _ i a=>h.d b a i,h.d,h.g.bS e h.o,h.o,h.o2⟩
theorem W2.space (h:W2 U F H Y A T sp){σ':Hp}{sp':Sp}(e:Ext H U σ')(hs:dL σ' H Y.hs sp'):W2 σ' F H Y A T sp':=
 ⟨dM.bS dG.loc h.a e λb _ j i=>h.d b j i,hs,h.d,h.g.bS e h.o2,h.o,h.o2⟩
theorem W2.bO (h:W2 U F H Y A T sp){σ':Hp}(e:bK U σ'):W2 σ' F H Y A T sp:=⟨h.a.bO e,h.s.bO e,h.d,h.g.bO e,h.o,h.o2⟩
theorem W2.cut (h:W2 U F H Y A T sp):W2 U (Cut F U) (Cut H U) Y A T sp:=⟨h.a.cut,dM.cut dL.loc h.s,λb e i=>h.d b e.1 i.1,h.g,h.o.sub λb e=>e.1,h.o2.sub λb e=>e.1⟩
theorem W2.oK (h:W2 U F H Y A T sp){σ':Hp}{A':AR}(e:Ext F U σ')(ha:dG σ' (Grow F U) Y A' T):W2 σ' (Grow F U) (Cut H U) Y A' T sp:=
 ⟨ha,dM.bS dL.loc (dM.cut dL.loc h.s) e λb _ a j=>h.d b j a.1,λb a i=>by
  rcases a with a|a
  ·exact h.d b a i.1
  ·have:=i.2;omega,h.g.bS e h.o,h.o.grow h.g,h.o2.sub λb a=>a.1⟩
theorem W2.Ft (h:W2 U F H Y A T sp){K:Option Addr->Prop}(hK:K (some ⟨Y.hs,0,none⟩)):fW (Addr.add ⟨Y.p,0,none⟩ 1) U K:=h.a.hd.rP rfl hK
theorem Ff (st:List Nat)(a m:Nat):Uv st a (m+1)=iW (Uv st a m) ((a+m:Nat):Int):=by
 unfold Uv;rw[pR,j9,vM];rfl
theorem Mi {a m:Int}(h:fA sp a m≠0):fT sp a m=sp:=by unfold fT;rw[zB h]
theorem Np {size:Nat}(h1:1<=size)(h:∀j,1<=j->j*size+size<=sp.st.length->fA sp ((j*size:Nat):Int) (size:Int)≠0):cY sp size=none:=by
 unfold cY;rw[nH];intro x hx;obtain⟨j,b,rfl⟩:=zE.1 hx;rw[zg]at b;have d:(j+1)*size<=sp.st.length:=zh (lU size b) (xd _ _);rw[zm,Nat.one_mul]at d;by_cases h0:j=0
 ·subst h0;simp
 ·have:=h j O d;have a:(fA sp ((j*size:Nat):Int) (size:Int)==0)=false:=by simpa only[ma]using this
  rw[a,tv];simp
theorem Ls {size j:Nat}(h1:1<=size)(h0:1<=j)(hf:j*size+size<=sp.st.length)(hm:fA sp ((j*size:Nat):Int) (size:Int)=0)(h:∀i,1<=i->i<j->fA sp ((i*size:Nat):Int) (size:Int)≠0):cY sp size=some (j*size):=by
 unfold cY;have m:j<sp.st.length/size:=by
  rw[Nat.lt_iff_add_one_le,Nat.le_div_iff_mul_le h1,zm,Nat.one_mul];exact hf
 have a:List.range (sp.st.length/size)=List.range j++(j::(List.range (sp.st.length/size-j-1)).map (j+1 + ·)):=by
  apply zo;intro i;rw[List.getElem?_append,xl];by_cases d:i<j
  ·rw[zC d,nu O,nu d]
  ·rw[zB d];by_cases hij:i=j
   ·subst hij;rw[qi,xT,nu m]
   ·rw[show i-j=(i-j-1)+1 by omega,Bi,za];by_cases hl:i<sp.st.length/size
    ·rw[nu hl,nu O];simp only[zX]
     congr 1;omega
    ·rw[zV (by rw[xl];omega),zV (by rw[xl];omega)];rfl
 rw[a,j9,List.find?_append];have b:((List.range j).map (· * size)).find? (λ(s:Nat)=>s != 0&&fA sp s size==0)=none:=by
  rw[nH];intro x hx;obtain⟨i,d,rfl⟩:=zE.1 hx;rw[zg]at d;by_cases h0:i=0
  ·subst h0;simp
  ·have:=h i O d;have g:(fA sp ((i*size:Nat):Int) (size:Int)==0)=false:=by simpa only[ma]using this
   rw[g,tv];simp
 rw[b,zS,ui];have:(j*size != 0&&fA sp ((j*size:Nat):Int) (size:Int)==0)=true:=by
  rw[hm];have p:0<j*size:=Nat.mul_pos O O;have e:j*size≠0:=by omega
  simp[e]
 rw[this];rfl
theorem PH (h:W2 U F H Y A T sp){size:Nat}(h1:size=16\/size=32\/size=64){R:aO}(h0:Ux A sp size=none->∀σ',Ext (iP F H) U σ'->W2 σ' F H Y A T sp->R false σ')
 (hR:∀A' sp',Ux A sp size=some (A',sp')->∀σ',Ext (iP F H) U σ'->W2 σ' F H Y A' T sp'->R true σ'):YH.c (aW Y.p) (size:Int) U R:=by
 refine YH.o ?_;unfold YH.v;have hn2:sp.st.length<=1024:=by obtain⟨q,r,l,B,hh⟩:=h.s;exact hh.n2
 have es:∀{a b:Hp},Ext H a b->Ext (iP F H) a b:=λe=>e.sub λb P=>.inr P;have ea:∀{a b:Hp},Ext F a b->Ext (iP F H) a b:=λe=>e.sub λb P=>.inl P;have d:∀j,j*size+size=(j+1)*size:=λj=>by rw[zm,Nat.one_mul]
 refine ZX (a:=bN) (λ(t:Int) v=>∃j:Nat,t=((j*size:Nat):Int)/\1<=j/\j*size<=1024+64/\Ext (iP F H) U v/\W2 v F H Y A T sp/\∀i,1<=i->i<j->i*size+size<=sp.st.length->fA sp ((i*size:Nat):Int) (size:Int)≠0) (λt _=>2000-t.toNat)
  ⟨1,O,zD _,O,Ext.refl _ _,h,λi h1 h2=>O⟩ ?_
 rintro t v ⟨j,rfl,hj,P,e,z,y⟩;refine cP (m:=j*size+size) O O (aG (z.Ft (FA z.s (cQ (λhlt=>?_) λhge=>?_))))
 ·have hf:j*size+size<=sp.st.length:=by omega
  refine aG (z.Ft (Pf z.s z.g z.o2 _ _ λv2 e2 K=>?_));refine cO (λV=>?_) λV=>?_
  ·have L:fA sp ((j*size:Nat):Int) (size:Int)≠0:=by simpa using V
   rw[Mi L]at K;refine cP (m:=(j+1)*size) (by rw[←d];omega) (by rw[←d];omega) ⟨⟨j+1,rfl,O,by rw[←d];omega,e.trans (es e2),z.space e2 K,λi x C J=>?_⟩,by rw[←d];omega⟩;by_cases hij:i=j
   ·subst hij;exact L
   ·exact y i x O J
  ·have Q:fA sp ((j*size:Nat):Int) (size:Int)=0:=by simpa using V
   have W:=z.space e2 K;have N:∀i,i<j->i*size+size<=sp.st.length:=λi hi=>by
    have:(i+1)*size<=j*size:=lU _ hi;rw[d];omega
   have D:=Ls (sp:=sp) O hj hf Q λi x C=>y i x C (N i C);have G:Ux A sp size=some ({A with st:=Uv A.st (j*size/16) (size/16),S:=Qx A.n A.S ((j*size:Nat):Int) size},fT sp ((j*size:Nat):Int) size):=by unfold Ux;rw[D]
   have hd16:(j*size)%16=0:=by
    rcases h1 with rfl|rfl|rfl
    ·omega
    ·omega
    ·omega
   refine nz aB (cP (m:=j*size/16) (by rw[XO O];simp) O ?_);refine ZX (a:=bN) (λ(t:Int) w=>∃i:Nat,t=((j*size/16+i:Nat):Int)/\i<=size/16/\Ext (iP F H) U w/\W2 w F H Y {A with st:=Uv A.st (j*size/16) i} T (fT sp ((j*size:Nat):Int) size)) (λt _=>200-t.toNat)
    ⟨0,O,O,e.trans (es e2),W⟩ ?_
   rintro t w ⟨i,rfl,hi,ew,u⟩;refine cP (m:=j*size+size) O O (nz aB (cP (m:=(j*size+size)/16) (by rw[XO O];simp) O (cQ (λhlt2=>?_) λZ=>?_)))
   ·refine aG (u.a.hd.rP rfl (u.a.AW _ λw2 t2 M E=>?_));refine cP (m:=j*size/16+(i+1)) O O ⟨⟨i+1,rfl,O,ew.trans (ea M),?_⟩,O⟩;rw[Ff];exact u.lJ M E
   ·have X:i=size/16:=by omega
    subst X;refine aG (u.a.hd.rP rfl (u.a.wh _ _ λw2 t2 M E=>?_));exact hR _ _ G w2 (ew.trans (ea M)) (u.lJ M E)
 ·have D:=Np (sp:=sp) (size:=size) O λi x J=>by
   by_cases hij:i<j
   ·exact y i x hij J
   ·have:j*size<=i*size:=lU _ O;omega
  have G:Ux A sp size=none:=by unfold Ux;rw[D]
  exact h0 G v e z
theorem Nf {m a:Nat}(h1:1<=m)(h2:m<=64)(ha:a=1\/a=2\/a=4\/a=8\/a=16):Go.Bu.fI (m:Int) (a:Int)=true:=by
 have b:Go.Bu.eX (a:Int)=true:=by rcases ha with rfl|rfl|rfl|rfl|rfl<;>decide
 unfold Go.Bu.fI;rw[b];simp only[uy,zF,zU];omega
theorem W2.take (h:W2 U F H Y A T sp){m a:Nat}(hok:Go.Bu.fI (m:Int) (a:Int)=true){R:Int->Int->Hp->Prop}(h0:Y9 A.n A.S m a=none->∀σ',Ext F U σ'->W2 σ' F H Y A T sp->R 0 6 σ')
 (h1:∀x,Y9 A.n A.S m a=some x->x+m<=A.n->∀σ',Ext F U σ'->W2 σ' F H Y {A with S:=Go.Bu.take A.S x (x+m)} T sp->R (x:Int) 0 σ'):Xz.c (aW Y.fr) (m:Int) (a:Int) U R:=by
 have b:Go.Bu.Bounded A.S A.n:=by obtain⟨r,p,j,_⟩:=h.a.free;exact j.jm
 refine h.a.vd _ _ λσ' e i=>?_;have d:=h.lJ e i;cases ht:Y9 A.n A.S m a with
 | none=>
  have e1:Go.Bu.iR A.n A.S (m:Int) (a:Int)=6:=by unfold Go.Bu.iR;rw[hok,zC rfl];simp only[dE];rw[ht]
  have e2:Go.Bu.iY A.n A.S (m:Int) (a:Int)=0:=by unfold Go.Bu.iY;rw[hok,zC rfl];simp only[dE];rw[ht]
  have g:Go.Bu.iN A.n A.S (m:Int) (a:Int)=A.S:=by unfold Go.Bu.iN;rw[hok,zC rfl];simp only[dE];rw[ht]
  rw[e1,e2];rw[g]at d;exact h0 ht σ' e d
 | some x=>
  have e1:Go.Bu.iR A.n A.S (m:Int) (a:Int)=0:=by unfold Go.Bu.iR;rw[hok,zC rfl];simp only[dE];rw[ht]
  have e2:Go.Bu.iY A.n A.S (m:Int) (a:Int)=x:=by unfold Go.Bu.iY;rw[hok,zC rfl];simp only[dE];rw[ht]
  have g:Go.Bu.iN A.n A.S (m:Int) (a:Int)=Go.Bu.take A.S x (x+m):=by unfold Go.Bu.iN;rw[hok,zC rfl];simp only[dE];rw[ht]
  rw[e1,e2];rw[g]at d;exact h1 x ht (Go.Bu.kZ b ht).1 σ' e d
theorem NI {size:Nat}{A':AR}{sp':Sp}(h:Ux A sp size=some (A',sp')):A'.n=A.n:=by
 unfold Ux at h;split at h
 ·cases h
 ·cases h;rfl
def Fits (U:Hp)(F H F' H':Rg):Prop:=(∀b,F' b->Grow F U b)/\∀b,H' b->H b
theorem Cx (h:W2 U F H Y A T sp){m a no:Nat}(h1:1<=m)(h2:m<=64)(ha:a=1\/a=2\/a=4\/a=8\/a=16)(hn1:1<=no)(hn2:no<=1000){R:Int->Int->Hp->Prop}
 (h0:(cZ A sp m a no).1=none->∀σ',Ext (iP F H) U σ'->W2 σ' F H Y (cZ A sp m a no).2.1 T (cZ A sp m a no).2.2->R 0 6 σ')
 (hR:∀x,(cZ A sp m a no).1=some x->x+m<=A.n->∀σ' F' H',Fits U F H F' H'->Ext (iP F H) U σ'->W2 σ' F' H' Y (cZ A sp m a no).2.1 T (cZ A sp m a no).2.2->R (x:Int) 0 σ') :
 Yx.c (aW Y.p) (m:Int) (a:Int) (no:Int) U R:=by
 refine Yx.o ?_;unfold Yx.v;have G:=Nf h1 h2 ha;have es:∀{a b:Hp},Ext H a b->Ext (iP F H) a b:=λe=>e.sub λb j=>.inr j;have r:∀{a b:Hp},Ext F a b->Ext (iP F H) a b:=λe=>e.sub λb j=>.inl j;have fin:∀(v:Hp) (x:Nat) (A1:AR) (sp1:Sp),Ext (iP F H) U v->x+m<=A.n->W2 v F H Y {A1 with S:=Go.Bu.take A1.S x (x+m)} T sp1->cZ A sp m a no=(some x,dN A1 x m no,sp1) →
  bU (some ⟨Y.p,0,none⟩) λZ=>fW (Z.add 3) v λK=>Xv.c K (x:Int) (m:Int) v λt55 u=>bU (some ⟨Y.p,0,none⟩) λN=>fW (N.add 4) u λaa=>XS.c aa (x:Int) (m:Int) (no:Int) u λt63 v3=>R (x:Int) 0 v3:=by
  intro v x A1 sp1 e hxm B y;have L:x<=1000000:=by have:=h.a.lay.n2;omega
  refine aG (B.a.hd.rP rfl (B.a.IF _ _ λu t2 e2 W=>?_));have g:=B.lJ e2 W;refine aG (g.a.hd.rP rfl (g.a.Set x m L hn1 hn2 λv3 t3 e3 X=>?_));have P:=g.oK e3 X;refine hR x (by rw[y]) hxm v3 (Grow F u) (Cut H u) ⟨λb j=>?_,λb j=>j.1⟩ ((e.trans (r e2)).trans (r e3)) (by rw[y];exact P);rcases j with j|j
  ·exact .inl j
  ·exact .inr (zh (e.trans (r e2)).1 j)
 refine aG (h.a.hd.rP rfl (h.take G (λE v e B=>?_) λx E C v e B=>?_))
 ·refine Jn.intro (cE rfl ?_);have V:(if(a:Int)>(m:Int)then(a:Int)else(m:Int))=((max m a:Nat):Int):=by
   by_cases hgt:(a:Int)>(m:Int)
   ·rw[zC hgt];omega
   ·rw[zB hgt];omega
  rw[V];refine ZX (a:=bN) (λ(t:Int) w=>w=v/\(t=16\/t=32/\16<max m a\/t=64/\32<max m a)) (λt _=>100-t.toNat) ⟨rfl,.inl rfl⟩ ?_;rintro(t:Int) w ⟨rfl,hcase⟩;have ab:a<=16:=by omega
  refine cQ (λhlt=>?_) λhge=>?_
  ·have:t=16\/t=32:=by omega
   rcases this with rfl|rfl
   ·exact ar O O ⟨⟨rfl,O⟩,by decide⟩
   ·exact ar O O ⟨⟨rfl,O⟩,by decide⟩
  ·have Q:t=((QP (max m a):Nat):Int):=by
    unfold QP;by_cases c1:max m a<=16
    ·rw[zC c1];omega
    ·rw[zB c1];by_cases c2:max m a<=32
     ·rw[zC c2];omega
     ·rw[zB c2];omega
   subst Q;have M:QP (max m a)=16\/QP (max m a)=32\/QP (max m a)=64:=by omega
   refine PH B M (λy σ' J s=>?_) λA' D y σ' J s=>?_
   ·have d:cZ A sp m a no=(none,A,sp):=by unfold cZ;rw[E];simp only;rw[y]
    exact cE rfl (h0 (by rw[d]) σ' ((r e).trans J) (by rw[d];exact s))
   ·refine cB rfl (aG (s.a.hd.rP rfl (s.take G (λz u e2 g=>?_) λx z C u e2 g=>?_)))
    ·have d:cZ A sp m a no=(none,A',D):=by unfold cZ;rw[E];simp only;rw[y];simp only;rw[z]
     exact cE rfl (h0 (by rw[d]) u (((r e).trans J).trans (r e2)) (by rw[d];exact g))
    ·have d:cZ A sp m a no=(some x,dN A' x m no,D):=by unfold cZ;rw[E];simp only;rw[y];simp only;rw[z]
     exact cB rfl (fin u x A' D (((r e).trans J).trans (r e2)) (by rw[←NI y];exact C) g d)
 ·have d:cZ A sp m a no=(some x,dN A x m no,sp):=by unfold cZ;rw[E]
  refine Jn.intro (cB rfl (cB rfl (fin v x A sp (r e) C B d)))
theorem Fits.refl:Fits U F H F H:=⟨λb a=>.inl a,λb a=>a⟩
theorem W2.mono {F' H':Rg}(h:W2 U F H Y A T sp)(hF:iV F')(hF2:∀b,b<U.size->F b->F' b)(hH:∀b,H' b->H b)(hH2:∀b,b<U.size->H b->H' b)(hd:∀b,F' b->¬H' b):W2 U F' H' Y A T sp:=
 ⟨h.a.mono hF2,dM.mono dL.loc h.s hH2,hd,h.g,hF,h.o2.sub hH⟩
theorem Mb (h:W2 U F H Y A T sp)(k:Int){R:aN}(hR:∀σ' F' H',Fits U F H F' H'->Ext (iP F H) U σ'->W2 σ' F' H' Y (cL A sp k).1 T (cL A sp k).2->R (KC A sp k) σ') :
 X2.c (aW Y.p) k U R:=by
 refine X2.o ?_;unfold X2.v;refine V5 h.a k (λE=>?_) λx hx N=>?_
 ·have e1:KC A sp k=1:=by unfold KC;rw[E];rfl
  have e2:cL A sp k=(A,sp):=by unfold cL;rw[E];rfl
  have:=hR U F H Fits.refl (Ext.refl _ _) (by rw[e2];exact h);rw[e1]at this;exact cE rfl this
 ·subst hx;have E:A.ck (x:Int)=true:=by unfold AR.ck;simp;omega
  obtain⟨c,Q,q,t,r,J,B,Z,_,_,P⟩:=h.a.at_ N;have ht2:=h.a.lay.p8;obtain⟨_,_,_,L,hp4,_⟩:=P;refine cB rfl (aG (h.a.hd.rS rfl (h.a.vH (d:=1) J O ?_)));simp only[zB (show ¬(1=0) by omega),zR];refine cP (m:=x+1) O O ?_;have eE:KC A sp x=match (cZ A sp c.aF 1 (x+1)).1 with
   | some y=>H4 c Q y
   | none=>6:=by unfold KC;rw[E,zC rfl];simp only[dE];rw[J,B];rfl
  have eS:cL A sp x=match cZ A sp c.aF 1 (x+1)with
   | (some y,A',w)=>(if H4 c Q y=0 then{A' with cD:=A'.cD.set x (ik c Q y)}else A',w)
   | (none,A',w)=>(A',w):=by unfold cL;rw[E,zC rfl];simp only[dE];rw[J,B];rfl
  refine Cx (a:=1) h L O (.inl rfl) O O (λC σ' e u=>?_) λy C hyn σ' F' H' i e u=>?_
  ·have:=hR σ' F H Fits.refl e;rw[eE,eS,C]at this;generalize cZ A sp c.aF 1 (x+1)=g at *;obtain⟨g1,g2,g3⟩:=g;simp only at C;subst C;exact cE rfl (this u)
  ·have z:(cZ A sp c.aF 1 (x+1)).2.1.tb=A.tb/\(cZ A sp c.aF 1 (x+1)).2.1.cD=A.cD:=by
    unfold cZ;split
    ·exact⟨rfl,rfl⟩
    ·split
     ·exact⟨rfl,rfl⟩
     ·rename_i A1 sp1 hga;have:A1.tb=A.tb/\A1.cD=A.cD:=by
       unfold Ux at hga;split at hga
       ·cases hga
       ·cases hga;exact⟨rfl,rfl⟩
      split
      ·exact this
      ·exact this
   have s:=λσ' F' H'=>hR σ' F' H';rw[eE,eS]at s;generalize cZ A sp c.aF 1 (x+1)=g at *;obtain⟨g1,A',w⟩:=g;simp only at C u z s;subst C;simp only at s;have hWc:=u;obtain⟨G,M,⟨ps,hC⟩,_,D⟩:=u.a.sH Z (by rw[z.1];exact J) (by rw[z.2];exact B);have hn2:=h.a.lay.n2;refine cB rfl (aG (u.a.hd.rS rfl (u.a.lP Z (SF hC O (λW v e2=>?_) λX v ps' e2 S=>?_))))
   ·have:=s v F' H' i (e.jU e2) (by rw[W];exact u.bO e2);rw[W]at this;exact this
   ·have V:=D v _ _ (Grow G σ') _ e2 (λb j=>j) S (Hm M λb j=>j);have K:=u.oK (e2.sub M) V;have:=s v (Grow F' σ') (Cut H' σ') ⟨λb j=>?_,λb j=>i.2 b j.1⟩ (e.dT (e2.sub M) λb j=>?_) (by rw[X];exact K)
    ·rw[X]at this;exact this
    ·rcases j with j|j
     ·exact i.1 b j
     ·exact .inr (zh e.1 j)
    ·rcases i.1 b j with h1|h1
     ·exact .inl (.inl h1)
     ·exact .inr h1
theorem HJ (A:AR)(sp:Sp)(m a no:Nat):(cZ A sp m a no).2.1.tb=A.tb/\(cZ A sp m a no).2.1.cD=A.cD/\(cZ A sp m a no).2.1.cM=A.cM/\(cZ A sp m a no).2.1.room=A.room/\(cZ A sp m a no).2.1.runs=A.runs/\(cZ A sp m a no).2.1.n=A.n:=by
 unfold cZ;split
 ·exact⟨rfl,rfl,rfl,rfl,rfl,rfl⟩
 ·split
  ·exact⟨rfl,rfl,rfl,rfl,rfl,rfl⟩
  ·rename_i A1 sp1 hga;have:A1.tb=A.tb/\A1.cD=A.cD/\A1.cM=A.cM/\A1.room=A.room/\A1.runs=A.runs/\A1.n=A.n:=by
    unfold Ux at hga;split at hga
    ·cases hga
    ·cases hga;exact⟨rfl,rfl,rfl,rfl,rfl,rfl⟩
   split
   ·exact this
   ·exact this
theorem Me:∀a:Nat,a<17->1<=a->((bits .and .i64 (a:Int) ((a:Int)-1) != 0) = !(a==1||(a==2||(a==4||(a==8||a==16))))):=by decide
theorem RJ (h:W2 U F H Y A T sp)(m a:Int){R:Int->Int->Hp->Prop}(hR:∀σ' F' H',Fits U F H F' H'->Ext (iP F H) U σ'->W2 σ' F' H' Y (cA A sp m a).1 T (cA A sp m a).2->R ((ZW A sp m a:Nat):Int) (Qi A sp m a) σ') :
 WJ.c (aW Y.p) m a U R:=by
 refine WJ.o ?_;unfold WJ.v;have J:Q5 m a=false->R 0 1 U:=λu=>by
  have e1:Qi A sp m a=1:=by unfold Qi;rw[u];rfl
  have e2:cA A sp m a=(A,sp):=by unfold cA;rw[u];rfl
  have e3:ZW A sp m a=0:=by unfold ZW;rw[u];rfl
  have:=hR U F H Fits.refl (Ext.refl _ _) (by rw[e2];exact h);rw[e1,e3]at this;exact this
 have d:¬(1<=m/\m<=64/\(a=1\/a=2\/a=4\/a=8\/a=16))->R 0 1 U:=λhn=>J (by
  rw[←pS];intro hp;unfold Q5 at hp;simp at hp;omega)
 refine UY h.a (cB rfl (bV.intro (cQ (λc1=>bV.intro (cE rfl (bV.intro (cE rfl (bV.intro (cE rfl (cE rfl (d O)))))))) λc1=>?_)));refine bV.intro (cQ (λW=>bV.intro (cE rfl (bV.intro (cE rfl (cE rfl (d O)))))) λW=>?_);refine bV.intro (cQ (λc3=>bV.intro (cE rfl (cE rfl (d O)))) λc3=>?_);refine bV.intro (cQ (λV=>cE rfl (d O)) λV=>ar O O ?_);obtain⟨y,rfl⟩:=zc (show 0<=m by omega);obtain⟨z,rfl⟩:=zc (show 0<=a by omega);rw[Me z O O];refine cO (λL=>?_) λL=>?_
 ·refine d (λhh=>?_);simp at L;omega
 ·have hz:z=1\/z=2\/z=4\/z=8\/z=16:=by
   simp at L;omega
  have u:Q5 (y:Int) (z:Int)=true:=by
   unfold Q5;simp;omega
  have N:Qi A sp y z=if(cZ A sp y z 41).1.isSome then 0 else 6:=by unfold Qi;rw[u,zC rfl];rfl
  have P:ZW A sp y z=(cZ A sp y z 41).1.getD 0:=by unfold ZW;rw[u,zC rfl];rfl
  have Q:cA A sp y z=match cZ A sp y z 41 with
   | (some x,A',r)=>({A' with runs:=cA.mset2 A'.runs x y},r)
   | (none,A',r)=>(A',r):=by unfold cA;rw[u,zC rfl];rfl
  refine Cx (no:=41) h O O hz O O (λB σ' e w=>?_) λx B aa σ' F' H' s e w=>?_
  ·have:=hR σ' F H Fits.refl e;rw[N,Q,P,B]at this;generalize cZ A sp y z 41=g at *;obtain⟨X,g2,g3⟩:=g;simp only at B;subst B;exact cE rfl (this w)
  ·have j:=λσ' F' H'=>hR σ' F' H';rw[N,Q,P]at j;generalize cZ A sp y z 41=g at *;obtain⟨X,A',r⟩:=g;simp only at B w j;subst B;simp only at j;obtain⟨Z,hm,C⟩:=w.a.qO;refine cB rfl (aG (w.a.hd.rM rfl ⟨_,_,rfl,hm,λv S K=>?_⟩));have D:dH v Y.rn .i64 bN (dB (iH A'.runs) (x:Int) (y:Int)):=K;rw[Ru]at D;have M:=C v _ S D;have e2:Ext F' σ' v:=S.ext.sub λb E=>by subst E;exact Z
   have G:=w.lJ e2 M;exact j v F' H' s (e.dT e2 λb E=>by
    rcases s.1 b E with h1|h1
    ·exact .inl (.inl h1)
    ·exact .inr h1) G
end Go.Ar
namespace Go.Proofs
open Go.Vc
set_option maxRecDepth 100000
end Go.Proofs
namespace Go.Ar
open Go Go.Vc Go.Proofs
variable {U:Hp}{Q:Rg}{key:Nat->Nat}
end Go.Ar
namespace Go.Ar
open Go Go.Vc Go.Proofs
variable {U:Hp}{F:Rg}{p q:Nat}{st:List Nat}
end Go.Ar
namespace Go.Ar
open Go Go.Vc Go.Proofs
open Go.Bu (Zc Qx Y9)
variable {U:Hp}{F H:Rg}{p hs:Nat}{A:AR}{sp:Sp}{Y:Lay}{T:Nat->Hp->Rg->Prop}
theorem dG.cM (h:dG U F Y A (cK A Y)){k q:Nat}{c:bZ}{t:gD}(h1:Y.fV[k]?=some q)(h2:A.tb[k]?=some c)(h3:A.cM[k]?=some t):∃G:Rg,(∀b,G b->F b)/\jo U G q c.batch A.room t:=by
 obtain⟨G,a,d,_⟩:=h.sN h1 h2 h3;exact⟨G,a,d⟩
def part {α:Type}(f:bZ->α->Nat)(tb:List bZ)(l:List α)(i:Nat):Nat:=(((tb.zip l).take i).map λx=>f x.1 x.2).sum
end Go.Ar
namespace Go.Ar
open Go Go.Vc Go.Proofs
variable {U:Hp}
theorem D0:∀(xs:List (Int×Int×Int)),uJ xs=true↔∀(i:Nat) a b,xs[i]?=some a->xs[i+1]?=some b->a.1<b.1
 | []=>by simp[uJ]
 | [x]=>by simp[uJ]
 | x::y::l=>by
  have ih:=D0 (y::l);show(decide (x.1<y.1)&&uJ (y::l))=true↔_;rw[zF,ih,zU];constructor
  ·rintro⟨h1,h2⟩ i a b e d;cases i with
   | zero=>simp at e d;subst e;subst d;exact h1
   | succ i=>exact h2 i a b (by simpa using e) (by simpa using d)
  ·intro h;exact⟨h 0 x y rfl rfl,λi a b e d=>h (i+1) a b (by simpa using e) (by simpa using d)⟩
theorem Qc (xs:List (Int×Int×Int)):Qf xs=true↔1<=xs.length/\xs.length<=40/\(∀(i:Nat) t,xs[i]?=some t->Ug t.1 t.2.1 t.2.2=true)/\∀(i:Nat) a b,xs[i]?=some a->xs[i+1]?=some b->a.1<b.1:=by
 unfold Qf;simp only[zF,zU,D0,j6];constructor
 ·rintro⟨h1,h2,h3,h4⟩;exact⟨h1,h2,λi t d=>h3 t (zG d),h4⟩
 ·rintro⟨h1,h2,h3,h4⟩;exact⟨h1,h2,λt d=>by obtain⟨i,e⟩:=zQ d;exact h3 i t e,h4⟩
theorem Gk {s:Sl}{xs:List (Int×Int×Int)}(ha:ie U s xs){R:aO}(hR:∀σ',bK U σ'->R (Qf xs) σ'):Zv.c s U R:=by
 refine Zv.o ?_;unfold Zv.v;have N:∀σ',bK U σ'->¬(1<=xs.length/\xs.length<=40/\(∀(i:Nat) t,xs[i]?=some t->Ug t.1 t.2.1 t.2.2=true)/\∀(i:Nat) a b,xs[i]?=some a->xs[i+1]?=some b->a.1<b.1)->R false σ':=λσ' e hn=>by
  have:=hR σ' e;have hf:Qf xs=false:=by rw[←pS,Qc];exact hn
  rw[hf]at this;exact this
 have W:=ha.1;refine bV.intro (cQ (λc1=>cE rfl (N U (Ext.refl _ _) λh=>O)) λc1=>?_);refine cQ (λc2=>N U (Ext.refl _ _) λh=>O) λc2=>?_;refine ZX (a:=bN) (λ(t:Int) v=>∃i:Nat,t=(i:Int)/\i<=xs.length/\bK U v/\(∀(j:Nat) t,j<i->xs[j]?=some t->Ug t.1 t.2.1 t.2.2=true)/\∀(j:Nat) a b,j+1<i->xs[j]?=some a->xs[j+1]?=some b->a.1<b.1) (λt _=>xs.length-t.toNat)
  ⟨0,rfl,O,Ext.refl _ _,λj t h=>O,λj a b h=>O⟩ ?_
 rintro t v ⟨i,rfl,L,e,Z,X⟩;have M:=ZQ ha e;refine cQ (λhlt=>?_) λhge=>?_
 ·have Q:i<xs.length:=by omega
  have A:xs[i]?=some xs[i]:=cU Q;generalize xs[i]=r at A;obtain⟨x,y,z⟩:=r;refine xq M A ?_;refine nw (cs:=[.int .i64 0,.int .i64 0,.int .i64 0]) λv2 hz2 e2 b2=>b2.s1 aA λv3 o3 b3=>b3.s1 aA λv4 o4 b4=>b4.s1 aA λv5 o5 K=>?_;have e5:bK v v5:=Ext.fresh (Ext.fresh (Ext.fresh e2 o3.ext λi L=>O) o4.ext λi L=>O) o5.ext λi L=>by omega
  refine Jn.intro ⟨(· = v5),rfl,⟨x,λm G=>by rw[G,add_lit,K.cell];rfl,⟨y,λm G=>by rw[G,add_lit,K.cell];rfl,⟨z,λm G=>by rw[G,add_lit,K.cell];rfl,?_⟩⟩⟩⟩;refine E5 x y z λv7 Y=>?_;have w:=(Ext.trans e e5).trans Y;have C:(Ug x y z=false\/∃a,0<i/\xs[i-1]?=some a/\x<=a.1)->R false v7:=λP=>N v7 w λH=>by
   rcases P with P|⟨a,J,hb1,hb2⟩
   ·have:=H.2.2.1 i _ A;simp only at this;rw[P]at this;cases this
   ·have:=H.2.2.2 (i-1) a (x,y,z) hb1 (by rw[show i-1+1=i by omega];exact A);simp only at this;omega
  cases hc:Ug x y z
  ·exact cE rfl (cE rfl (C (.inl hc)))
  ·have next:(∀a,0<i->xs[i-1]?=some a->a.1<x)->Ar .i64 ((i:Int)+1) λg=>(∃i:Nat,g=(i:Int)/\i<=xs.length/\bK U v7/\(∀(j:Nat) t,j<i->xs[j]?=some t->Ug t.1 t.2.1 t.2.2=true)/\∀(j:Nat) a b,j+1<i->xs[j]?=some a->xs[j+1]?=some b->a.1<b.1)/\xs.length-g.toNat<xs.length-(i:Int).toNat:=by
    intro J;refine cP (m:=i+1) O O ⟨⟨i+1,rfl,O,w,λj t hj B=>?_,λj a b hj p d=>?_⟩,O⟩
    ·by_cases hji:j=i
     ·subst hji;rw[A]at B;cases B;exact hc
     ·exact Z j t O B
    ·by_cases hji:j+1=i
     ·subst hji;rw[A]at d;cases d;exact J a O p
     ·exact X j a b O p d
   refine cB rfl (cQ (λJ=>?_) λJ=>cB rfl (next λa kE=>O))
   have u:xs[i-1]?=some (xs[i-1]' O):=cU _;generalize xs[i-1]' O=r at u;obtain⟨S,y',z'⟩:=r;have D:=ZQ ha w;obtain⟨b,o,g1,g2,g3,g4,g5⟩:=D.2 (i-1) S y' z' u;have b7:=Y.bT K id;refine cP (m:=i-1) O O ?_;rw[g1];refine ix O O ?_;have E:cell v7 ⟨b,o+(((i-1:Nat):Int)).toNat*3+0,none⟩=some (.int .i64 S):=by simpa using g3
   have fin:If (decide (x<=S)) (R false v7) (Ar .i64 ((i:Int)+1) λg=>(∃i:Nat,g=(i:Int)/\i<=xs.length/\bK U v7/\(∀(j:Nat) t,j<i->xs[j]?=some t->Ug t.1 t.2.1 t.2.2=true)/\∀(j:Nat) a b,j+1<i->xs[j]?=some a->xs[j+1]?=some b->a.1<b.1)/\xs.length-g.toNat<xs.length-(i:Int).toNat):=by
    refine cQ (λV=>C (.inr ⟨_,O,u,V⟩)) λhgt=>next λa _ F=>?_
    rw[u]at F;cases F;simp only;omega
   rw[add_lit b o];exact⟨b7.rI rfl (fU E fin),fU E (b7.rI rfl fin)⟩
 ·have:i=xs.length:=by omega
  subst this;have H:Qf xs=true:=(Qc xs).2 ⟨O,O,λi t B=>Z i t (cV.1 B).1 B,λi a b p d=>X i a b (cV.1 d).1 p d⟩;have:=hR v e;rw[H]at this;exact this
end Go.Ar
namespace Go.Ar
open Go Go.Vc Go.Proofs
open Go.Bu (Zc Qx Y9)
variable {U:Hp}{F H:Rg}{p hs:Nat}{A:AR}{sp:Sp}{Y:Lay}{T:Nat->Hp->Rg->Prop}
open Classical in
theorem _root_.Go.Vc.Sep.put {L:Type}{C C':L->Hp->Rg->Prop}{U:Hp}{F G:Rg}(hC:∀i,dM (C i))(h:Sep C U F)(i:L)(hd:∀b,G b->¬F b)(hj:∀j,j≠i->C' j=C j)(hi:C' i U G)(hL:dM (C' i)):Sep C' U λb=>F b\/G b:=by
 obtain⟨ρ,h⟩:=h;refine⟨λb=>if G b then i else ρ b,λj=>?_⟩
 by_cases hji:j=i
 ·subst hji;exact hL.mono hi λb _ d=>⟨.inr d,zC d⟩
 ·rw[hj j hji];refine(hC j).mono (h j) λb _ a=>⟨.inl a.1,?_⟩;show(if G b then i else ρ b)=j
  rw[zB λe=>hd b e a.1];exact a.2
def fY (A:AR)(Y:Lay)(T:Nat->Hp->Rg->Prop)(cs:List Value):Lb->Hp->Rg->Prop
 | .hd=>iq Y.p cs
 | i=>AC A Y T i
theorem fY.loc {cs:List Value}(hT:∀k,dM (T k)):∀i,dM (fY A Y T cs i)
 | .hd=>iq.loc _ _
 | .dD=>AC.loc (A:=A) (Y:=Y) hT .dD
 | .free=>AC.loc (A:=A) (Y:=Y) hT .free
 | .nK=>AC.loc (A:=A) (Y:=Y) hT .nK
 | .own=>AC.loc (A:=A) (Y:=Y) hT .own
 | .dO=>AC.loc (A:=A) (Y:=Y) hT .dO
 | .cN=>AC.loc (A:=A) (Y:=Y) hT .cN
 | .runs=>AC.loc (A:=A) (Y:=Y) hT .runs
 | .cD k=>AC.loc (A:=A) (Y:=Y) hT (.cD k)
 | .cM k=>AC.loc (A:=A) (Y:=Y) hT (.cM k)
theorem Mv:fY A Y T (kJ Y)=AC A Y T:=by
 funext i;cases i<;>rfl
theorem Db {cs:List Value}(hT:∀k,dM (T k))(h:Sep (fY A Y T cs) U F)(hlen:A.cD.length<=Y.fG.length)(hl:Y.fG.length<=40){vb cp ty:Nat}(hb:bY U vb [.pointer (some ⟨cp,0,none⟩)])(hvb:¬F vb){K:Sl->Hp->Prop}
 (hK:∀s' σ',Ext F U σ'->Sep (fY A {Y with dO:=s',fG:=Y.fG++[cp]} T cs) σ' (Grow F U)->K s' σ'):App Y.dO 1 8 ty [.pointer none] ⟨some ⟨vb,0,none⟩,1,1⟩ U K:=by
 obtain⟨G,g,d,_,a⟩:=h.jQ (fY.loc hT) .dO;have d:bR Y.dO 1 (fJ Y.fG) U G:=d;have i:Y.dO.len=Y.fG.length:=by have:=d.1;simp[fJ]at this;omega
 refine d.app (ys:=[.pointer (some ⟨cp,0,none⟩)]) rfl rfl ?_ (by simp[dP]) aC aC mN λs' σ' m e p=>hK s' σ' (e.sub g) ?_
 ·intro j u hu;rw[add_lit,zH,hb.cell];exact hu
 refine(Sep.loc (fY.loc hT)).mono (a σ' (fY A {Y with dO:=s',fG:=Y.fG++[cp]} T cs) (Grow G U) (λj r=>?_) e (λb hb=>hb) ?_ (fY.loc hT _)) λb _ hb=>Hm g (λb hb=>hb) b hb
 ·cases j<;>first|rfl|exact absurd rfl r|skip
  rename_i k;show jP (Y.fG++[cp])[k]? A.tb[k]? A.cD[k]?=jP Y.fG[k]? A.tb[k]? A.cD[k]?;rcases kc k Y.fG.length with h1|h1
  ·rw[ze h1]
  ·have:A.cD[k]?=none:=zV O;rw[this]
   funext U F
   unfold jP;cases(Y.fG++[cp])[k]?<;>cases Y.fG[k]?<;>cases A.tb[k]?<;>rfl
 ·show bR s' 1 (fJ (Y.fG++[cp])) σ' (Grow G U);have:fJ (Y.fG++[cp])=fJ Y.fG++[.pointer (some ⟨cp,0,none⟩)]:=by simp[fJ]
  rw[this];exact p
theorem Jv (hlen:A.cM.length<=Y.fV.length)(tp:Nat)(s':Sl):cK A {Y with cN:=s',fV:=Y.fV++[tp]}=cK A Y:=by
 funext k
 unfold cK;simp only;rcases kc k Y.fV.length with h1|h1
 ·rw[ze h1]
 ·have:A.cM[k]?=none:=zV O;rw[this]
  funext U F
  unfold k7;cases(Y.fV++[tp])[k]?<;>cases Y.fV[k]?<;>cases A.tb[k]?<;>rfl
theorem Fs {cs:List Value}(h:Sep (fY A Y (cK A Y) cs) U F)(hlen:A.cM.length<=Y.fV.length)(hl:Y.fV.length<=40){vb tp ty:Nat}(hb:bY U vb [.pointer (some ⟨tp,0,none⟩)])(hvb:¬F vb){K:Sl->Hp->Prop}
 (hK:∀s' σ',Ext F U σ'->Sep (fY A {Y with cN:=s',fV:=Y.fV++[tp]} (cK A {Y with cN:=s',fV:=Y.fV++[tp]}) cs) σ' (Grow F U)->K s' σ'):App Y.cN 1 8 ty [.pointer none] ⟨some ⟨vb,0,none⟩,1,1⟩ U K:=by
 have g:∀k,dM (cK A Y k):=λk=>cK.loc k;obtain⟨G,i,d,_,a⟩:=h.jQ (fY.loc g) .cN;have d:bR Y.cN 1 (fJ Y.fV) U G:=d;have r:Y.cN.len=Y.fV.length:=by have:=d.1;simp[fJ]at this;omega
 refine d.app (ys:=[.pointer (some ⟨tp,0,none⟩)]) rfl rfl ?_ (by simp[dP]) aC aC mN λs' σ' m e s=>hK s' σ' (e.sub i) ?_
 ·intro j u hu;rw[add_lit,zH,hb.cell];exact hu
 rw[Jv hlen];refine(Sep.loc (fY.loc g)).mono (a σ' (fY A {Y with cN:=s',fV:=Y.fV++[tp]} (cK A Y) cs) (Grow G U) (λj p=>?_) e (λb hb=>hb) ?_ (fY.loc g _)) λb _ hb=>Hm i (λb hb=>hb) b hb
 ·cases j<;>first|rfl|exact absurd rfl p
 ·show bR s' 1 (fJ (Y.fV++[tp])) σ' (Grow G U);have:fJ (Y.fV++[tp])=fJ Y.fV++[.pointer (some ⟨tp,0,none⟩)]:=by simp[fJ]
  rw[this];exact s
theorem EJ {cs:List Value}(hT:∀k,dM (T k))(h:Sep (fY A Y T cs) U F){i:Nat}{v:Value}(hi:i<cs.length){K:aP}(hK:∀σ',Ext F U σ'->Sep (fY A Y T (cs.set i v)) σ' F->K σ'):dS (Addr.add ⟨Y.p,0,none⟩ i) v U K:=by
 obtain⟨G,g,d,_,e⟩:=h.jQ (fY.loc hT) .hd;have d:iq Y.p cs U G:=d;refine d.2.s1 O λσ' o b=>hK σ' (o.ext.sub λb a=>by subst a;exact g _ d.1) ?_;rw[zH]at b;refine(Sep.loc (fY.loc hT)).mono (e σ' (fY A Y T (cs.set i v)) G (λj m=>?_) (o.ext.sub λb a=>by subst a;exact d.1) (λb a=>.inl a) ⟨d.1,b⟩ (fY.loc hT _)) λb _ a=>ym g (λb a=>a) b a;cases j<;>first|rfl|exact absurd rfl m
theorem mu {cs:List Value}(h:Sep (fY A Y T cs) U F):bY U Y.p cs/\F Y.p:=by
 obtain⟨G,b,d,a⟩:=h.get .hd;exact⟨a,b _ d⟩
theorem Rh {cs:List Value}{i cp tp:Nat}{c:bZ}{ss:List cF}{t:gD}{ps:List (Nat×Nat)}{Gc Gt:Rg}(h:Sep (fY A Y (cK A Y) cs) U F)(hlc:A.cD.length=i)(hlt:A.cM.length=i)(hcp:Y.fG[i]?=some cp)(htp:Y.fV[i]?=some tp)(hc:A.tb[i]?=some c)
 (hC:fB U Gc cp c ps ss) (hTf:jo U Gt tp c.batch A.room t) (d1:∀b,Gc b->¬F b) (d2:∀b,Gt b->¬F b) (d3:∀b,Gc b->¬Gt b) :
 Sep (fY {A with cD:=A.cD++[ss],cM:=A.cM++[t]} Y (cK {A with cD:=A.cD++[ss],cM:=A.cM++[t]} Y) cs) U λb=>(F b\/Gc b)\/Gt b:=by
 have p:∀k,dM (cK A Y k):=λk=>cK.loc k;have u:Sep (fY {A with cD:=A.cD++[ss]} Y (cK A Y) cs) U λb=>F b\/Gc b:=by
  refine h.put (fY.loc p) (.cD i) d1 (λj m=>?_) ?_ (fY.loc p _)
  ·cases j<;>first|rfl|skip
   rename_i k;have r:k≠i:=λe=>m (by rw[e]);show jP Y.fG[k]? A.tb[k]? (A.cD++[ss])[k]?=jP Y.fG[k]? A.tb[k]? A.cD[k]?;rcases kc k i with h2|h2
   ·rw[ze O]
   ·have g:(A.cD++[ss])[k]?=none:=zV (by rw[zO,Ax];omega);have d:A.cD[k]?=none:=zV O;rw[g,d]
  ·show jP Y.fG[i]? A.tb[i]? (A.cD++[ss])[i]? U Gc;rw[hcp,hc,zp O,hlc,qi];exact⟨ps,hC⟩
 refine u.put (fY.loc p) (.cM i) (λb s a=>?_) (λj m=>?_) ?_ (fY.loc (λk=>cK.loc k) _)
 ·rcases a with a|a
  ·exact d2 b s a
  ·exact d3 b a s
 ·cases j<;>first|rfl|skip
  rename_i k;have r:k≠i:=λe=>m (by rw[e]);show k7 Y.fV[k]? A.tb[k]? A.room (A.cM++[t])[k]?=k7 Y.fV[k]? A.tb[k]? A.room A.cM[k]?;rcases kc k i with h2|h2
  ·rw[ze O]
  ·have g:(A.cM++[t])[k]?=none:=zV (by rw[zO,Ax];omega);have d:A.cM[k]?=none:=zV O;rw[g,d]
 ·show k7 Y.fV[i]? A.tb[i]? A.room (A.cM++[t])[i]? U Gt;rw[htp,hc,zp O,hlt,qi];exact hTf
open Classical in
noncomputable def jk {L:Type}(C:L->Hp->Rg->Prop)(S:L->Prop)(i:L):Hp->Rg->Prop:=if S i then C i else xH
theorem jk.loc {L:Type}{C:L->Hp->Rg->Prop}{S:L->Prop}(hC:∀i,dM (C i))(i:L):dM (jk C S i):=by
 unfold jk;split
 ·exact hC i
 ·exact xH.loc
theorem jk.put {L:Type}{C:L->Hp->Rg->Prop}{S:L->Prop}{F G:Rg}(hC:∀i,dM (C i))(h:Sep (jk C S) U F)(i:L)(hd:∀b,G b->¬F b)(hi:C i U G):Sep (jk C λj=>S j\/j=i) U λb=>F b\/G b:=by
 refine h.put (jk.loc hC) i hd (λj a=>?_) ?_ (jk.loc hC i)
 ·unfold jk;by_cases hS:S j
  ·rw[zC (.inl hS),zC hS]
  ·rw[zB (λh=>hS (h.resolve_right a)),zB hS]
 ·unfold jk;rw[zC (.inr rfl)];exact hi
theorem jk.all {L:Type}{C:L->Hp->Rg->Prop}{S:L->Prop}{F:Rg}(h:Sep (jk C S) U F)(hS:∀i,S i):Sep C U F:=by
 have:jk C S=C:=by
  funext i;unfold jk;rw[zC (hS i)]
 rw[this]at h;exact h
theorem jk.one {L:Type}{C:L->Hp->Rg->Prop}(S:L->Prop)(l:L)(h:∀i,S i->C i U λ_=>False):Sep (jk C S) U λ_=>False:=by
 refine⟨λ_=>l,λi=>?_⟩;have:(λ(b:Nat)=>False/\l=i)=λ_=>False:=by funext b;simp
 rw[this];unfold jk;by_cases hS:S i
 ·rw[zC hS];exact h i hS
 ·rw[zB hS];trivial
theorem L1 {tb:List bZ}:∀v∈fZ tb,dP v=true:=by
 intro v hv;simp only[fZ,List.mem_flatMap]at hv;obtain⟨c,_,a⟩:=hv;simp at a;rcases a with rfl|rfl|rfl<;>rfl
theorem UQ {s:Sl}{xs:List (Int×Int×Int)}(ha:ie U s xs)(hv:Qf xs=true){i:Nat}{c:bZ}(hc:(xs.map Z1)[i]?=some c):xs[i]?=some ((c.size:Int),(c.aF:Int),(c.batch:Int))/\c.ok:=by
 rw[za,oF]at hc;obtain⟨⟨x,y,z⟩,b,rfl⟩:=hc;obtain⟨c,a,j,d,g,e⟩:=Gq (((Qc xs).1 hv).2.2.1 i _ b);simp only at d g e;rw[j,b,d,g,e];exact⟨rfl,a⟩
theorem VR {s:Sl}{xs:List (Int×Int×Int)}(ha:ie U s xs)(hv:Qf xs=true){R:Sl->Hp->Prop}(hR:∀s' σ',bK U σ'->cW s' 3 (fZ (xs.map Z1)) σ' (λb=>U.size<=b)->R s' σ'):Wi.c s U R:=by
 refine Wi.o ?_;unfold Wi.v;have J:=(Qc xs).1 hv;have y:=ha.1;have w:0<(xs.map Z1).length:=by rw[zl];omega
 have F:(xs.map Z1)[0]?=some (xs.map Z1)[0]:=cU w;obtain⟨L,d,a,_⟩:=ha.2 0 _ _ _ (UQ ha hv F).1;refine cB (by rw[a];rfl) (nw (cs:=[]) λv D e1 C=>?_);have r:=ZQ ha e1;refine(bR.nil v (λb=>U.size<=b) 3 (some ⟨U.size,0,none⟩)).app (ys:=fZ (xs.map Z1)) rfl (by rw[VH,zl];omega) ?_ L1 aC aC O λs' E G K g=>hR s' E (Ext.fresh e1 K λi p=>p) ?_
 ·rw[a];intro j u hu;have x:=(cV.1 hu).1;rw[VH,zl]at x;have p:j/3<(xs.map Z1).length:=by rw[zl];omega
  have m:(xs.map Z1)[j/3]?=some (xs.map Z1)[j/3]:=cU p;generalize (xs.map Z1)[j/3]=c at m;have e:=Gm m;obtain⟨b,o,z,_,B,A,H⟩:=r.2 (j/3) _ _ _ (UQ ha hv m).1;rw[a]at z;cases z;rw[add_lit];rcases(by omega:j=3*(j/3)\/j=3*(j/3)+1\/j=3*(j/3)+2)with hj|hj|hj
  ·rw[hj]at hu;rw[e.1]at hu;cases hu;rw[show d+j=d+j/3*3 by omega];exact B
  ·rw[hj]at hu;rw[e.2.1]at hu;cases hu;rw[show d+j=d+j/3*3+1 by omega];exact A
  ·rw[hj]at hu;rw[e.2.2]at hu;cases hu;rw[show d+j=d+j/3*3+2 by omega];exact H
 ·rw[tg]at g;refine aH.mono g.gF λb _ e=>?_;rcases e with h|h
  ·exact h
  ·omega
def fo (n room:Nat)(tb:List bZ):AR:={n:=n,room:=room,tb:=tb,S:=Go.Bu.iv,st:=List.replicate n 0,ow:=λ_=>0,cD:=List.replicate tb.length [],cM:=List.replicate tb.length ⟨0,[]⟩,runs:=[]}
def jg (n room:Nat)(tb:List bZ)(i:Nat):AR:={fo n room tb with cD:=List.replicate i [],cM:=List.replicate i ⟨0,[]⟩}
def kS (xs:List (Int×Int×Int))(n:Nat)(room:Int):Int:=if Qf xs then(if 32<=n/\n%16=0/\0<=room/\room<=8 then 0 else 1)else 2
def S0:Lb->Prop
 | .dO | .cN | .cD _ | .cM _=>True
 | _=>False
theorem Eg {i cp tp:Nat}{c:bZ}{ss:List cF}{t:gD}{ps:List (Nat×Nat)}{Gc Gt:Rg}{dO cN:Sl}(hpos:Y.fG.length=i/\Y.fV.length=i)
 (h:Sep (fY A {Y with dO:=dO,cN:=cN,fG:=Y.fG++[cp],fV:=Y.fV++[tp]} (cK A {Y with dO:=dO,cN:=cN,fG:=Y.fG++[cp],fV:=Y.fV++[tp]}) (kJ Y)) U F)
 (hlc:A.cD.length=i) (hlt:A.cM.length=i) (hc:A.tb[i]?=some c) (hC:fB U Gc cp c ps ss) (hTf:jo U Gt tp c.batch A.room t) (d1:∀b,Gc b->¬F b) (d2:∀b,Gt b->¬F b) (d3:∀b,Gc b->¬Gt b) {K:aP}
 (hK:∀σ' Y',Ext F U σ'->Y'.p=Y.p->Y'.hs=Y.hs->Y'.fG.length=i+1->Y'.fV.length=i+1->Sep (fY {A with cD:=A.cD++[ss],cM:=A.cM++[t]} Y' (cK {A with cD:=A.cD++[ss],cM:=A.cM++[t]} Y') (kJ Y')) σ' (λb=>(F b\/Gc b)\/Gt b)->K σ') :
 bU (some ⟨Y.p,0,none⟩) λa93=>dS (a93.add 5) (.slice dO.a dO.len dO.cap) U λv25=>bU (some ⟨Y.p,0,none⟩) λa95=>dS (a95.add 6) (.slice cN.a cN.len cN.cap) v25 K:=by
 have m:∀k,dM (cK A {Y with dO:=dO,cN:=cN,fG:=Y.fG++[cp],fV:=Y.fV++[tp]} k):=λk=>cK.loc k;refine aG (EJ (Y:={Y with dO:=dO,cN:=cN,fG:=Y.fG++[cp],fV:=Y.fV++[tp]}) m h (i:=5) (by simp[kJ]) λx e1 r=>aG (EJ (Y:={Y with dO:=dO,cN:=cN,fG:=Y.fG++[cp],fV:=Y.fV++[tp]}) m r (i:=6) (by simp[kJ]) λw e2 u=>?_));have j:=(fB.loc (c:=c) (ps:=ps) (ss:=ss) (p:=cp)).bS ((fB.loc (c:=c) (ps:=ps) (ss:=ss) (p:=cp)).bS hC e1 λb _ e d=>d1 b e d) e2 λb _ e d=>d1 b e d;have g:=(jo.loc (p:=tp) (batch:=c.batch) (room:=A.room) (t:=t)).bS ((jo.loc (p:=tp) (batch:=c.batch) (room:=A.room) (t:=t)).bS hTf e1 λb _ e d=>d2 b e d) e2 λb _ e d=>d2 b e d;have s:=Rh (cp:=cp) (tp:=tp) u hlc hlt (by simp only;rw[zp O,hpos.1,qi];rfl) (by simp only;rw[zp O,hpos.2,qi];rfl) hc j g d1 d2 d3;exact hK w {Y with dO:=dO,cN:=cN,fG:=Y.fG++[cp],fV:=Y.fV++[tp]} (e1.trans e2) rfl rfl (by simp[hpos.1]) (by simp[hpos.2]) s
theorem pX {cs:List Value}{σ':Hp}(hT:∀k,dM (T k))(h:Sep (fY A Y T cs) U F)(e:bK U σ'):Sep (fY A Y T cs) σ' F:=(Sep.loc (fY.loc hT)).bO h e
theorem Dz {cs:List Value}(hT:∀k,dM (T k))(h:Sep (fY A Y T cs) U F):Sep (fY A Y T cs) U (Cut F U):=(Sep.loc (fY.loc hT)).cut h
theorem JM (n room:Nat)(tb:List bZ)(i:Nat):({jg n room tb i with cD:=(jg n room tb i).cD++[[]],cM:=(jg n room tb i).cM++[⟨0,[]⟩]}:AR)=jg n room tb (i+1):=by
 unfold jg;simp only[←B1]
theorem Lj (n room:Nat)(tb:List bZ):jg n room tb tb.length=fo n room tb:=rfl
theorem OW {i cp tp:Nat}{c:bZ}{ss:List cF}{t:gD}{ps:List (Nat×Nat)}{Gc Gt:Rg}{z:Nat}(hF:∀b,F b->z<=b/\b<U.size)(hpos:Y.fG.length=i/\Y.fV.length=i)(hi:i<40)
 (h:Sep (fY A Y (cK A Y) (kJ Y)) U F) (hlc:A.cD.length=i) (hlt:A.cM.length=i) (hc:A.tb[i]?=some c) (hC:fB U Gc cp c ps ss) (hTf:jo U Gt tp c.batch A.room t) (d1:∀b,Gc b->¬F b/\z<=b/\b<U.size) (d2:∀b,Gt b->¬F b/\z<=b/\b<U.size) (d3:∀b,Gc b->¬Gt b) {J4:aP}
 (hK:∀σ' Y',Ext F U σ'->Y'.p=Y.p->Y'.hs=Y.hs->Y'.fG.length=i+1->Y'.fV.length=i+1->Sep (fY {A with cD:=A.cD++[ss],cM:=A.cM++[t]} Y' (cK {A with cD:=A.cD++[ss],cM:=A.cM++[t]} Y') (kJ Y')) σ' (λb=>z<=b)->J4 σ') :
 eI U λS=>bU (some ⟨Y.p,0,none⟩) λa80=>gE S .s (a80.add 5) λ(t82:Sl)=>bU (some ⟨Y.p,0,none⟩) λa87=>gE S .s (a87.add 6) λ(t89:Sl)=>
  (Nw (.cells #[.pointer (some ⟨cp,0,none⟩)] 182 (0,0)) U λn84 v21=>And (S v21) <|
   (App t82 1 8 182 [.pointer none] ⟨some n84,1,1⟩ v21 λt85 v22=>And (S v22)<|Nw (.cells #[.pointer (some ⟨tp,0,none⟩)] 184 (0,0)) v22 λn91 v23=>And (S v23)<|App t89 1 8 184 [.pointer none] ⟨some n91,1,1⟩ v23 λt92 v24=>And (S v24) <|
   bU (some ⟨Y.p,0,none⟩) λa93=>dS (a93.add 5) (.slice t85.a t85.len t85.cap) v24 λv25=>bU (some ⟨Y.p,0,none⟩) λa95=>dS (a95.add 6) (.slice t92.a t92.len t92.cap) v25 λv26=>J4 v26) ∧
   (Nw (.cells #[.pointer (some ⟨tp,0,none⟩)] 184 (0,0)) v21 λn911 v27=>And (S v27)<|App t82 1 8 182 [.pointer none] ⟨some n84,1,1⟩ v27 λt851 v28=>And (S v28)<|App t89 1 8 184 [.pointer none] ⟨some n911,1,1⟩ v28 λt921 v29=>And (S v29) <|
   bU (some ⟨Y.p,0,none⟩) λa931=>dS (a931.add 5) (.slice t851.a t851.len t851.cap) v29 λv30=>bU (some ⟨Y.p,0,none⟩) λa951=>dS (a951.add 6) (.slice t921.a t921.len t921.cap) v30 λv31=>J4 v31)) ∧
  (Nw (.cells #[.pointer (some ⟨tp,0,none⟩)] 184 (0,0)) U λn912 v32=>And (S v32)<|Nw (.cells #[.pointer (some ⟨cp,0,none⟩)] 182 (0,0)) v32 λn841 v33=>And (S v33) <|
  App t82 1 8 182 [.pointer none] ⟨some n841,1,1⟩ v33 λt852 v34=>And (S v34)<|App t89 1 8 184 [.pointer none] ⟨some n912,1,1⟩ v34 λt922 v35=>And (S v35) <|
  bU (some ⟨Y.p,0,none⟩) λa932=>dS (a932.add 5) (.slice t852.a t852.len t852.cap) v35 λv36=>bU (some ⟨Y.p,0,none⟩) λa952=>dS (a952.add 6) (.slice t922.a t922.len t922.cap) v36 λv37=>J4 v37):=by
 have H:∀k,dM (cK A Y k):=λk=>cK.loc k;have af:=fB.loc (c:=c) (ps:=ps) (ss:=ss) (p:=cp);have ab:=jo.loc (p:=tp) (batch:=c.batch) (room:=A.room) (t:=t);refine⟨λm=>bY m Y.p (kJ Y),(mu h).1,aG ⟨Y.dO,λm hm=>by rw[add_lit,hm.cell];rfl,aG ⟨Y.cN,λm hm=>by rw[add_lit,hm.cell];rfl,?_⟩⟩⟩;have D:∀(w:Hp) (F1:Rg) (b1 b2:Nat),bK U w->(∀b,F1 b->F b)->Sep (fY A Y (cK A Y) (kJ Y)) w F1->bY w b1 [.pointer (some ⟨cp,0,none⟩)]->bY w b2 [.pointer (some ⟨tp,0,none⟩)]->U.size<=b1->U.size<=b2 →
  App Y.dO 1 8 182 [.pointer none] ⟨some ⟨b1,0,none⟩,1,1⟩ w λt85 v28=>And (bY v28 Y.p (kJ Y))<|App Y.cN 1 8 184 [.pointer none] ⟨some ⟨b2,0,none⟩,1,1⟩ v28 λt92 v29=>And (bY v29 Y.p (kJ Y)) <|
   bU (some ⟨Y.p,0,none⟩) λa93=>dS (a93.add 5) (.slice t85.a t85.len t85.cap) v29 λv30=>bU (some ⟨Y.p,0,none⟩) λa95=>dS (a95.add 6) (.slice t92.a t92.len t92.cap) v30 λv31=>J4 v31:=by
  intro w F1 b1 b2 ew hF1 hw hb1 hb2 hz1 hz2;have B:∀b,F1 b->z<=b/\b<U.size:=λb d=>hF b (hF1 b d);have hsw:=ew.1;refine Db H hw O O hb1 (λg=>by have:=B _ g;omega) λs1 v28 E V=>?_;have Z:=(mu V).1;have L:Sep (fY A {Y with dO:=s1,fG:=Y.fG++[cp]} (cK A {Y with dO:=s1,fG:=Y.fG++[cp]}) (kJ Y)) v28 (Grow F1 w):=V;refine⟨Z,?_⟩;have c28:Sep (fY A {Y with dO:=s1,fG:=Y.fG++[cp]} (cK A {Y with dO:=s1,fG:=Y.fG++[cp]}) (kJ Y)) v28 (λb=>F1 b\/w.size<=b):=L;have M:=E.bT hb2 λg=>by have:=B _ g;omega
  have hb2lt:=hb2.lt;refine Fs c28 aC aC M (λg=>by
   rcases g with g|g
   ·have:=B _ g;omega
   ·omega) λs2 v29 ai ac=>?_
  refine⟨(mu ac).1,?_⟩;have G:∀b,(F1 b\/w.size<=b)->F b\/U.size<=b:=λb d=>by
   rcases d with d|d
   ·exact .inl (hF1 b d)
   ·exact .inr O
  have j:Ext F U v29:=((bK.to ew).trans (E.sub hF1)).dT ai G;have ad:=af.bS hC j λb _ d g=>(d1 b d).1 g;have Q:=ab.bS hTf j λb _ d g=>(d2 b d).1 g;have hs28:=E.1;refine Eg (F:=Grow (λb=>F1 b\/w.size<=b) v28) hpos ac hlc hlt hc ad Q (λb d g=>?_) (λb d g=>?_) d3 λw2 Y' e2 p1 p2 p3 p4 h2=>?_
  ·have:=d1 b d;rcases g with(g|g)|g
   ·exact this.1 (hF1 b g)
   ·omega
   ·omega
  ·have:=d2 b d;rcases g with(g|g)|g
   ·exact this.1 (hF1 b g)
   ·omega
   ·omega
  ·refine hK w2 Y' (j.dT e2 λb d=>?_) p1 p2 p3 p4 ((Sep.loc (fY.loc (λk=>cK.loc k))).mono h2 λb _ d=>?_)
   ·rcases d with(d|d)|d
    ·exact .inl (hF1 b d)
    ·exact .inr O
    ·exact .inr O
   ·have hz0:z<=U.size:=by have:=(d1 _ hC.fp);omega
    rcases d with(((d|d)|d)|d)|d
    ·exact(B b d).1
    ·omega
    ·omega
    ·exact(d1 b d).2.1
    ·exact(d2 b d).2.1
 have S0:∀{w:Hp},bK U w->bY w Y.p (kJ Y):=λe=>e.bT (mu h).1 id;refine⟨nw (cs:=[.pointer (some ⟨cp,0,none⟩)]) λv21 z21 u X=>⟨S0 u,?_,?_⟩,nw (cs:=[.pointer (some ⟨tp,0,none⟩)]) λv32 z32 y ah=>⟨S0 y,nw (cs:=[.pointer (some ⟨cp,0,none⟩)]) λv33 z33 x b33=>⟨S0 (Ext.trans y x),?_⟩⟩⟩
 ·-- row,box,row
  have h21:=pX H h u;refine Db H h21 O O X (λg=>by have:=hF _ g;omega) λs1 v22 W P=>⟨(mu P).1,?_⟩;have R:Sep (fY A {Y with dO:=s1,fG:=Y.fG++[cp]} (cK A {Y with dO:=s1,fG:=Y.fG++[cp]}) (kJ Y)) v22 (Grow F v21):=P;have c22:=Dz (λk=>cK.loc k) R;refine nw (cs:=[.pointer (some ⟨tp,0,none⟩)]) λv23 z23 J b23=>?_;have K:=pX (λk=>cK.loc k) c22 J;refine⟨(mu K).1,Fs K aC aC b23 (λg=>by have:=g.2;omega) λs2 v24 e24 ae=>⟨(mu ae).1,?_⟩⟩;have hs22:=W.1;have hs23:=J.1;have r:∀b,Cut (Grow F v21) v22 b->F b\/U.size<=b:=λb d=>by
   rcases d.1 with h|h
   ·exact .inl h
   ·exact .inr O
  have j:Ext F U v24:=((((bK.to u).trans W).jU J)).dT e24 r;have aa:=af.bS hC j λb _ d g=>(d1 b d).1 g;have N:=ab.bS hTf j λb _ d g=>(d2 b d).1 g;refine Eg (F:=Grow (Cut (Grow F v21) v22) v23) hpos ae hlc hlt hc aa N (λb d g=>?_) (λb d g=>?_) d3 λw2 Y' e2 p1 p2 p3 p4 h2=>?_
  ·have:=d1 b d;rcases g with g|g
   ·rcases g.1 with g|g
    ·exact this.1 g
    ·omega
   ·omega
  ·have:=d2 b d;rcases g with g|g
   ·rcases g.1 with g|g
    ·exact this.1 g
    ·omega
   ·omega
  ·refine hK w2 Y' (j.dT e2 λb d=>?_) p1 p2 p3 p4 ((Sep.loc (fY.loc (λk=>cK.loc k))).mono h2 λb _ d=>?_)
   ·rcases d with d|d
    ·exact r b d
    ·exact .inr O
   ·have hz0:z<=U.size:=by have:=(d1 _ hC.fp);omega
    rcases d with((d|d)|d)|d
    ·rcases r b d with h|h
     ·exact(hF b h).1
     ·omega
    ·omega
    ·exact(d1 b d).2.1
    ·exact(d2 b d).2.1
 ·-- box,row,row
  refine nw (cs:=[.pointer (some ⟨tp,0,none⟩)]) λv27 z27 C ag=>⟨S0 (Ext.trans u C),?_⟩;exact D v27 F U.size v21.size (Ext.trans u C) (λb d=>d) (pX H (pX H h u) C) (C.bT X id) ag (zD _) O
 ·exact D v33 F v32.size U.size (Ext.trans y x) (λb d=>d) (pX H (pX H h y) x) b33 (x.bT ah id) O (zD _)
theorem xY {P:Hp->Rg->Prop}(hl:dM P){a:Nat}(h:P U λb=>a<=b):P U λb=>a<=b/\b<U.size:=hl.mono h λb e d=>⟨d,e⟩
theorem MR {n room:Nat}{tb:List bZ}(h1:32<=n)(h2:n<=1024)(h3:n%16=0)(h4:room<=8)(h5:1<=tb.length)(h6:tb.length<=40)(h7:∀c∈tb,c.ok)(hc:Y.fG.length=tb.length)(ht:Y.fV.length=tb.length):eV (fo n room tb) Y:=
 ⟨hc,ht,by simp[fo],by simp[fo],h5,h6,h1,h2,h3,by simp[fo],h4,h7⟩
theorem Ng {s:Sl}{xs:List (Int×Int×Int)}(ha:ie U s xs)(hS:dL U H hs sp)(room:Int){R:Option Addr->Int->Hp->Prop}
 (h0:kS xs sp.st.length room≠0->∀σ',bK U σ'->R none (kS xs sp.st.length room) σ')
 (h1:kS xs sp.st.length room=0->∀σ' Y,bK U σ'->Y.hs=hs->dG σ' (λb=>U.size<=b) Y (fo sp.st.length room.toNat (xs.map Z1)) (cK (fo sp.st.length room.toNat (xs.map Z1)) Y)->R (some ⟨Y.p,0,none⟩) 0 σ') :
 QO.c s (some ⟨hs,0,none⟩) room U R:=by
 refine QO.o ?_;unfold QO.v;have hn2:sp.st.length<=1024:=by obtain⟨q,r,l,B,h⟩:=hS;exact h.n2
 refine Gk ha λv e=>?_;cases hv:Qf xs
 ·have e1:kS xs sp.st.length room=2:=by unfold kS;rw[hv];rfl
  have:=h0 (by rw[e1];decide) v e;rw[e1]at this;exact cE rfl this
 have eE:kS xs sp.st.length room=if 32<=sp.st.length/\sp.st.length%16=0/\0<=room/\room<=8 then 0 else 1:=by unfold kS;rw[hv,zC rfl]
 refine cB rfl (FA (hS.bO e) ?_);have D:¬(32<=sp.st.length/\sp.st.length%16=0/\0<=room/\room<=8)->R none 1 v:=λhn=>by
  rw[zB hn]at eE;have:=h0 (by rw[eE];decide) v e;rw[eE]at this;exact this
 have tm:(((sp.st.length:Nat):Int).tmod 16)=((sp.st.length%16:Nat):Int):=by rw[Qp O];simp
 refine bV.intro (cQ (λc1=>bV.intro (cE rfl (bV.intro (cE rfl (cE rfl (D O)))))) λc1=>nz aB ?_);rw[tm,JU];refine bV.intro (cO (λc2=>bV.intro (cE rfl (cE rfl (D (λh=>by have:=h.2.1;simp[this]at c2))))) λc2=>?_);have aa:sp.st.length%16=0:=by simpa using c2
 refine bV.intro (cQ (λc3=>cE rfl (D O)) λc3=>cQ (λc4=>D O) λc4=>?_);obtain⟨X,rfl⟩:=zc (show 0<=room by omega);rw[zC O]at eE;have h1:=h1 eE;simp only[dE]at h1;have hva:=(Qc xs).1 hv;have K:=ZQ ha e;have hn1:32<=sp.st.length:=by omega
 generalize sp.st.length=n at *;have hlen:s.len=(xs.map Z1).length:=by rw[zl];exact ha.1
 have Z:∀{σ':Hp} {i:Nat} {c:bZ},ie σ' s xs->(xs.map Z1)[i]?=some c->xs[i]?=some ((c.size:Int),(c.aF:Int),(c.batch:Int))/\c.ok:=λh S=>UQ h hv S;have J:1<=(xs.map Z1).length/\(xs.map Z1).length<=40:=by rw[zl];omega
 refine VR K hv λdD v5 e5 htab=>Jf λW op e6 hop hP=>tE λA z7 e7 hm=>?_;generalize htbd:xs.map Z1=tb at *;refine nw (cs:=[.slice dD.a dD.len dD.cap,.pointer (some ⟨hs,0,none⟩),.pointer none,.pointer none,.pointer (some ⟨op,0,none⟩),.slice none 0 0,.slice none 0 0,.map (some W.size)]) λv8 z8 e8 b8=>?_;refine Go.Bu.r8 _ (λg=>absurd ⟨O,O⟩ g) λn' hn' _ _ v9 sb ms e9 hB hfp=>?_;have hnn:n=n':=by omega
 subst hnn;have b9:=e9.bT b8 id;refine aG (b9.s1 aA λv10 gT b10=>Ju O O aa λN tp tq Q htp htq hTk=>aG ((Q.bT b10 id).s1 aA λv12 L b12=>?_));have s5:=e5.1;have s6:=e6.1;have s9:=e9.1;have s10:=gT.1;have s11:=Q.1;have s12:=L.1;have hb8:=b8.lt;have x9:Ext (· = A.size) v9 v12:=(gT.ext.trans (bK.to Q)).trans L.ext;have x5:Ext (· = A.size) v5 v12:=(bK.to (Ext.trans (Ext.trans (Ext.trans e6 e7) e8) e9)).trans x9;have x6:Ext (· = A.size) W v12:=(bK.to (Ext.trans (Ext.trans e7 e8) e9)).trans x9;have x7:Ext (· = A.size) A v12:=(bK.to (Ext.trans e8 e9)).trans x9;have x11:Ext (· = A.size) N v12:=L.ext;have p1:=aH.bS (xY aH htab) x5 λb _ g d=>by omega
 have p2:=(ja.loc (p:=op) (ow:=λ_=>0)).bS (xY ja.loc hP) x6 λb _ g d=>by omega
 have p3:dH v12 W.size .i64 bN []:=x7.fQ (hm _ _) O;have p5:sE v8.size n Go.Bu.iv v12 (λb=>v8.size<=b/\b<v9.size):=(sE.loc _ _ _).bS (xY (sE.loc _ _ _) ⟨sb,ms,hB,hfp⟩) x9 λb _ g d=>by omega
 have p6:mA tp (List.replicate n 0) v12 (λb=>v10.size<=b/\b<N.size):=(mA.loc _ _).bS (xY (mA.loc _ _) ⟨tq,hTk,htp,htq⟩) x11 λb _ g d=>by omega
 let Y0:Lay:={p:=A.size,hs:=hs,fr:=v8.size,tr:=tp,op:=op,rn:=W.size,dD:=dD,dO:=⟨none,0,0⟩,cN:=⟨none,0,0⟩,fG:=[],fV:=[]}
 have ac:bY v12 A.size (kJ Y0):=b12
 let Cf:=fY (jg n X tb 0) Y0 (cK (jg n X tb 0) Y0) (kJ Y0)
 have u:∀i,dM (Cf i):=fY.loc λk=>cK.loc k;have q0:Sep (jk Cf S0) v12 λ_=>False:=jk.one S0 .hd λi V=>by
  cases i<;>first|exact V.elim|exact bR.nil _ _ _ _|exact trivial
 have q1:=jk.put u q0 .dD (G:=λb=>v.size<=b/\b<v5.size) (λb g d=>d) p1;have q2:=jk.put u q1 .own (G:=λb=>v5.size<=b/\b<W.size) (λb g d=>by
  rcases d with d|d
  ·exact d
  ·omega) p2
 have q3:=jk.put u q2 .runs (G:=λb=>b=W.size) (λb g d=>by
  rcases d with(d|d)|d
  ·exact d
  ·omega
  ·omega) ⟨rfl,p3⟩
 have q4:=jk.put u q3 .hd (G:=λb=>b=A.size) (λb g d=>by
  rcases d with((d|d)|d)|d
  ·exact d
  ·omega
  ·omega
  ·omega) ⟨rfl,ac⟩
 have q5:=jk.put u q4 .free (G:=λb=>v8.size<=b/\b<v9.size) (λb g d=>by
  rcases d with(((d|d)|d)|d)|d
  ·exact d
  ·omega
  ·omega
  ·omega
  ·omega) p5
 have q6:=jk.put u q5 .nK (G:=λb=>v10.size<=b/\b<N.size) (λb g d=>by
  rcases d with((((d|d)|d)|d)|d)|d
  ·exact d
  ·omega
  ·omega
  ·omega
  ·omega
  ·omega) p6
 have q7:Sep Cf v12 λb=>v.size<=b:=by
  refine(Sep.loc u).mono (jk.all q6 λi=>?_) λb _ d=>?_
  ·cases i<;>simp[S0]
  ·rcases d with(((((d|d)|d)|d)|d)|d)|d
   ·exact d.elim
   ·omega
   ·omega
   ·omega
   ·omega
   ·omega
   ·omega
 have e12:bK v v12:=Ext.fresh e5 x5 λi V=>by omega
 have szv:=e.1;refine ZX (a:=bN) (λ(t:Int) w=>∃(i:Nat) (Y:Lay),t=(i:Int)/\i<=tb.length/\Y.p=A.size/\Y.hs=hs/\Y.fG.length=i/\Y.fV.length=i/\bK v w/\Sep (fY (jg n X tb i) Y (cK (jg n X tb i) Y) (kJ Y)) w (λb=>v.size<=b)) (λt _=>tb.length-t.toNat)
  ⟨0,Y0,rfl,O,rfl,rfl,rfl,rfl,e12,q7⟩ ?_
 rintro t w ⟨i,Y,rfl,V,ag,ab,ae,af,ew,y⟩;refine cQ (λhlt=>?_) λhge=>?_
 ·have hi':i<tb.length:=by omega
  have S:tb[i]?=some tb[i]:=cU hi';generalize tb[i]=c at S;have ai:=ZQ K ew;obtain⟨hxi,hok⟩:=Z ai S;refine xq ai hxi ?_;refine nw (cs:=[.int .i64 0,.int .i64 0,.int .i64 0]) λv14 hz14 e14 b14=>b14.s1 aA λv15 o15 b15=>b15.s1 aA λv16 o16 b16=>b16.s1 aA λv17 o17 b17=>?_;have M:bK w v17:=Ext.fresh (Ext.fresh (Ext.fresh e14 o15.ext λi V=>O) o16.ext λi V=>O) o17.ext λi V=>by omega
  have x:bY v17 w.size [.int .i64 (c.size:Int),.int .i64 (c.aF:Int),.int .i64 (c.batch:Int)]:=b17;refine x.rI rfl (x.rI rfl (x.rI rfl (Jg hok λv18 cp C hcp1 hcp2 hCe=>?_)));have b18:=C.bT x id;obtain⟨_,_,_,_,_,_,ad,ah⟩:=id hok;refine b18.rI rfl (MH ad ah O λv19 tp2 E htp1 htp2 hTf=>Jn.intro ?_);have s14:=M.1;have s18:=C.1;have s19:=E.1;have sw:=ew.1;have hT:∀k,dM (cK (jg n X tb i) Y k):=λk=>cK.loc k;have h19:=pX hT (pX hT (pX hT (Dz hT y) M) C) E;have P:=hCe.bO E;rw[←ag];refine OW (F:=Cut (λb=>v.size<=b) w) (z:=v.size) (ss:=[]) (t:=⟨0,[]⟩) (λb g=>⟨g.1,by have:=g.2;omega⟩) ⟨ae,af⟩ O h19 (by simp[jg]) (by simp[jg]) S P hTf (λb g=>?_) (λb g=>?_) (λb g hb2=>O) λw2 Y' e2 y1 y2 y3 y4 h2=>?_
  ·subst g;exact⟨λd=>by have:=d.2;omega,O,O⟩
  ·subst g;exact⟨λd=>by have:=d.2;omega,O,O⟩
  ·rw[JM]at h2;exact cP (m:=i+1) O O ⟨⟨i+1,Y',rfl,O,y1,y2.trans ab,y3,y4,Ext.fresh (Ext.trans (Ext.trans (Ext.trans ew M) C) E) e2 λb g=>g.1,h2⟩,O⟩
 ·have:i=tb.length:=by omega
  subst this;rw[Lj,Mv]at y;have hl:eV (fo n X tb) Y:=MR hn1 hn2 aa O J.1 J.2 (λc S=>by
   obtain⟨j,hj⟩:=zQ S;exact(Z K hj).2) ae af
  have:=h1 w Y (Ext.trans e ew) ab ⟨hl,λk=>cK.loc k,(Sep.loc (AC.loc λk=>cK.loc k)).mono y λb _ g=>zh szv g⟩;rw[ag]at this;exact this
end Go.Ar
namespace Go.Vc
open Go
variable {U:Hp}{F:Rg}{s:Sl}{sz:Nat}{xs:List Value}
def dI (s:Sl)(sz:Nat)(xs:List Value):Hp->Rg->Prop:=λh F=>xs.length=s.len*sz/\(s.len=0/\s.cap=0\/∃b o cs,F b/\s.a=some ⟨b,o,none⟩/\bY h b cs/\s.len<=s.cap/\cs.length=o+s.cap*sz/\(cs.drop o).take xs.length=xs)
theorem dI.loc (s:Sl)(sz:Nat)(xs:List Value):dM (dI s sz xs):=λU d F G h g a=>by
 refine⟨h.1,h.2.imp id ?_⟩;rintro⟨b,o,cs,hq,ha,⟨e,he⟩,r⟩;have:=a b (bY.lt ⟨e,he⟩) hq;exact⟨b,o,cs,this.1,ha,⟨e,this.2.trans he⟩,r⟩
theorem dI.nil (h:Hp)(F:Rg)(sz:Nat)(a:Option Addr):dI ⟨a,0,0⟩ sz [] h F:=⟨by simp,.inl ⟨rfl,rfl⟩⟩
theorem bR.o (h:bR s sz xs U F):dI s sz xs U F:=⟨h.1,h.2.imp id λ⟨b,e,i,m,j,a,g,d⟩=>⟨b,0,e,i,m,j,a,O,by simpa using d⟩⟩
theorem dI.gF (h:dI s sz xs U F):cW s sz xs U F:=by
 refine⟨h.1,?_⟩;rcases h.2 with⟨hl,_⟩|⟨b,o,cs,hq,ha,hb,_,_,ht⟩
 ·left;have:=h.1;rw[hl]at this;simpa using this
 ·refine .inr ⟨b,o,cs,hq,ha,hb.q,λj a=>?_⟩;rw[←ht,zj,kW,zC a]
theorem dI.cap (h:dI s sz xs U F):s.len<=s.cap:=by
 rcases h.2 with⟨q1,q2⟩|⟨_,_,_,_,_,_,q,_⟩
 ·omega
 ·exact q
theorem dI.app {x:Sl}{bytes e:Nat}{zs ys:List Value}{K:Sl->Hp->Prop}(ho:dI s sz xs U F)(hz:zs.length=sz)
 (hy:ys.length=x.len*sz) (hr:Rd U x.a ys) (h1:∀v∈ys,dP v=true) (hb:(s.len+x.len)*bytes<=2^46) (hc:s.len+x.len<=2^62)
 (hx:0<x.len) (hK:∀s' h',s'.len=s.len+x.len->Ext F U h'->dI s' sz (xs++ys) h' (Grow F U)->K s' h'):App s sz bytes e zs x U K:=by
 refine⟨xs,ys,ho.1,hy,ho.gF.rd,hr,h1,hb,hc,λg=>?_,λr c j=>?_⟩
 ·rcases ho.2 with⟨hl,hcap⟩|⟨b,o,cs,hQ,ha,hk,hle,hcl,ht⟩
  ·omega
  ·rw[ha];simp only;rw[add_lit];have u:(s.len+x.len)*sz<=s.cap*sz:=lU _ g;rw[zm]at u;have d:=ho.1;refine VP hk O λh' m p=>hK _ h' rfl (Ext.eL m hQ) ⟨?_,.inr ⟨b,o,_,.inl hQ,rfl,p,g,?_,?_⟩⟩
   ·simp[d,hy,zm]
   ·simp;omega
   ·rw[zO,d,j7];have e1:(cs.take (o+s.len*sz)++ys++cs.drop (o+s.len*sz+ys.length)).drop o=(cs.drop o).take (s.len*sz)++(ys++cs.drop (o+s.len*sz+ys.length)):=by
     rw[ka,List.drop_append_of_le_length (by rw[zZ];omega),List.drop_take]
     congr 2;omega
    have i:(cs.drop o).take (s.len*sz)=xs:=by rw[←d];exact ht
    rw[e1,i,←ka,oT aE,mQ aE]
 ·refine hK _ _ rfl (Ext.push _ _ _) ⟨by simp[ho.1,hy,zm],.inr ⟨U.size,0,xs++ys++(List.replicate (c-(s.len+x.len)) zs).flatten,.inr (zD _),rfl,⟨e,by simp⟩,j,?_,?_⟩⟩
  ·simp only[zO,wo,tP,vA,ho.1,hy,hz,←zm];rw[zH];congr 1;omega
  ·rw[List.drop_zero,oT aA,mQ aA]
theorem dI.sK {x:Sl}{bytes e:Nat}{zs:List Value}{K:Sl->Hp->Prop}(ho:dI s sz xs U F)(hx:x.len=0)(hb:s.len*bytes<=2^46)(hc:s.len<=2^62)(hK:dI ⟨s.a,s.len,s.cap⟩ sz xs U F->K ⟨s.a,s.len,s.cap⟩ U):App s sz bytes e zs x U K:=by
 have d:=ho.cap;refine⟨xs,[],ho.1,by simp[hx],ho.gF.rd,by cases x.a<;>simp[Rd],by simp,by rw[hx];exact hb,O,λg=>?_,λb=>absurd O b⟩
 rw[hx];have:=hK ho;cases ha:s.a<;>(rw[ha]at this;exact this)
theorem dI.from (h:dI s sz xs U F){lo:Nat}(h1:lo<=s.len):dI ⟨if s.cap=lo then s.a else s.a.map (·.add (lo*sz)),s.len-lo,s.cap-lo⟩ sz (xs.drop (lo*sz)) U F:=by
 have d:=h.1;refine⟨by rw[jZ,d,Nat.sub_mul],?_⟩;rcases h.2 with⟨q1,q2⟩|⟨b,o,cs,hq,ha,hb,hle,hcl,ht⟩
 ·left;simp only;omega
 ·by_cases hm:s.cap=lo
  ·left;simp only;omega
  ·refine .inr ⟨b,o+lo*sz,cs,hq,by simp only[zB hm,ha,zX,add_lit],hb,by simp only;omega,?_,?_⟩
   ·have:lo*sz<=s.cap*sz:=lU _ O;rw[hcl,Nat.sub_mul];omega
   ·rw[jZ]
    conv=>rhs;rw[←ht]
    rw[List.drop_take,List.drop_drop]
end Go.Vc
namespace Go.Ar
open Go Go.Vc Go.Proofs
variable {U:Hp}{F G:Rg}{Y:gS}{tb:List bZ}{bud:Nat}{ls:List Li}{b k:Nat}{l:Li}{c:bZ}
theorem OE {s:Sl}{xs:List (Int×Int×Int)}(ha:ie U s xs)(dA:Int){R:Option Addr->Int->Hp->Prop}(h0:Qf xs=false->∀σ',bK U σ'->R none 2 σ')
 (h1:Qf xs=true->¬(0<=dA/\dA<=65536)->∀σ',bK U σ'->R none 1 σ')
 (h2:Qf xs=true->0<=dA->dA<=65536->∀σ' Y,bK U σ'->eC σ' (λq=>U.size<=q) Y (xs.map Z1) dA.toNat (List.replicate (xs.map Z1).length ij)->R (some ⟨Y.p,0,none⟩) 0 σ') :
 QN.c s dA U R:=by
 refine QN.o ?_;unfold QN.v;refine Gk ha λv e=>?_;cases hv:Qf xs
 ·exact cE rfl (h0 hv v e)
 refine cB rfl (bV.intro (cQ (λA=>cE rfl (h1 hv O v e)) λA=>cQ (λy=>h1 hv O v e) λy=>?_));have g:=ZQ ha e;have C:=(Qc xs).1 hv;refine VR g hv λdD b e1 d=>tE λj F e2 z=>nw (cs:=[.slice dD.a dD.len dD.cap,.int .i64 dA,.map (some b.size)]) λv3 E m x=>?_;have s1:=e1.1;have s0:=e.1;refine h2 hv O O v3 ⟨j.size,b.size,dD,[]⟩ (((e.trans e1).trans e2).trans m) ⟨by rw[zl];omega,λc u=>?_,by simp,by simp,?_⟩
 ·obtain⟨i,w⟩:=zQ u;exact(UQ g hv w).2
 ·refine⟨λq=>if q=j.size then .hd else if q=b.size then .mp else .dD,λi=>?_⟩
  cases i with
  | hd=>
   refine⟨⟨by show U.size<=j.size;omega,by simp⟩,?_⟩;have:((dA.toNat:Nat):Int)=dA:=by omega
   simp only[Cd,this];exact x
  | mp=>
   refine⟨⟨by show U.size<=b.size;omega,?_⟩,m.fQ (z .i64 .p) id⟩;show(if b.size=j.size then tK.hd else if b.size=b.size then tK.mp else tK.dD)=.mp
   rw[zB O,zC rfl]
  | dD=>
   have D:=aH.bO (aH.bO (aH.mono d (G:=λq=>v.size<=q/\q<b.size) λq r B=>⟨B,r⟩) e2) m;refine aH.mono D λq _ r=>⟨O,?_⟩;show(if q=j.size then tK.hd else if q=b.size then tK.mp else tK.dD)=.dD
   rw[zB O,zB O]
  | li k=>
   simp only[CC,nW,iU,List.find?_nil,Option.map_none];cases hk:(List.replicate (xs.map Z1).length ij)[k]? with
   | none=>trivial
   | some l=>simp only[l7]at hk;split at hk<;>simp_all
def ko (f:Nat->Nat)(l:List (Int×Option Addr)):Nat:=(l.map λx=>f x.1.toNat).sum
theorem DZ (f:Nat->Nat):∀{l:List (Int×Option Addr)} {n:Int} {x:Option Addr},(l.map (·.1)).Nodup->(n,x)∈l->ko f l=f n.toNat+ko f (l.filter λy=>!(y.1==n))
 | [],_,_,_,h=>by simp at h
 | y::l,n,x,hn,h=>by
  simp only[zS,zr]at hn;rcases zW.1 h with h1|h1
  ·subst h1;have:l.filter (λy=>!(y.1==n))=l:=by
    rw[pB];intro z hz;have:z.1≠n:=λe=>hn.1 (zE.2 ⟨z,hz,e⟩);simpa using this
   rw[uj aA,this];simp[ko]
  ·have a:y.1≠n:=λe=>hn.1 (zE.2 ⟨_,h1,e.symm⟩);rw[uc (by simpa using a)];have:=DZ f hn.2 h1;simp only[ko,zS,nO]at *;omega
theorem R5 (n a v:Nat):((List.range n).map λj=>if j=a then v else 0).sum=if a<n then v else 0:=by
 induction n with
 | zero=>simp
 | succ n ih=>
  rw[pR,j9,List.sum_append,ih];by_cases h:a=n
  ·subst h;simp
  ·by_cases h2:a<n
   ·rw[zC h2,zC O];simp[Ne.symm h]
   ·rw[zB h2,zB O];simp[Ne.symm h]
theorem Ll (l:List Nat)(f g:Nat->Nat):(l.map λj=>f j+g j).sum=(l.map f).sum+(l.map g).sum:=by
 induction l with
 | nil=>rfl
 | cons x l ih=>simp only[zS,nO,ih];omega
theorem CN (f:Nat->Nat)(n:Nat):∀(ps:List (Nat×Nat)),(ps.map (·.1)).Nodup->(∀x∈ps,x.1<n)->(ps.map λx=>f x.1).sum=((List.range n).map λj=>if j∈ps.map (·.1)then f j else 0).sum
 | [],_,_=>by
  have:((List.range n).map λj=>if j∈([]:List (Nat×Nat)).map (·.1)then f j else 0)=(List.range n).map λ_=>0:=by simp
  rw[this]
  induction n with
  | zero=>rfl
  | succ n a=>rw[pR,j9,List.sum_append];simp at *;exact a
 | x::ps,hn,hl=>by
  simp only[zS,zr]at hn;have a:=CN f n ps hn.2 λy b=>hl y (by simp[b]);rw[zS,nO,a];have e:((List.range n).map λj=>if j∈(x::ps).map (·.1)then f j else 0)=(List.range n).map λj=>(if j=x.1 then f x.1 else 0)+(if j∈ps.map (·.1)then f j else 0):=by
   apply j2;intro j _;by_cases hj:j=x.1
   ·subst hj;rw[zC aA,zC rfl,zB hn.1];rfl
   ·rw[zB hj,zH];by_cases hm:j∈ps.map (·.1)
    ·rw[zC hm,zC (by simp only[zS,zW];exact .inr hm)]
    ·rw[zB hm,zB (by simp only[zS,zW,not_or];exact⟨hj,hm⟩)]
  rw[e,Ll,R5,zC (hl x aA)]
def pO (tb:List bZ)(ls:List Li)(k:Nat):Nat:=match tb[k]?,ls[k]? with
 | some c,some l=>c.size*l.os.length
 | _,_=>0
theorem F7:∀(tb:List bZ) (ls:List Li),ls.length=tb.length->QQ tb ls=((List.range tb.length).map (pO tb ls)).sum
 | [],[],_=>rfl
 | c::tb,l::ls,h=>by
  have ih:=F7 tb ls (by simpa using h);simp only[QQ]at ih;simp only[QQ,List.zip_cons_cons,zS,nO,zY,ih,List.range_succ_eq_map,lb];rfl
 | [],_::_,h=>by simp at h
 | _::_,[],h=>by simp at h
theorem eC.nil (h:eC U F Y tb bud ls)(hf:iU Y.ps k=none)(hl:ls[k]?=some l):l=ij:=by
 obtain⟨G,_,a⟩:=h.sep.get (.li k);simp only[CC,nW,hf,hl]at a;exact a
theorem eC.vI (h:eC U F Y tb bud ls):(Y.ps.map (·.1)).Nodup:=by
 have:=h.map.nodup;have e:(jV Y.ps).map (·.1)=(Y.ps.map (·.1)).map λ(n:Nat)=>(n:Int):=by simp[jV]
 rw[e]at this;exact List.Pairwise.of_map (λ(n:Nat)=>(n:Int)) (λa b d e=>d (by rw[e])) this
theorem eC.bytes (h:eC U F Y tb bud ls):ko (pO tb ls) (jV Y.ps)=QQ tb ls:=by
 have e1:ko (pO tb ls) (jV Y.ps)=(Y.ps.map λx=>pO tb ls x.1).sum:=by simp[ko,jV,Function.comp_def]
 rw[e1,CN _ tb.length _ h.vI h.keys,F7 _ _ h.len]
 congr 1
 apply j2;intro j hj;have a:=zg.1 hj;by_cases hm:j∈Y.ps.map (·.1)
 ·rw[zC hm]
 ·rw[zB hm];have d:iU Y.ps j=none:=by
   unfold iU;simp only[qZ,nH,zT];exact λx g e=>hm (zE.2 ⟨x,g,e⟩)
  have b:ls[j]?=some (ls[j]'(by rw[h.len];exact a)):=cU _;have:=h.nil d b;unfold pO;rw[cU a,b,this];rfl
theorem Ep:∀(tb:List bZ) (ls:List Li),(∀c∈tb,c.ok)->(∀l∈ls,fL l)->QQ tb ls<=tb.length*131072
 | [],_,_,_=>by simp[QQ]
 | _::_,[],_,_=>by simp[QQ]
 | c::tb,l::ls,h1,h2=>by
  have ih:=Ep tb ls (λc a=>h1 c (by simp[a])) (λl d=>h2 l (by simp[d]));simp only[QQ]at ih;simp only[QQ,List.zip_cons_cons,zS,nO,zY];have a:=h1 c aA;unfold bZ.ok at a;have b:=(h2 l aA).many;have e:c.size*l.os.length<=512*256:=lW O b;omega
theorem LS (h:eC U F Y tb bud ls)(hok:∀l∈ls,fL l):QQ tb ls<=5242880:=by
 have b:=Ep tb ls h.ok hok;have a:=h.nv;omega
theorem eC.PU (h:eC U F Y tb bud ls):∀l∈ls,fL l:=by
 intro l hl;obtain⟨k,a⟩:=zQ hl;cases hf:iU Y.ps k with
 | none=>rw[h.nil hf a];exact fL.nil
 | some b=>
  obtain⟨G,_,d,_⟩:=h.vL hf a;exact d.2.1
theorem EX (h:eC U F Y tb bud ls){R:aN}(hR:∀σ',bK U σ'->R ((QQ tb ls:Nat):Int) σ'):XC.c (aW Y.p) U R:=by
 refine XC.o ?_;unfold XC.v;have hle:=LS h h.PU;have hT:=h.bytes;refine UP h (cB rfl (aG (h.hd.rM rfl ?_)));refine sU (a:=bN) h.map (λg (z:Int) v=>∃n:Nat,z=(n:Int)/\n+ko (pO tb ls) g=QQ tb ls/\(∀e∈g,e∈jV Y.ps)/\(g.map (·.1)).Nodup/\bK U v) ?_ ?_ ?_
 ·intro v hz e;exact⟨0,rfl,by rw[hT];omega,λe he=>he,h.map.nodup,e⟩
 ·rintro z v ⟨n,rfl,E,_,_,e⟩;simp only[ko,qh,List.sum_nil,j7]at E;rw[E];exact hR v e
 ·rintro g n x z v v' J ⟨m,rfl,E,r,D,e⟩ X ho hlt hJ;have Z:bK U v':=e.only ho (.inr (zD _));have M:=h.bO Z;have j:=r _ X;simp only[jV,zE,Prod.mk.injEq]at j;obtain⟨⟨k,b⟩,A,w,C⟩:=j;simp only at w C;subst w;subst C;have H:=h.keys _ A;simp only at H;have K:tb[k]?=some tb[k]:=cU H;have P:ls[k]?=some (ls[k]'(by rw[h.len];exact H)):=cU _;generalize tb[k]=c at K;generalize (ls[k]'(by rw[h.len];exact H))=l at P;have S:iU Y.ps k=some b:=EE h.map.nodup A;obtain⟨G,hG,hL,_⟩:=M.vL S P;obtain⟨_,hok,s,Q,N,W⟩:=hL;have L:s.len=l.os.length:=by have:=N.1;simp[Wo]at this;omega
  have hb:pO tb ls k=c.size*l.os.length:=by unfold pO;rw[K,P]
  have u:=DZ (pO tb ls) D X;simp only[dE]at u;refine aG (M.hd.rS rfl (sQ M.jy K (d:=0) O ?_));simp only[zR];refine aG (Q.rS rfl ?_);have B:m+c.size*l.os.length+ko (pO tb ls) (List.filter (λy=>!(y.1==(k:Int))) g)=QQ tb ls:=by
   have V:=u;rw[hb]at V;rw[←E,V,vR]
  refine cP (m:=c.size*l.os.length) (by simp only[L];simp) O (cP (m:=m+c.size*l.os.length) O O (hJ _ v' rfl rfl ⟨_,rfl,B,λy hy=>r y (zI.1 hy).1,D.sublist (List.filter_sublist.map _),Z⟩))
theorem Sq (h:eC U F Y tb bud ls){R:aO}(hR:∀σ',bK U σ'->R (decide (bud<QQ tb ls)) σ'):X8.c (aW Y.p) U R:=by
 refine X8.o ?_;unfold X8.v;have e:decide (((QQ tb ls:Nat):Int)>(bud:Int))=decide (bud<QQ tb ls):=by rw[decide_eq_decide];omega
 refine Jn.intro (UP h (cE rfl (aG ⟨EX h λσ' a=>(a.bT h.hd id).rI rfl ?_,h.hd.rI rfl (EX h λσ' a=>?_)⟩)))
 ·rw[e];exact hR σ' a
 ·rw[e];exact hR σ' a
def BJ (f:bZ->Li->List Int×Li)(fn:Nat):Prop:=∀{U:Hp} {G:Rg} {b:Nat} {l:Li} {c:bZ},iO b l U G->c.ok->∀{R:Sl->Hp->Prop},
 (∀s z σ',Ext (· = b) U σ'->U.size<=z->bR s 1 (Wo (f c l).1) σ' (λq=>U.size<=q/\q<z)->iO b (f c l).2 σ' (λq=>q=b\/z<=q)->R s σ') →
 VM Tryz.prog ⟨fn,#[],#[]⟩ [.pointer (some ⟨b,0,none⟩),.int .i64 (c.batch:Int)] [.one .s] U R
theorem MB:BJ ZG 218:=by
 intro U G b l c h hc R hR;refine py (all := #[.pointer (some ⟨b,0,none⟩),.int .i64 (c.batch:Int)]) (by kernel_rfl) aA ?_;refine Yn.o ?_;unfold Yn.v;have i:=h;obtain⟨_,j,s,a,e,g⟩:=h;have d:s.len=l.os.length:=by have:=e.1;simp[Wo]at this;omega
 refine aG (a.rS rfl ?_);simp only[d];exact Hl i (zD _) hR
theorem Pg:BJ KE 216:=by
 intro U G b l c h hc R hR;refine py (all := #[.pointer (some ⟨b,0,none⟩),.int .i64 (c.batch:Int)]) (by kernel_rfl) aA ?_;refine Xn.o ?_;unfold Xn.v;have V:=h;obtain⟨_,g,s,A,P,K⟩:=h;have o1:=g.low;have o2:=g.many;have o3:=g.lim;have r:=CJ hc g;unfold bZ.ok at hc;refine aG (A.rI rfl (cP (m:=l.low+1) O O (nz aB (cP (m:=(l.low+1)/2) (by rw[XO O];omega) O ?_))));refine Hl V O λout z v e N M y=>?_;have J:=y;obtain⟨_,S,s1,d,x,C⟩:=y;have w:s1.len=(gp ((l.low+1)/2) l).2.os.length:=by have:=x.1;simp[Wo]at this;omega
 refine Jn.intro ?_;have i:∀(j:Hp) (lim:Nat),Ext (· = b) v j->lim=(if l.lim>c.batch then max (l.lim-c.batch) c.batch else l.lim)->bY j b (mJ s1 {(gp ((l.low+1)/2) l).2 with lim:=lim}) →
  bU (some ⟨b,0,none⟩) λB=>jj (B.add 0) j λD=>bU (some ⟨b,0,none⟩) λE=>dS (E.add 2) (.int .i64 ((D.len:Nat):Int)) j λv2=>R out v2:=by
  intro j lim e1 hlim a;refine aG (a.rS rfl (aG (a.s1 (by simp[mJ]) λv2 o2 u=>?_)));have e2:=e1.trans o2.ext;have Q:=d.lt;refine hR out z v2 (e.trans e2) N (aI.bS M e2 λq _ L H=>?_) ?_
  ·have:=A.lt;omega
  ·refine⟨.inl rfl,r,s1,?_,aH.bS x e2 λq _ L H=>L.2 H,C⟩;simp only[w]at u;subst hlim;exact u
 refine aG (d.rI rfl ?_);refine cQ (λF=>?_) λF=>?_
 ·have p:l.lim>c.batch:=by simp only[gp]at F;omega
  refine aG (d.rI rfl (cP (m:=l.lim-c.batch) (by simp only[gp];omega) O (aG (d.s1 (by simp[mJ]) λj o1 a=>i j (max (l.lim-c.batch) c.batch) o1.ext (by rw[zC p]) ?_))));have:(if(c.batch:Int)>((l.lim-c.batch:Nat):Int)then(c.batch:Int)else((l.lim-c.batch:Nat):Int))=((max (l.lim-c.batch) c.batch:Nat):Int):=by split<;>omega
  rw[this]at a;exact a
 ·have p:¬l.lim>c.batch:=by simp only[gp]at F;omega
  exact i v l.lim (Ext.refl _ _) (by rw[zB p]) d
def nS (x:Nat×Sl):List Value:=[.int .i64 (x.1:Int),.slice x.2.a x.2.len x.2.cap]
def fD (l:List (Nat×Sl)):List Value:=l.flatMap nS
theorem Kx (l:List (Nat×Sl)):(fD l).length=l.length*2:=by
 induction l with
 | nil=>rfl
 | cons x l ih=>
  have e:fD (x::l)=nS x++fD l:=rfl;have e2:(nS x).length=2:=rfl;rw[e,zO,ih,e2,zY];omega
theorem UN (a b:List (Nat×Sl)):fD (a++b)=fD a++fD b:=by simp[fD]
theorem UU {l:List (Nat×Sl)}:∀v∈fD l,dP v=true:=by
 intro v hv;obtain⟨p,_,a⟩:=List.mem_flatMap.1 hv;simp only[nS,zW,List.not_mem_nil,or_false]at a;rcases a with rfl|rfl<;>rfl
theorem Il {l:List (Nat×Sl)}{i:Nat}{p:Nat×Sl}(h:l[i]?=some p){d:Nat}(hd:d<2):(fD l)[2*i+d]?=(nS p)[d]? := by
 induction l generalizing i with
 | nil=>simp at h
 | cons x l ih=>
  have e:fD (x::l)=nS x++fD l:=rfl;have e2:(nS x).length=2:=rfl;rw[e];cases i with
  | zero=>
   simp at h;subst h;rw[ze O];congr 1;omega
  | succ i=>
   rw[zp O,e2,show 2*(i+1)+d-2=2*i+d by omega];exact ih (by simpa using h)
def ku (ps:List (Nat×Sl))(bs:List Bt)(U:Hp)(D:Rg):Prop:=ps.length=bs.length/\∀(i:Nat) p x,ps[i]?=some p->bs[i]?=some x->p.1=x.1/\cW p.2 1 (Wo x.2) U D/\p.2.len<=p.2.cap
theorem ku.loc (ps:List (Nat×Sl))(bs:List Bt):dM (ku ps bs):=λU g F G h d e=>⟨h.1,λi p x a b=>⟨(h.2 i p x a b).1,cW.loc _ _ _ _ _ _ _ (h.2 i p x a b).2.1 d e,(h.2 i p x a b).2.2⟩⟩
def uN (ps:List (Nat×Sl)):Prop:=ps.Pairwise λp q=>∀a a',p.2.a=some a->q.2.a=some a'->a.block≠a'.block
theorem uN.snoc {ps:List (Nat×Sl)}{bs:List Bt}{U v:Hp}{D X:Rg}{s:Sl}{xs:List Int}(h:uN ps)(hB:ku ps bs U D)(hne:∀x∈bs,x.2≠[])(hs:cW s 1 (Wo xs) v X)(hx:xs≠[])(hd:∀b,b<U.size->D b->¬X b)(k:Nat):uN (ps++[(k,s)]):=by
 refine pK.2 ⟨h,List.pairwise_singleton _ _,λp w q u=>?_⟩;rw[zN]at u;subst u;intro a a' h1 h2 e;obtain⟨i,r⟩:=zQ w;have d:=(cV.1 r).1;have j:bs[i]?=some (bs[i]'(by rw[←hB.1];exact d)):=cU _;generalize (bs[i]'(by rw[←hB.1];exact d))=y at j;obtain⟨_,m,_⟩:=hB.2 i p y r j;have g:=m.bT (by simpa[Wo]using hne y (zG j)) ⟨a,h1,rfl⟩;have z:=hs.bT (by simpa[Wo]using hx) ⟨a',h2,rfl⟩;rw[e]at g;exact hd _ g.2 g.1 z.1
def iw (s:Sl)(bs:List Bt):Hp->Rg->Prop:=λU F=>∃(ps:List (Nat×Sl)) (D:Rg),dI s 2 (fD ps) U (λq=>F q/\¬D q)/\ku ps bs U D/\(∀q,D q->F q)/\uN ps/\∀x∈bs,x.2≠[]
theorem iw.loc (s:Sl)(bs:List Bt):dM (iw s bs):=λU r F G ⟨m,D,p,j,g,i⟩ e b=>
 ⟨m,λq=>D q/\q<U.size,dI.loc _ _ _ _ _ _ _ p e λq a d=>⟨⟨(b q a d.1).1,λhd=>d.2 hd.1⟩,(b q a d.1).2⟩,ku.loc _ _ _ _ _ _ j e λq a hd=>⟨⟨hd,a⟩,(b q a (g q hd)).2⟩,λq a=>(b q a.2 (g q a.1)).1,i⟩
theorem iw.nil (U:Hp)(F:Rg)(a:Option Addr):iw ⟨a,0,0⟩ [] U F:=⟨[],λ_=>False,dI.nil _ _ _ _,⟨rfl,λi p x h=>by simp at h⟩,λq h=>h.elim,List.Pairwise.nil,by simp⟩
theorem iw.len {s:Sl}{bs:List Bt}(h:iw s bs U F):s.len=bs.length:=by
 obtain⟨d,D,a,b,_⟩:=h;have:=a.1;rw[Kx]at this;have:=b.1;omega
theorem iw.cap {s:Sl}{bs:List Bt}(h:iw s bs U F):s.len<=s.cap:=by
 obtain⟨b,D,a,_⟩:=h;exact a.cap
def H8:Prop:=∀{U:Hp} {F:Rg} {s:Sl} {xs:List (Nat×Sl)},bR s 2 (fD xs) U F->(∀x∈xs,x.1<64)->xs.length<=1000->∀{R:aP},
 (∀xs' σ',xs'.Perm xs->xs'.Pairwise (λa b=>a.1<=b.1)->Ext F U σ'->bR s 2 (fD xs') σ' F->R σ')->ZR.c s ⟨264,#[],#[]⟩ U R
theorem Di:∀{a b:List Nat},a.Pairwise (· < ·)->b.Pairwise (· < ·)->(∀x,x∈a↔x∈b)->a=b
 | [],[],_,_,_=>rfl
 | [],y::b,_,_,h=>by have:=(h y).2 aA;simp at this
 | x::a,[],_,_,h=>by have:=(h x).1 aA;simp at this
 | x::a,y::b,ha,hb,h=>by
  rw[rH]at ha hb;have e:x=y:=by
   rcases zW.1 ((h x).1 aA)with h1|h1
   ·exact h1
   ·rcases zW.1 ((h y).2 aA)with h2|h2
    ·exact h2.symm
    ·have:=ha.1 y h2;have:=hb.1 x h1;omega
  subst e
  congr 1
  refine Di ha.2 hb.2 λz=>?_;have d:=h z;simp only[zW]at d;constructor
  ·intro hza;have:=ha.1 z hza;rcases d.1 (.inr hza)with h1|h1
   ·omega
   ·exact h1
  ·intro hzb;have:=hb.1 z hzb;rcases d.2 (.inr hzb)with h1|h1
   ·omega
   ·exact h1
theorem U9 {f:bZ->Li->List Int×Li}{x:Bt}:x∈Q0 f tb ls↔∃c l,tb[x.1]?=some c/\ls[x.1]?=some l/\x.2=(f c l).1/\x.2≠[]:=by
 unfold Q0;rw[wW];constructor
 ·rintro⟨k,hk,h⟩;split at h
  ·rename_i c l hc hl;split at h
   ·cases h
   ·rename_i hne;cases h;exact⟨c,l,hc,hl,rfl,hne⟩
  ·cases h
 ·rintro⟨c,l,hc,hl,e,hne⟩;refine⟨x.1,zg.2 (cV.1 hc).1,?_⟩;rw[hc,hl];simp only;rw[zB (by rw[←e];exact hne),←e]
theorem Ie {f:bZ->Li->List Int×Li}:((Q0 f tb ls).map (·.1)).Pairwise (· < ·):=by
 unfold Q0;have key:∀(n:Nat),(((List.range n).filterMap λk=>match tb[k]?,ls[k]? with
  | some c,some l=>if(f c l).1=[]then none else some ((k,(f c l).1):Bt)
  | _,_=>none).map (·.1)).Pairwise (· < ·)/\∀x∈((List.range n).filterMap λk=>match tb[k]?,ls[k]? with
  | some c,some l=>if(f c l).1=[]then none else some ((k,(f c l).1):Bt)
  | _,_=>none),x.1<n:=by
  intro n
  induction n with
  | zero=>simp
  | succ n ih=>
   rw[pR,wk,j9];refine⟨pK.2 ⟨ih.1,?_,?_⟩,?_⟩
   ·simp only[Ae,List.filterMap_nil];split<;>simp
   ·intro a ha b hb;obtain⟨x,g,rfl⟩:=zE.1 ha;obtain⟨y,e,rfl⟩:=zE.1 hb;have j:=ih.2 x g;obtain⟨m,i,d⟩:=wW.1 e;clear e hb ha;simp only[zN]at i;subst i;split at d
    ·split at d
     ·cases d
     ·cases d;exact j
    ·cases d
   ·intro x g;rcases zL.1 g with g|g
    ·have:=ih.2 x g;omega
    ·obtain⟨m,i,e⟩:=wW.1 g;simp only[zN]at i;subst i;split at e
     ·split at e
      ·cases e
      ·cases e;omega
     ·cases e
 exact(key tb.length).1
def mR (todo:List (Int×Option Addr))(k:Nat):Prop:=((k:Nat):Int)∈todo.map (·.1)
instance (todo:List (Int×Option Addr)) (k:Nat):Decidable (mR todo k):=by unfold mR;infer_instance
theorem Hy {todo:List (Int×Option Addr)}{m k:Nat}:mR (todo.filter λy=>!(y.1==(m:Int))) k↔mR todo k/\k≠m:=by
 unfold mR;simp only[zE,zI,mh,ma];constructor
 ·rintro⟨y,⟨h1,h2⟩,h3⟩;exact⟨⟨y,h1,h3⟩,λe=>h2 O⟩
 ·rintro⟨⟨y,h1,h3⟩,h2⟩;exact⟨y,⟨h1,λe=>h2 O⟩,h3⟩
structure yj (f:bZ->Li->List Int×Li) (tb:List bZ) (ls:List Li) (todo:List (Int×Option Addr)) (ls':List Li) (outs:List Bt):Prop where
 l:∀k c l,tb[k]?=some c->ls[k]?=some l->ls'[k]?=some (if mR todo k then l else(f c l).2)
 n:(outs.map (·.1)).Nodup
 o:∀x:Bt,x∈outs↔∃c l,tb[x.1]?=some c/\ls[x.1]?=some l/\¬mR todo x.1/\x.2=(f c l).1/\x.2≠[]
theorem yj.step {f:bZ->Li->List Int×Li}{todo:List (Int×Option Addr)}{ls':List Li}{outs:List Bt}(h:yj f tb ls todo ls' outs)(hc:tb[k]?=some c)(hl:ls[k]?=some l)(hk:mR todo k) :
 yj f tb ls (todo.filter λy=>!(y.1==(k:Int))) (ls'.set k (f c l).2) (if(f c l).1=[]then outs else outs++[(k,(f c l).1)]):=by
 have A:=h.l k c l hc hl;have z:=(cV.1 A).1;have s:∀x∈outs,x.1≠k:=λx g e=>by
  obtain⟨_,_,_,_,C,_⟩:=(h.o x).1 g;rw[e]at C;exact C hk
 refine⟨λj d m hd p=>?_,?_,λx=>?_⟩
 ·by_cases hj:j=k
  ·subst hj;rw[hc]at hd;cases hd;rw[hl]at p;cases p;rw[zM z,zB (by rw[Hy];exact λg=>g.2 rfl)]
  ·rw[zk (Ne.symm hj),h.l j d m hd p]
   congr 1
   by_cases r:mR todo j
   ·rw[zC r,zC (Hy.2 ⟨r,hj⟩)]
   ·rw[zB r,zB λg=>r (Hy.1 g).1]
 ·split
  ·exact h.n
  ·rw[j9,nE];refine⟨h.n,by simp,λa D b B e=>?_⟩;simp only[zS,qh,zN]at B;subst B;obtain⟨x,g,e2⟩:=zE.1 D;exact s x g (e2.trans e)
 ·have u:(∃d m,tb[x.1]?=some d/\ls[x.1]?=some m/\¬mR (todo.filter λy=>!(y.1==(k:Int))) x.1/\x.2=(f d m).1/\x.2≠[])↔x∈outs\/(x=(k,(f c l).1)/\(f c l).1≠[]):=by
   constructor
   ·rintro⟨d,m,hd,p,r,e,i⟩;by_cases hj:x.1=k
    ·right;rw[hj]at hd p;rw[hc]at hd;cases hd;rw[hl]at p;cases p;exact⟨Prod.ext hj e,by rw[←e];exact i⟩
    ·left;exact(h.o x).2 ⟨d,m,hd,p,λg=>r (Hy.2 ⟨g,hj⟩),e,i⟩
   ·rintro(g|⟨rfl,i⟩)
    ·obtain⟨d,m,hd,p,r,e,i⟩:=(h.o x).1 g;exact⟨d,m,hd,p,λw=>r (Hy.1 w).1,e,i⟩
    ·exact⟨c,l,hc,hl,λw=>(Hy.1 w).2 rfl,rfl,i⟩
  rw[u];split
  ·rename_i he;constructor
   ·exact .inl
   ·rintro(g|⟨_,i⟩)
    ·exact g
    ·exact absurd he i
  ·rename_i he;rw[zL,zN];constructor
   ·rintro(g|g)
    ·exact .inl g
    ·exact .inr ⟨g,he⟩
   ·rintro(g|g)
    ·exact .inl g
    ·exact .inr g.1
set_option maxRecDepth 4000 in
theorem C4 (hso:H8){f:bZ->Li->List Int×Li}{fn:Nat}(hf:BJ f fn)(hnil:∀c,c.ok->f c ij=([],ij))(h:eC U F Y tb bud ls){R:Sl->Hp->Prop}
 (hR:∀σ' s (Q:Rg),Ext F U σ'->(∀q,Q q->U.size<=q)->eC σ' (λq=>Grow F U q/\¬Q q) Y tb bud (QT f tb ls)->iw s (Q0 f tb ls) σ' Q->R s σ') :
 W9.c (aW Y.p) ⟨fn,#[],#[]⟩ U R:=by
 refine W9.o ?_;unfold W9.v;refine UP h (cB rfl (aG (h.hd.rM rfl ?_)));have htb:=h.nv;refine sU (a:=.s) h.map (λC (out:Sl) v=>∃(ls':List Li) (w:List Bt) (Q D:Rg) (ps:List (Nat×Sl)),Ext F U v/\(∀q,Q q->U.size<q)/\eC v (λq=>(Cut F U q\/U.size<q)/\¬Q q) Y tb bud ls' ∧
  bR out 2 (fD ps) v (λq=>Q q/\¬D q)/\ku ps w v D/\(∀q,D q->Q q)/\yj f tb ls C ls' w/\(∀e∈C,e∈jV Y.ps)/\(C.map (·.1)).Nodup/\uN ps) ?_ ?_ ?_
 ·intro v hz e;refine⟨ls,[],λ_=>False,λ_=>False,[],bK.to e,λq g=>g.elim,((eC.loc.bO h.cut e).mono λq _ g=>⟨.inl g,id⟩),bR.nil _ _ _ _,⟨rfl,λi p x K=>by simp at K⟩,λq g=>g.elim,⟨λk c l E N=>?_,by simp,λx=>?_⟩,λe P=>P,h.map.nodup,List.Pairwise.nil⟩
  ·by_cases hi:mR (jV Y.ps) k
   ·rw[zC hi,N]
   ·rw[zB hi];have hf0:iU Y.ps k=none:=by
     unfold iU;simp only[qZ,nH,zT];exact λx r e=>hi (zE.2 ⟨((x.1:Int),some ⟨x.2,0,none⟩),zE.2 ⟨x,r,rfl⟩,by rw[e]⟩)
    have:=h.nil hf0 N;rw[N,this,hnil c (h.ok c (zG E))]
  ·simp only[List.not_mem_nil,false_iff];rintro⟨c,l,E,N,hi,e,hne⟩;have hf0:iU Y.ps x.1=none:=by
    unfold iU;simp only[qZ,nH,zT];exact λy Z e=>hi (zE.2 ⟨((y.1:Int),some ⟨y.2,0,none⟩),zE.2 ⟨y,Z,rfl⟩,by rw[e]⟩)
   have:=h.nil hf0 N;rw[this,hnil c (h.ok c (zG E))]at e;exact hne e
 ·rintro out v ⟨ls',w,Q,D,ps,e,hQ,hC,W,hB,hD,hI,_,_,S⟩;have hno:∀k,¬mR [] k:=λk hk=>by simp[mR]at hk
  have hls:ls'=QT f tb ls:=by
   apply zo;intro k;by_cases hk:k<tb.length
   ·have E:tb[k]?=some tb[k]:=cU hk;have N:ls[k]?=some (ls[k]'(by rw[h.len];exact hk)):=cU _;rw[hI.l k _ _ E N,zB (hno k)];simp[QT,Bm,E,N]
   ·rw[zV (by rw[hC.len];omega),zV (by simp[QT,h.len];omega)]
  subst hls;have hk1:∀(i:Nat) p,ps[i]?=some p->∃x,w[i]?=some x/\p.1=x.1/\cW p.2 1 (Wo x.2) v D/\p.2.len<=p.2.cap:=λi p K=>by
   have hi:=(cV.1 K).1;have r:w[i]?=some (w[i]'(by rw[←hB.1];exact hi)):=cU _;exact⟨_,r,hB.2 i p _ K r⟩
  have B:ps.map (·.1)=w.map (·.1):=by
   apply zo;intro i;simp only[za];cases K:ps[i]? with
   | none=>
    have:w[i]?=none:=by
     rw[List.getElem?_eq_none_iff]at K ⊢;rw[←hB.1];exact K
    rw[this];rfl
   | some p=>
    obtain⟨x,r,e1,_⟩:=hk1 i p K;rw[r];simp[e1]
  have X:∀x∈w,x.1<40:=λx r=>by
   obtain⟨c,l,E,_⟩:=(hI.o x).1 r;have:=(cV.1 E).1;omega
  have hlen:ps.length<=40:=by
   have hn:=hI.n;rw[←B]at hn;have:=hn.length_le_of_subset (l₂:=List.range 40) λj S=>by
    rw[B]at S;obtain⟨x,r,rfl⟩:=zE.1 S;exact zg.2 (X x r)
   simpa using this
  refine hso W (λp K=>?_) O λps' v' L hsort e' hrow'=>?_
  ·have:p.1∈w.map (·.1):=by rw[←B];exact zE.2 ⟨p,K,rfl⟩
   obtain⟨x,r,e1⟩:=zE.1 this;have:=X x r;omega
  ·have hnd:(ps'.map (·.1)).Nodup:=(L.map _).nodup_iff.2 (by rw[B];exact hI.n);have hinc:(ps'.map (·.1)).Pairwise (· < ·):=by
    refine List.Pairwise.map (R:=λa b:Nat×Sl=>a.1<b.1) _ (λa b hab=>hab) ?_;have A:ps'.Pairwise λa b=>a.1≠b.1:=r5.1 hnd;exact(hsort.and A).imp λ{a b} hab=>by have:=hab.1;have:=hab.2;omega
   have hkk:ps'.map (·.1)=(Q0 f tb ls).map (·.1):=by
    refine Di hinc Ie λj=>?_;rw[(L.map _).mem_iff,B];constructor
    ·intro S;obtain⟨x,r,rfl⟩:=zE.1 S;obtain⟨c,l,E,N,_,e1,e2⟩:=(hI.o x).1 r;exact zE.2 ⟨x,U9.2 ⟨c,l,E,N,e1,e2⟩,rfl⟩
    ·intro S;obtain⟨x,r,rfl⟩:=zE.1 S;obtain⟨c,l,E,N,e1,e2⟩:=U9.1 r;exact zE.2 ⟨x,(hI.o x).2 ⟨c,l,E,N,hno _,e1,e2⟩,rfl⟩
   have eQ:Ext F U v':=e.dT e' λq g=>.inr (rG (hQ q g.1));refine hR v' out Q eQ (λq g=>rG (hQ q g)) ?_ ⟨ps',D,hrow'.o,⟨?_,λi p x K r=>?_⟩,hD,(L.pairwise_iff λ{a b} hab x y A h2 e=>hab y x h2 A e.symm).2 S,λx r=>by
    obtain⟨_,_,_,_,_,h2⟩:=U9.1 r;exact h2⟩
   ·refine(eC.loc.bS hC e' λq _ g hq2=>g.2 hq2.1).mono λq _ g=>⟨?_,g.2⟩;rcases g.1 with r|r
    ·exact .inl r.1
    ·exact .inr (rG r)
   ·have:=congrArg List.length hkk;simpa using this
   ·have e1:p.1=x.1:=by
     have:=congrArg (λl=>l[i]?) hkk;simp only[za,K,r,zX,Option.some.injEq]at this;exact this
    obtain⟨j,S⟩:=zQ (L.mem_iff.1 (zG K));obtain⟨y,Z,e2,hs,hcap⟩:=hk1 j p S;have e3:x.2=y.2:=by
     obtain⟨c,l,E,N,_,A,_⟩:=(hI.o y).1 (zG Z);obtain⟨c',l',hc',hl',h2,_⟩:=U9.1 (zG r);rw[←e1,e2,E]at hc';cases hc';rw[←e1,e2,N]at hl';cases hl';rw[A,h2]
    rw[e3];exact⟨e1,aH.bS hs e' λq _ g hq2=>hq2.2 g,hcap⟩
 ·rintro C n x out v v' J ⟨ls',w,Q,D,ps,e,hQ,hC,W,hB,hD,hI,hsub,hnd,S⟩ r ho hlt hJ;have e1:Ext F U v':=e.only ho (.inr (zD _));have V:eC v' (λq=>(Cut F U q\/U.size<q)/\¬Q q) Y tb bud ls':=eC.loc.bS hC ho.ext λq _ g P=>by
   rcases g.1 with A|A
   ·have:=A.2;omega
   ·omega
  have hrow1:bR out 2 (fD ps) v' (λq=>(Q q/\¬D q)/\q<v'.size):=aI.cut (aI.bS W ho.ext λq _ g P=>by have:=hQ q g.1;omega);have hB1:ku ps w v' (λq=>D q/\q<v'.size):=(ku.loc _ _).cut ((ku.loc _ _).bS hB ho.ext λq _ g P=>by have:=hQ q (hD q g);omega);have hmem:=hsub _ r;simp only[jV,zE,Prod.mk.injEq]at hmem;obtain⟨⟨k,b⟩,hkb,hk1,hx1⟩:=hmem;simp only at hk1 hx1;subst hk1;subst hx1;have hk:=h.keys _ hkb;simp only at hk;have E:tb[k]?=some tb[k]:=cU hk;have N:ls[k]?=some (ls[k]'(by rw[h.len];exact hk)):=cU _;generalize tb[k]=c at E;generalize (ls[k]'(by rw[h.len];exact hk))=l at N;have hcok:=h.ok c (zG E);have hlk:iU Y.ps k=some b:=EE h.map.nodup hkb;have hin:mR C k:=zE.2 ⟨_,r,rfl⟩;have hl':ls'[k]?=some l:=by rw[hI.l k c l E N,zC hin]
  have M:=hI.step E N hin;have hmF:(λq=>(Cut F U q\/U.size<q)/\¬Q q) Y.m:=by
   obtain⟨H,hH,hm⟩:=V.sep.get .mp;exact hH _ hm.1
  obtain⟨G,hG,hL,hGm,hput⟩:=V.vL hlk hl';have hbF:=hG b hL.1;have hbm:b≠Y.m:=λe=>hGm (e▸hL.1);have hbs:b≠U.size:=λe=>by
   subst e;rcases hbF.1 with A|A
   ·have:=A.2;omega
   ·omega
  have hblt:b<v'.size:=by obtain⟨_,_,s,hbk,_⟩:=hL;exact hbk.lt
  have hsz1:=ho.1;refine aG (V.hd.rS rfl (sQ V.jy E (d:=2) O ?_));simp only[zB (show ¬(2=0) by omega),zB (show ¬(2=1) by omega)];refine hf hL hcok λs z v5 e5 hz hr hL5=>?_;have hs5:=e5.1;obtain⟨eF,h5⟩:=hput v5 _ (λq=>q=b\/z<=q) (e5.sub λq g=>by rw[g];exact hL.1) (λq g=>g.imp (λ(r:q=b)=>by rw[r];exact hL.1) λ(r:z<=q)=>O) hL5;have h5:=h5.cut;have eF5:Ext F U v5:=e1.dT eF λq g=>by
   rcases g.1 with A|A
   ·exact .inl A.1
   ·exact .inr (rG A)
  have hnb:∀q,Q q->q≠b:=λq g hqb=>hbF.2 (hqb▸g);have hrow5:=aI.bS hrow1 e5 λq _ g P=>hnb q g.1.1 P;have hB5:=(ku.loc _ _).bS hB1 e5 λq _ g P=>hnb q (hD q g.1) P;have hsl:s.len=(f c l).1.length:=by have:=hr.1;simp[Wo]at this;omega
  have hsub':∀y∈C.filter (λy=>!(y.1==(k:Int))),y∈jV Y.ps:=λy Z=>hsub y (zI.1 Z).1;have hnd':((C.filter λy=>!(y.1==(k:Int))).map (·.1)).Nodup:=hnd.sublist (List.filter_sublist.map _);by_cases hemp:(f c l).1=[]
  ·rw[zC hemp]at M;refine fR (by rw[hsl,hemp];simp) (hJ out v5 (e5.2 _ O λP=>hbs P.symm) (e5.2 _ V.map.lt λP=>hbm P.symm) ?_);refine⟨_,w,λq=>Q q/\q<v'.size,λq=>D q/\q<v'.size,ps,eF5,λq g=>hQ q g.1,h5.mono λq _ g=>?_,aI.mono hrow5 λq _ g=>⟨⟨g.1.1,g.2⟩,λhd=>g.1.2 hd.1⟩,hB5,λq g=>⟨hD q g.1,g.2⟩,M,hsub',hnd',S⟩;rcases g.1 with A|A|A
   ·exact⟨A.1.1,λr=>A.1.2 r.1⟩
   ·subst A;exact⟨hbF.1,λr=>hbF.2 r.1⟩
   ·exact⟨.inr O,λr=>O⟩
  ·rw[zB hemp]at M;have hpos:=pC.2 hemp;refine lT (by rw[hsl];omega) (nw (cs:=nS (k,s)) λv6 hz6 e6 hb6=>?_);have hrow6:=aI.bO hrow5 e6;have hB6:=(ku.loc _ _).bO hB5 e6;have hr6:=aI.bO (aI.cut hr) e6;have hpl:out.len=ps.length:=by have:=W.1;rw[Kx]at this;omega
   have hol:ps.length<=40:=by
    have B:w.map (·.1)⊆List.range 40:=λj S=>by
     obtain⟨x,r,rfl⟩:=zE.1 S;obtain⟨c,l,E,_⟩:=(hI.o x).1 r;have:=(cV.1 E).1;exact zg.2 O
    have:=hI.n.length_le_of_subset B;rw[hB.1];simpa using this
   refine hrow6.app (ys:=nS (k,s)) rfl rfl ?_ (λv hv=>UU (l:=[(k,s)]) v (by simpa[fD]using hv)) ?_ ?_ mN λs' v7 hl7 e7 hr7=>?_
   ·intro j u hu;rw[add_lit,zH,hb6.cell];exact hu
   ·simp only;have:(out.len+1)*32<=41*32:=lW O O;omega
   ·simp only;omega
   have hs7:=e7.1;have e57:Ext (λq=>(Q q/\¬D q)/\q<v'.size) v5 v7:=(bK.to e6).trans e7;refine hJ s' v7 ?_ ?_ ?_
   ·rw[e57.2 _ O λr=>by have:=hQ _ r.1.1;omega];exact e5.2 _ O λP=>hbs P.symm
   ·rw[e57.2 _ (by have:=V.map.lt;omega) λr=>hmF.2 r.1.1];exact e5.2 _ V.map.lt λP=>hbm P.symm
   refine⟨_,_,λq=>Q q/\q<v'.size\/(v'.size<=q/\q<z)\/v5.size<=q,λq=>D q/\q<v'.size\/(v'.size<=q/\q<z)/\q<v5.size,ps++[(k,s)],eF5.dT e57 λq g=>.inr (rG (hQ q g.1.1)),λq g=>?_,(eC.loc.bS h5 e57 λq hq5 g r=>?_).mono λq _ g=>?_,?_,⟨?_,λi p y K Z=>?_⟩,λq g=>?_,M,hsub',hnd',S.snoc hB1 (λx r=>by
    obtain⟨_,_,_,_,_,_,h2⟩:=(hI.o x).1 r;exact h2) hr.gF hemp (λb hb r Z=>by have:=r.2;have:=Z.1;omega) k⟩
   ·rcases g with g|g|g
    ·exact hQ q g.1
    ·omega
    ·omega
   ·rcases g.1 with A|A|A
    ·exact A.1.2 r.1.1
    ·exact hnb q r.1.1 A
    ·have:=r.2;omega
   ·have hq5:=g.2;rcases g.1 with A|A|A
    ·exact⟨A.1.1,λr=>by
      rcases r with r|r|r
      ·exact A.1.2 r.1
      ·have:=A.2.1;omega
      ·omega⟩
    ·subst A;exact⟨hbF.1,λr=>by
      rcases r with r|r|r
      ·exact hbF.2 r.1
      ·omega
      ·omega⟩
    ·exact⟨.inr O,λr=>by
      rcases r with r|r|r<;>omega⟩
   ·rw[UN];have:fD [(k,s)]=nS (k,s):=by simp[fD]
    rw[this];refine aI.mono hr7 λq _ g=>?_;rcases g with g|g
    ·exact⟨.inl ⟨g.1.1,g.2⟩,λhd=>by
      rcases hd with hd|hd
      ·exact g.1.2 hd.1
      ·omega⟩
    ·exact⟨.inr (.inr O),λhd=>by
      rcases hd with hd|hd<;>omega⟩
   ·rw[zO,zO,hB.1];rfl
   ·rcases kc i ps.length with hi|hi
    ·rw[ze hi]at K;rw[ze (by rw[←hB.1];exact hi)]at Z;obtain⟨a1,a2,a3⟩:=hB6.2 i p y K Z;exact⟨a1,aH.mono (aH.bS a2 e7 λq _ g r=>r.1.2 g.1) λq _ g=>.inl g,a3⟩
    ·rw[zp hi]at K;rw[zp (by rw[←hB.1];exact hi)]at Z;have hi0:i-ps.length=0:=by
      have:=(cV.1 K).1;simp at this;omega
     rw[hi0]at K;rw[show i-w.length=0 by rw[←hB.1];exact hi0]at Z;simp at K Z;subst K;subst Z;exact⟨rfl,aH.mono (aH.bS hr6.gF e7 λq _ g r=>by have:=r.2;have:=g.1;omega) λq _ g=>.inr g,bR.qm hr⟩
   ·rcases g with g|g
    ·exact .inl ⟨hD q g.1,g.2⟩
    ·exact .inr (.inl g.1)
theorem O3 (hso:H8)(h:eC U F Y tb bud ls){R:Sl->Hp->Prop}
 (hR:∀σ' s (Q:Rg),Ext F U σ'->(∀q,Q q->U.size<=q)->eC σ' (λq=>Grow F U q/\¬Q q) Y tb bud (QT ZG tb ls)->iw s (Q0 ZG tb ls) σ' Q->R s σ'):XD.c (aW Y.p) U R:=by
 refine XD.o ?_;unfold XD.v;exact C4 hso MB (λc _=>Sw c) h hR
theorem Mp (hso:H8)(h:eC U F Y tb bud ls){R:Sl->Hp->Prop}
 (hR:∀σ' s (Q:Rg),Ext F U σ'->(∀q,Q q->U.size<=q)->eC σ' (λq=>Grow F U q/\¬Q q) Y tb bud (QT KE tb ls)->iw s (Q0 KE tb ls) σ' Q->R s σ'):WX.c (aW Y.p) U R:=by
 refine WX.o ?_;unfold WX.v;exact C4 hso Pg Lm h hR
end Go.Ar