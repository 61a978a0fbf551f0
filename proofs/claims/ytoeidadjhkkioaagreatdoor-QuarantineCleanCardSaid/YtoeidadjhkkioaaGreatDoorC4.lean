/- Texts joined. -/
import Derived.Test.YtoeidadjhkkioaaGreatDoorC3
set_option linter.unusedVariables false
set_option linter.unusedSimpArgs false
namespace Go.Vc
open Go
def ye (h:Hp)(it r:Nat):Nat:=
 match h[it]?,h[r]? with
 | some (.mapIter _ _ seen _),some (.map es _)=>(es.toList.filter λe=>!seen.contains e.born).length
 | _,_=>0
variable {U:Hp}{k:IntKind}{c:CK}{l todo:List (Int×c.T)}{cur:Option (Int×c.T)}{r it:Nat}
theorem It.num {h:Hp}(hi:It h it k c (some r) l todo cur):ye h it r=todo.length:=by
 obtain⟨w,d,a,i,g,m,p,u,j,b,s⟩:=hi;unfold ye;rw[i,g];have:=congrArg List.length b;simpa using this
theorem It.bS {h h':Hp}(hi:It h it k c (some r) l todo cur)(h1:h'[it]?=h[it]?)(h2:h'[r]?=h[r]?):It h' it k c (some r) l todo cur:=by
 obtain⟨g,d,b,j,i,a⟩:=hi;exact⟨g,d,b,h1.trans j,h2.trans i,a⟩
theorem Bl {A:aP}{body:Int->c.T->Hp->(Hp->Prop)->Prop}(hm:dM U r k c l)(I:List (Int×c.T)->Hp->Prop)
 (h0:∀v,v.size=U.size+1->aF U v->I l v)
 (hend:∀v,I [] v->A v)
 (hstep:∀todo n x v v' (J:aP),I todo v->(n,x)∈todo->Kb v v' U.size->U.size<v.size->(∀w,w[U.size]?=v'[U.size]?->w[r]?=v'[r]?->I (todo.filter λy=>!(y.1==n)) w->J w)->body n x v' J) :
 pD k c (some r) U λit v3=>XS [] (λI=>I v3) λJ1 v4=>p7 k c it v4 (A v4) λ_ _ v5=>pj k c it v5 λkey1 val1=>body key1 val1 v5 J1:=by
 refine⟨l,hm,λv K G hi=>?_⟩;have N:aF U v:=⟨O,λb z _=>G b z⟩;refine IB (λw=>∃todo d,It w U.size k c (some r) l todo d/\I todo w/\U.size<w.size) (λw=>ye w U.size r) ⟨l,none,hi,h0 v K N,O⟩ ?_;rintro w ⟨todo,d,i,B,m⟩;refine⟨rfl,some r,l,todo,d,i,λE=>?_,λn x C L F g=>?_⟩
 ·subst E;exact hend w B
 ·refine⟨rfl,some r,l,_,n,x,g,hstep todo n x w L _ B C F m λu j s p=>?_⟩;have a:=g.bS j s;refine⟨⟨_,_,a,p,?_⟩,?_⟩
  ·obtain⟨P,H,D,M,_⟩:=a;exact(jT.1 M).1
  ·rw[a.num,i.num];exact DU.2 ⟨(n,x),C,by simp⟩
theorem xk {a:CK}{x0:a.T}{A:a.T->Hp->Prop}{body:Int->c.T->a.T->Hp->(a.T->Hp->Prop)->Prop}(hm:dM U r k c l)(I:List (Int×c.T)->a.T->Hp->Prop)
 (h0:∀v,v.size=U.size+1->aF U v->I l x0 v)
 (hend:∀z v,I [] z v->A z v)
 (hstep:∀todo n x z v v' (J:a.T->Hp->Prop),I todo z v->(n,x)∈todo->Kb v v' U.size->U.size<v.size->(∀z' w,w[U.size]?=v'[U.size]?->w[r]?=v'[r]?->I (todo.filter λy=>!(y.1==n)) z' w->J z' w)->body n x z v' J) :
 pD k c (some r) U λit v3=>XS [a] (λI=>I x0 v3) λJ1 z v4=>p7 k c it v4 (A z v4) λ_ _ v5=>pj k c it v5 λkey1 val1=>body key1 val1 z v5 J1:=by
 refine⟨l,hm,λv M K hi=>?_⟩;have Q:aF U v:=⟨O,λb C _=>K b C⟩;refine Qj (a:=a) (λz w=>∃todo g,It w U.size k c (some r) l todo g/\I todo z w/\U.size<w.size) (λ_ w=>ye w U.size r) ⟨l,none,hi,h0 v M Q,O⟩ ?_;rintro z w ⟨todo,g,j,D,p⟩;refine⟨rfl,some r,l,todo,g,j,λG=>?_,λn x E N H i=>?_⟩
 ·subst G;exact hend z w D
 ·refine⟨rfl,some r,l,_,n,x,i,hstep todo n x z w N _ D E H p λz' u m B s=>?_⟩;have d:=i.bS m B;refine⟨⟨_,_,d,s,?_⟩,?_⟩
  ·obtain⟨R,L,F,P,_⟩:=d;exact(jT.1 P).1
  ·rw[d.num,j.num];exact DU.2 ⟨(n,x),E,by simp⟩
end Go.Vc
namespace Go.Ar
open Go Go.Vc Go.Proofs
open Go.Bu (ZG)
variable {U:Hp}{F:Rg}{p q r:Nat}{sp:Sp}{l:List (Int×Sl)}{B:Nat->Nat}
theorem Qg {α:Type}{l:List (Int×α)}(hn:(l.map (·.1)).Nodup){n:Int}{x:α}(h:(n,x)∈l):bU l n=some x:=by
 induction l with
 | nil=>simp at h
 | cons y l ih=>
  rw[KT];simp only[zR,zr]at hn;rcases zW.1 h with h1|h1
  ·subst h1;rw[zC rfl]
  ·have:¬y.1=n:=λe=>hn.1 (zE.2 ⟨_,h1,e.symm⟩);rw[zB this];exact ih hn.2 h1
end Go.Ar
namespace Go.Bu
open Go Go.Vc Go.Proofs
variable {U:Hp}{p n sb:Nat}{S:Nat->Bool}{ms:List Nat}
def kQ (ms:List Nat):List Value:=ms.map λm=>Value.map (some m)
structure Part (B:Nat) (h:Hp) (p n:Nat) (j:Nat) (s:Sl) (ms:List Nat):Prop where
 len:ms.length=j
 sl:s.len=j
 hd:bY h p [.int .i64 n,.slice s.a s.len s.cap]
 own:Go.Vc.Own (λb=>B<=b/\b≠p/\b∉ms) h s 1 (kQ ms)
 new:∀m∈ms,B<=m/\m≠p/\m<h.size
 nd:ms.Nodup
theorem Part.done {B:Nat}{h:Hp}{j:Nat}{s:Sl}(hp:Part B h p n j s ms)(hB:B<=p)(hj:0<j)(n1:1<=n)(n2:n<=1024)(lo:2^j<=2*n)(hi:n<2^j)(jF:Bounded S n)
 (maps:∀k m,ms[k]?=some m->∃B:List (Int×Bool),dM h m .i64 .b B/\Keys S k B):∃sb,BH h p n S sb ms/\∀b,fp p sb ms b->B<=b:=by
 rcases hp.own.2 with⟨_,hl,_⟩|⟨sb,cs,⟨hq,hqp,hqm⟩,ha,hb,hle,hcl,ht⟩
 ·have:=hp.sl;omega
 ·refine⟨sb,⟨?_,?_,maps,?_,n1,n2,?_,?_,jF⟩,?_⟩
  ·refine⟨s.cap,?_⟩;have:=hp.hd;rw[ha,hp.sl,←hp.len]at this;exact this
  ·refine⟨cs.drop (kQ ms).length,?_⟩;have:kQ ms++cs.drop (kQ ms).length=cs:=by
    conv=>lhs;lhs;rw[←ht]
    exact nY _ _
   show bY h sb (kQ ms++_);rw[this];exact hb
  ·simp only[zr,zW,not_or];exact⟨⟨λe=>hqp e.symm,λa=>(hp.new p a).2.1 rfl⟩,hqm,hp.nd⟩
  ·rw[hp.len];exact lo
  ·rw[hp.len];exact hi
  ·intro b hb;simp only[fp,zW]at hb;rcases hb with rfl|rfl|h
   ·exact hB
   ·exact hq
   ·exact(hp.new b h).1
theorem Part.PK {B:Nat}{h:Hp}{j:Nat}{s:Sl}(hp:Part B h p n j s ms):cell h ⟨p,1,none⟩=some (.slice s.a s.len s.cap):=by rw[hp.hd.cell];rfl
theorem Part.bP {B:Nat}{h h':Hp}{j:Nat}{s:Sl}(hp:Part B h p n j s ms)(e:aF h h'):Part B h' p n j s ms:=
 ⟨hp.len,hp.sl,e.bV hp.hd id,hp.own.bP e,λm a=>⟨(hp.new m a).1,(hp.new m a).2.1,vW (hp.new m a).2.2 e.1⟩,hp.nd⟩
theorem Part.step {B:Nat}{h:Hp}{j m e t bytes:Nat}{s:Sl}{zs:List Value}{K:Sl->Hp->Prop}(hp:Part B h p n j s ms)(hj:j<=1000)(hbt:bytes<=1000)(hz:zs.length=1)(hm:B<=m)(hmp:m≠p)(hml:m<h.size)(hmn:m∉ms)(hms:¬Ga s m)
 (hpB:p<h.size) (hBh:B<=h.size)
 (hgo:∀s' h',Ext (Ga s) h h'->s'.len=j+1->bY h' p [.int .i64 n,.slice s.a s.len s.cap] →
  (∀h2,Kb h' h2 p->bY h2 p [.int .i64 n,.slice s'.a s'.len s'.cap]->Part B h2 p n (j+1) s' (ms++[m]))->K s' h') :
 App s 1 bytes e zs ⟨some ⟨h.size,0,none⟩,1,1⟩ (h.push (.cells #[.map (some m)] t (0,0))) K:=by
 have H:=hp.sl;have u:Go.Vc.Own (λb=>B<=b/\b≠p/\b∉ms++[m]) (h.push (.cells #[.map (some m)] t (0,0))) s 1 (kQ ms):=by
  have d:=hp.own;have h2:Go.Vc.Own (λb=>B<=b/\b≠p/\b∉ms++[m]) h s 1 (kQ ms):=by
   refine⟨d.1,d.2.imp id ?_⟩;rintro⟨b,cs,⟨q1,q2,q3⟩,ha,r⟩;refine⟨b,cs,⟨q1,q2,?_⟩,ha,r⟩;simp only[zM,zN,not_or];exact⟨q3,λe=>hms ⟨0,by rw[ha,e]⟩⟩
  exact h2.bP (HT _ _)
 have A:(h.push (.cells #[.map (some m)] t (0,0))).size=h.size+1:=by simp
 refine u.app (ys:=[.map (some m)]) ?_ hz rfl Rf (by simp[dX]) ?_ ?_ nr λs' h' D E J L=>?_
 ·intro b i;rw[A]at i;refine⟨O,O,?_⟩;simp only[zM,zN,not_or];exact⟨λw=>by have:=(hp.new b w).2.2;omega,O⟩
 ·simp only;have:(s.len+1)*bytes<=1001*1000:=my O hbt;omega
 ·simp only;omega
 ·simp only at D;have g:Ext (Ga s) h h':=(HT h _).to.trans E;have C:¬Ga s p:=λi=>(hp.own.jr i).1.2.1 rfl;refine hgo s' h' g O (g.bV hp.hd C) λh2 y z=>⟨by simp[hp.len],O,z,?_,?_,?_⟩
  ·have:kQ (ms++[m])=kQ ms++[.map (some m)]:=by simp[kQ]
   rw[this];exact J.bS (Ext.eV (F:=(· = p)) y rfl) (λb G _ N=>G.2.1 N)
  ·intro x hx;have M:h2.size=h'.size:=y.1;have:=g.1;rcases zM.1 hx with d|d
   ·have:=hp.new x d;exact⟨this.1,this.2.1,O⟩
   ·simp at d;subst d;exact⟨hm,hmp,O⟩
  ·rw[nb];refine⟨hp.nd,by simp,?_⟩;intro a ha b i;simp at i;subst i;rintro rfl;exact hmn ha
def iB:Nat->Bool:=λ_=>false
theorem Te (k:Nat):Keys iB k []:=by
 refine⟨by simp,λq a=>?_⟩;have:=Un a (Vq k q);simp[iB]at this
theorem uf (aG:Int){R:Option Addr->Int->Hp->Prop}(hbad:¬(1<=aG/\aG<=1024)->R none 1 U)
 (hR:∀(n:Nat),aG=(n:Int)->1<=n->n<=1024->∀σ' sb ms,aF U σ'->BH σ' U.size n iB sb ms->(∀b,fp U.size sb ms b->U.size<=b)->R (some ⟨U.size,0,none⟩) 0 σ'):KA.c aG U R:=by
 refine KA.o ?_;unfold KA.v;refine bX.intro (cN (λg=>cF rfl (hbad O)) λg=>?_);refine cN (λh2=>hbad O) λh2=>?_;obtain⟨n,rfl⟩:=zc (show 0<=aG by omega);have L:1<=n:=by omega
 have K:n<=1024:=by omega
 unfold Nw;have e0:=HT U (.cells #[.int .i64 (n:Int),.slice none 0 0] 52 (0,0));refine Qj (a:=bO) (λt h=>∃(j:Nat) (s:Sl) (ms:List Nat),t=((2^j:Nat):Int)/\2^j<=2*n/\aF U h/\U.size<h.size/\Part U.size h U.size n j s ms/\∀m∈ms,dM h m .i64 .b []) (λt _=>2*n+1-t.toNat)
  ⟨0,⟨none,0,0⟩,[],rfl,by simp;omega,Ext.push _ _ _,by simp,⟨rfl,rfl,bY.push _ _ _,Own.nil _ _ _,by simp,by simp⟩,by simp⟩ ?_
 rintro t h ⟨j,s,ms,rfl,H,M,P,d,y⟩;have hj:j<=11:=by
  apply Classical.byContradiction;intro hc;have:2^12<=2^j:=oP aB O;omega
 have V:=kZ j;refine cN (λaa=>?_) (λE=>?_)
 ·refine bL ?_;rw[add_lit,zH];refine oz d.PK ?_;have e1:=HT h (.map #[] 0);have X:(h.push (.map #[] 0)).size=h.size+1:=by simp
  have C:=d.bP e1;refine C.step (m:=h.size) O O rfl O O O (λw=>by have:=(d.new _ w).2.2;omega) (λr=>by have:=(d.own.jr r).2;omega) O O λN h' B hl r u=>?_;refine bL (r.RC aA λh2 z A=>?_);have J:=u h2 z A;have D:aF U h2:=by
   refine Ext.fresh (Ext.fresh (M.trans e1) B λi hi=>(d.own.jr hi).1.1) (Ext.eV (F:=(· = U.size)) z rfl) λi hi=>?_;rw[hi];exact zD _
  refine cT (m:=2^(j+1)) (by rw[mR];omega) (by rw[mR];omega) ⟨⟨j+1,N,ms++[h.size],rfl,by rw[mR];omega,D,?_,J,?_⟩,by rw[mR];omega⟩
  ·have:=z.1;have:=B.1;omega
  ·intro m w;have oJ:∀{m:Nat},dM (h.push (.map #[] 0)) m .i64 .b []->¬Ga s m->m≠U.size->dM h2 m .i64 .b []:=λW Z G=>HU z (B.fV W Z) G;rcases zM.1 w with g|g
   ·exact oJ (e1.fV (y m g) id) (λr=>(d.own.jr r).1.2.2 g) (d.new m g).2.1
   ·simp at g;subst g;exact oJ (dM.push _ _ _) (λr=>by have:=(d.own.jr r).2;omega) O
 ·have p:0<j:=by
   rcases D8 j with e|e
   ·subst e;simp at E;omega
   ·exact e
  obtain⟨sb,Q,hF⟩:=d.done (S:=iB) (zD _) p L K H O (λx Y=>by simp[iB]at Y) λk m w=>⟨[],y m (zG w),Te k⟩;exact hR n rfl L K h sb ms M Q hF
end Go.Bu
namespace Go.Proofs
open Go.Vc
set_option maxRecDepth 100000
def Xv.h:Hn:=.q .o1 (.q (.cU (.seq [.op,.op,.op,.cY true 5 (RI.ops 5),.op])) .l)
def Xv.v (a:R2)(b:Hp)(c:aO):Prop:=bX (λd e=>c d e) λf=>If (!a.isNone) (bG a 1 b λh=>f (!h.isNone) b) (f false b)
theorem Xv.o {a b c}(d:Xv.v a b c):Xv.c a b c:=Wa Tryz.func133 (x:=Xv.h) (R0 d)
def Ky.h:Hn:=.q .o2 (.q (.q .o3 .aJ) (.q .o3 (.q (.q (.cU (.seq [.op,.op,.op,.cY false 3 (RI.ops 3),.op,.cY false 2 [.op,.op],.op,.cY false 2 [.op,.op]])) .aJ) (.q .o8 (.q .o9 (.q .o9 (.q (.q .o3 (.k (.loop [(61,.I)] (.q .o1 (.q (.c .l .l) (.q (.k (.q .o4 (.q .o7 (.q .o9 (.cU (.gK true [18,21] [] (.tk [0,1,2,3,4,5,6,9,10,11,12,13] (.all [(7,.all [(8,.all [(14,.all [(15,.take 16 (.take 17 (.all [(18,.take 19 (.take 20 (.all [(21,.done)])))])))])]),(14,.all [(8,.all [(15,.take 16 (.take 17 (.all [(18,.take 19 (.take 20 (.all [(21,.done)])))])))])])]),(14,.all [(7,.all [(8,.all [(15,.take 16 (.take 17 (.all [(18,.take 19 (.take 20 (.all [(21,.done)])))])))])])])])))))))) .o2)))))) (.q .o3 .l))))))))
def Ky.v (a:Sl)(b:R2)(c:Int)(d:Hp)(e:Option Addr->Int->Hp->Prop):Prop:=Z1.c a d λf g=>If (!f) (e none 2 g) (X8.c b g λh i=>bX (λj k=>bX (λl m=>bX (λn o=>If n (e none 1 o) (Wo.c a o λp q=>QN.c q λr s=>Nw (.map #[] 0) s λt u=>aV #[.slice p.a p.len p.cap,.pointer b,.pointer none,.pointer none,.pointer r,.slice none 0 0,.slice none 0 0,.map (some t.block)] 199 u λv w=>KA.c h w λx y z=>bW (some v) λaa=>aR aa 2 (.pointer x) z λab=>Vk.c h ab λac ad ae=>bW (some v) λaf=>aR af 3 (.pointer ac) ae λag=>XS [bO] (λah=>ah 0 ag) λai (aj:Int) ak=>If (aj<((a.len:Nat):Int)) (Ix a.a a.len aj 3 λal=>aQ al 0 ak λam=>aQ al 1 ak λan=>aQ al 2 ak λao=>aV #[.I 0,.I 0,.I 0] 149 ak λap aq=>aR ap 0 (.I am) aq λar=>aR ap 1 (.I an) ar λau=>aR ap 2 (.I ao) au λav=>aQ ap 0 av λaw=>aQ ap 1 av λax=>aQ ap 2 av λay=>QM.c aw ax ay av λaz a0 a1=>aQ ap 2 a1 λa2=>Qk.c a2 c a1 λa3 a4 a5=>Jn [] (λa6=>bM (aj+1) λa7=>ai a7 a6) λa8=>dS a5 λa9=>bW (some v) λba=>aT a9 ba 5 λbb=>bW (some v) λbc=>aT a9 bc 6 λbd=>(aV #[.pointer az] 202 a5 λbe bf=>And (a9 bf) <| (App bb 1 8 202 [.pointer none] ⟨some be,1,1⟩ bf λbg bh=>And (a9 bh) <| aV #[.pointer a3] 204 bh λbi bj=>And (a9 bj) <| App bd 1 8 204 [.pointer none] ⟨some bi,1,1⟩ bj λbk bl=>And (a9 bl) <|
 bW (some v) λbm=>aR bm 5 (.slice bg.a bg.len bg.cap) bl λbn=>bW (some v) λbo=>aR bo 6 (.slice bk.a bk.len bk.cap) bn λbp=>a8 bp) ∧ (aV #[.pointer a3] 204 bf λbq br=>And (a9 br) <| App bb 1 8 202 [.pointer none] ⟨some be,1,1⟩ br λbs bt=>And (a9 bt) <| App bd 1 8 204 [.pointer none] ⟨some bq,1,1⟩ bt λbu bv=>And (a9 bv) <| bW (some v) λbw=>aR bw 5 (.slice bs.a bs.len bs.cap) bv λbx=>bW (some v) λbz=>aR bz 6 (.slice bu.a bu.len bu.cap) bx λb0=>a8 b0)) ∧ (aV #[.pointer a3] 204 a5 λb1 b2=>And (a9 b2) <| aV #[.pointer az] 202 b2 λb3 b4=>And (a9 b4) <| App bb 1 8 202 [.pointer none] ⟨some b3,1,1⟩ b4 λb5 b6=>And (a9 b6) <| App bd 1 8 204 [.pointer none] ⟨some b1,1,1⟩ b6 λb7 b8=>And (a9 b8) <| bW (some v) λb9=>aR b9 5 (.slice b5.a b5.len b5.cap) b8 λca=>bW (some v) λcb=>aR cb 6 (.slice b7.a b7.len b7.cap) ca λcc=>a8 cc)) (e (some v) 0 ak))) λcd=>If l (cd true m) (cd (decide (c>8)) m)) λce=>If j (ce true k) (ce (decide (c<0)) k)) λcf=>If (h<32) (cf true i) (Nz 16 <| cf ((h.tmod 16) != 0) i))
theorem Ky.o {a b c d e}(f:Ky.v a b c d e):Ky.c a b c d e:=Wa Tryz.func154 (x:=Ky.h) (R0 f)
def WU.h:Hn:=.q .o2 (.q (.q .o4 (.q .o2 (.c (.q .o3 .l) .l))) (.q (.o 12) .l))
def WU.v (a:R2)(b:Int)(c:Hp)(d:Sl->Int->Hp->Prop):Prop:=Xg.c a b c λe f=>If (e != 0) (d ⟨none,0,0⟩ e f) (bF a 6 f λh=>Ix h.a h.len b 1 λi=>fX i f λj=>WV.c j f λk l m=>d k l m)
theorem WU.o {a b c d}(e:WU.v a b c d):WU.c a b c d:=Wa Tryz.func169 (x:=WU.h) (R0 e)
def WZ.h:Hn:=.q .o2 (.q (.q .o4 (.q .o2 (.c (.q .o3 .l) .l))) (.q (.o 13) .l))
def WZ.v (a:R2)(b c:Int)(d:Hp)(e:Sl->Int->Hp->Prop):Prop:=Xg.c a b d λf g=>If (f != 0) (e ⟨none,0,0⟩ f g) (bF a 5 g λi=>Ix i.a i.len b 1 λj=>fX j g λk=>Xt.c k c g λl m n=>e l m n)
theorem WZ.o {a b c d e}(f:WZ.v a b c d e):WZ.c a b c d e:=Wa Tryz.func171 (x:=WZ.h) (R0 f)
def Yr.h:Hn:=.q .o1 (.q (.q .o4 (.q .o2 .aJ)) (.q (.o 17) (.q (.q .o2 .aJ) (.q .gA .l))))
def Yr.v (a:R2)(b:Int)(c:Hp)(d:aN):Prop:=Xg.c a b c λe f=>If (e != 0) (d e f) (bF a 0 f λh=>Ix h.a h.len b 3 λi=>aQ i 1 f λj=>bM (b+1) λk=>Y3.c a j 1 k f λl m n=>If (m != 0) (d m n) (bF a 5 n λp=>Ix p.a p.len b 1 λq=>fX q n λr=>Zc.c r l n λs t=>d s t))
theorem Yr.o {a b c d}(e:Yr.v a b c d):Yr.c a b c d:=Wa Tryz.func172 (x:=Yr.h) (R0 e)
def Xe.h:Hn:=.q .o2 (.q (.k (.q .o4 (.c .aL (.q (.cU (.seq [.op,.op,.op,.cY false 2 [.op,.op],.op,.cY false 2 [.op,.op],.op,.cY false 2 [.op,.op],.op,.cY false 5 (RI.ops 5),.op])) .aJ)))) (.q .o9 (.q (.q .o2 (.c (.q .o3 .l) .l)) (.q .o7 (.q .o3 .l)))))
def Xe.v (a:R2)(b c:Int)(d:Hp)(e:Int->Int->Hp->Prop):Prop:=Xv.c a d λf g=>If (!f) (e 0 5 g) (bX (λh i=>bX (λj k=>bX (λl m=>bX (λn o=>If n (e 0 1 o) (Y3.c a b c 41 o λp q r=>If (q != 0) (e 0 q r) (bJ a 7 r λt=>kH .i64 bO t p b r λu=>e p 0 u))) λv=>If l (v true m) (bM (c-1) λw=>v ((bits .and .i64 c w) != 0) m)) λx=>If j (x true k) (x (decide (c>16)) k)) λy=>If h (y true i) (y (decide (c<1)) i)) λz=>If (b<1) (z true g) (z (decide (b>64)) g))
theorem Xe.o {a b c d e}(f:Xe.v a b c d e):Xe.c a b c d e:=Wa Tryz.func174 (x:=Xe.h) (R0 f)
def Xd.h:Hn:=.q .o1 (.q (.q .o3 .aK) (.q (.o 11) (.q (.q .o2 .aK) (.q .o6 (.q .o6 .aM)))))
def Xd.v (a:R2)(b:Int)(c:Hp)(d:aN):Prop:=Xv.c a c λe f=>If (!e) (d 5 f) (bJ a 7 f λh=>Lk .i64 bO h b f λi=>If (!i.isSome) (d 8 f) (bJ a 7 f λk=>lN .i64 bO k b f λl=>aV #[.I b,.I (i.getD 0)] 268 l λm n=>Ym.c a ⟨some m,1,1⟩ n λo=>d 0 o))
theorem Xd.o {a b c d}(e:Xd.v a b c d):Xd.c a b c d:=Wa Tryz.func182 (x:=Xd.h) (R0 e)
def Ym.h:Hn:=.q .o3 (.k (.loop [(8,.I)] (.q .o1 (.q (.c .l .l) (.q (.k (.q .o4 (.q (.cU (.tail 8 (RI.ops 8) [.op])) (.q (.cU (.tail 8 (RI.ops 8) [.op])) (.cU (.tail 8 (RI.ops 8) [.op])))))) .o2)))))
def Ym.v (a:R2)(b:Sl)(c:Hp)(d:aP):Prop:=XS [bO] (λe=>e 0 c) λf (g:Int) h=>If (g<((b.len:Nat):Int)) (Ix b.a b.len g 2 λi=>aQ i 0 h λj=>aQ i 1 h λk=>aV #[.I 0,.I 0] 268 h λl m=>aR l 0 (.I j) m λn=>aR l 1 (.I k) n λo=>bG a 4 o λq=>aQ l 0 o λr=>aQ l 1 o λs=>X3.c q r s o λt u=>bG a 3 u λw=>aQ l 0 u λx=>aQ l 1 u λy=>XO.c w x y u λz aa=>bG a 2 aa λac=>aQ l 0 aa λad=>aQ l 1 aa λae=>Yz.c ac ad ae aa λaf ag=>bM (g+1) λah=>f ah ag) (d h)
theorem Ym.o {a b c d}(e:Ym.v a b c d):Ym.c a b c d:=Wa Tryz.func184 (x:=Ym.h) (R0 e)
def Xf.h:Hn:=.q .o1 (.q (.q .o4 (.q .o2 .aJ)) (.q (.o 14) (.q (.q .o2 .aJ) (.q .o3 .aM))))
def Xf.v (a:R2)(b:Int)(c:Sl)(d:Hp)(e:aN):Prop:=Xg.c a b d λf g=>If (f != 0) (e f g) (bF a 5 g λi=>Ix i.a i.len b 1 λj=>fX j g λk=>Y6.c k c g λl m n=>If (m != 0) (e m n) (Ym.c a l n λo=>e 0 o))
theorem Xf.o {a b c d e}(f:Xf.v a b c d e):Xf.c a b c d e:=Wa Tryz.func194 (x:=Xf.h) (R0 f)
def Xg.h:Hn:=.q .o1 (.q (.k (.q .o4 (.c .aM (.q (.cU (.seq [.op,.op,.op,.cY false 7 (RI.ops 7),.op])) .aK)))) .aM)
def Xg.v (a:R2)(b:Int)(c:Hp)(d:aN):Prop:=Xv.c a c λe f=>If (!e) (d 5 f) (bX (λg h=>If g (d 1 h) (d 0 h)) λi=>If (b<0) (i true f) (bF a 0 f λk=>i (decide (b≥((k.len:Nat):Int))) f))
theorem Xg.o {a b c d}(e:Xg.v a b c d):Xg.c a b c d:=Wa Tryz.func231 (x:=Xg.h) (R0 e)
def Y3.h:Hn:=.q .o2 (.q (.o 12) (.kE [(10,.I),(11,.I)] (.q .o2 (.c (.q .o1 (.q (.k (.loop [(12,.I)] (.q (.q .o5 (.c .l .l)) (.k .o3)))) (.q (.q .o4 .aJ) (.o 12)))) .l)) (.q (.q .o2 (.c (.q .o3 .l) .l)) (.q .o7 (.q .o8 (.q .o3 .l))))))
def Y3.v (a:R2)(b c d:Int)(e:Hp)(f:Int->Int->Hp->Prop):Prop:=bG a 2 e λh=>X4.c h b c e λi j k=>Jn [bO,bO] (λ(l:Int) (m:Int) n=>If (m != 0) (f 0 m n) (bG a 3 n λp=>XU.c p l b n λq r=>bG a 4 r λt=>Yq.c t l b d r λu v=>f l 0 v)) λw=>If (j==6) (XS [bO] (λx=>x 16 k) λy (z:Int) aa=>If (z<(if c>b then c else b)) (bM (z*2) λab=>y ab aa) (Zg.c a z aa λac ad=>If (!ac) (f 0 6 ad) (bG a 2 ad λaf=>X4.c af b c ad λag ah ai=>w ag ah ai))) (w i j k)
theorem Y3.o {a b c d e f}(g:Y3.v a b c d e f):Y3.c a b c d e f:=Wa Tryz.func234 (x:=Y3.h) (R0 g)
def Zd.h:Hn:=.q .o3 (.q (.q .o3 (.c (.q .o3 .l) .l)) (.q (.q .o2 (.c (.q .o3 .l) .l)) (.q .o8 (.q (.q .o2 (.c (.q .o3 .l) .l)) (.kE [] (.q .o2 (.c (.q .o5 (.k (.loop [] (.q (.cU (.seq [.it .i64 bO,.op])) (.q (.c .l .l) (.k (.q (.cU (.seq [.it .i64 bO,.op,.op,.op,.op])) (.q .o3 (.q (.cU (.seq [.op,.op,.op,.op,.cY true 5 (RI.ops 5)])) (.c (.q .o5 .l) .l)))))))))) .l)) (.q (.o 15) (.q (.q .o2 (.c (.q .o4 .l) .l)) (.q .o6 .l))))))))
def Zd.v (a:R2)(b:Int)(c:Hp)(d:Int->Int->Int->Hp->Prop):Prop:=Xv.c a c λe f=>If (!e) (d 0 0 5 f) (If (b<0) (d 0 0 8 f) (bG a 4 f λh=>Nz 256<|bM (b.tdiv 256) λi=>Zr.c h i f λj k=>If (j==0) (d 0 0 8 k) (Jn [] (λl=>bF a 5 l λn=>bM (j-1) λo=>Ix n.a n.len o 1 λp=>fX p l λq=>YD.c q b l λr s t=>If (s != 0) (d 0 0 s t) (bM (j-1) λu=>d u r 0 t)) λv=>If (j==41) (bJ a 7 k λx=>pD .i64 bO x k λy z=>XS [] (λaa=>aa z) λab ac=>p7 .i64 bO y ac (v ac) (λad ae af=>pj .i64 bO y af λag ah=>Nz 256<|bM (b.tdiv 256) λai=>bX (λaj ak=>If aj (bM (ag*256) λal=>d (-1) al 0 ak) (ab ak)) λam=>If (ag<=ai) (bM (ag+ah) λan=>am (decide (ai<an)) af) (am false af))) (v k))))
theorem Zd.o {a b c d}(e:Zd.v a b c d):Zd.c a b c d:=Wa Tryz.func238 (x:=Zd.h) (R0 e)
def W6.h:Hn:=.q .o2 (.q (.q .o4 (.q .o2 (.c (.q .o3 .l) .l))) (.q (.q (.o 11) .aJ) (.q (.q .o3 (.k (.loop [(32,.I)] (.q .o1 (.q (.c .l .l) (.q (.k (.q .o3 (.q (.o 14) (.q (.cU (.seq [.op,.op,.op,.cY false 2 [.op,.op]])) .aJ)))) .o2)))))) (.q (.o 13) .l))))
def W6.v (a:R2)(b:Int)(c:Sl)(d:Hp)(e:Bool->Int->Hp->Prop):Prop:=Xg.c a b d λf g=>If (f != 0) (e false f g) (bF a 0 g λi=>Ix i.a i.len b 3 λj=>aQ j 2 g λk=>If (((c.len:Nat):Int) != k) (e false 1 g) (XS [bO] (λl=>l 0 g) λm (n:Int) o=>If (n<((c.len:Nat):Int)) (Ix c.a c.len n 1 λp=>bN p o λq=>bF a 5 o λs=>Ix s.a s.len b 1 λt=>fX t o λu=>Xq.c u q o λv w x=>bX (λy z=>If y (e false 8 z) (bM (n+1) λaa=>m aa z)) λab=>If (w != 0) (ab true x) (ab (!v) x)) (bF a 6 o λad=>Ix ad.a ad.len b 1 λae=>fX ae o λaf=>Xs.c af c o λag ah ai=>e ag ah ai)))
theorem W6.o {a b c d e}(f:W6.v a b c d e):W6.c a b c d e:=Wa Tryz.func242 (x:=W6.h) (R0 f)
def Zb.h:Hn:=.q .o1 (.q (.cU (.seq [.op,.op,.op,.cY true 7 (RI.ops 7),.op])) .l)
def Zb.v (a:R2)(b:Int)(c:Hp)(d:aO):Prop:=Xv.c a c λe f=>bX (λg h=>d g h) λi=>If e (bG a 3 f λk=>Yb.c k b f λl m=>i (decide (l>0)) m) (i false f)
theorem Zb.o {a b c d}(e:Zb.v a b c d):Zb.c a b c d:=Wa Tryz.func284 (x:=Zb.h) (R0 e)
def Zg.h:Hn:=.q .o1 (.q (.q .o2 (.k (.loop [(5,.I)] (.q (.q .o9 (.c .l .l)) (.q (.k (.q (.q .o8 (.c .l .l)) (.q (.q .o3 (.k (.loop [(6,.I)] (.q (.q .o6 (.c .l .l)) (.q (.k .o6) .o3))))) (.q .o7 .aM)))) .o4))))) .aM)
def Zg.v (a:R2)(b:Int)(c:Hp)(d:aO):Prop:=XS [bO] (λe=>e b c) λf (g:Int) h=>bM (g+b) λi=>bG a 1 h λk=>X8.c k h λl m=>If (i<=l) (bG a 1 m λo=>Zw.c o g b m λp q=>If (p != 0) (bM (g+b) λr=>f r q) (Nz 16<|bM (g.tdiv 16) λs=>XS [bO] (λt=>t s q) λu (v:Int) w=>bM (g+b) λx=>Nz 16<|bM (x.tdiv 16) λy=>If (v<y) (bG a 3 w λaa=>Yp.c aa v w λab ac=>bM (v+1) λad=>u ad ac) (bG a 2 w λaf=>Yz.c af g b w λag ah=>d true ah))) (d false m)
theorem Zg.o {a b c d}(e:Zg.v a b c d):Zg.c a b c d:=Wa Tryz.func287 (x:=Zg.h) (R0 e)
end Go.Proofs
namespace Go.Ar
open Go Go.Vc Go.Proofs
open Go.Bu (ZG Kj ZD)
inductive Lb where
 | hd|dI|free|oh|own|dV|cS|runs
 | cG (k:Nat)
 | cQ (k:Nat)
 deriving DecidableEq
structure Lay where
 p:Nat
 hs:Nat
 fr:Nat
 tr:Nat
 op:Nat
 rn:Nat
 dI:Sl
 dV:Sl
 cS:Sl
 fM:List Nat
 gD:List Nat
def kY (Y:Lay):List Value:=[.slice Y.dI.a Y.dI.len Y.dI.cap,.pointer (some ⟨Y.hs,0,none⟩),.pointer (some ⟨Y.fr,0,none⟩),.pointer (some ⟨Y.tr,0,none⟩),.pointer (some ⟨Y.op,0,none⟩),.slice Y.dV.a Y.dV.len Y.dV.cap,.slice Y.cS.a Y.cS.len Y.cS.cap,.map (some Y.rn)]
def gJ (tb:List cA):List Value:=tb.flatMap λc=>[.int .i64 (c.size:Int),.int .i64 (c.aG:Int),.int .i64 (c.batch:Int)]
def fQ (l:List Nat):List Value:=l.map λb=>.pointer (some ⟨b,0,none⟩)
def iS (l:List (Nat×Nat)):List (Int×Int):=l.map λr=>((r.1:Int),(r.2:Int))
def tL (p n:Nat)(S:Nat->Bool):Hp->Rg->Prop:=λU F=>∃sb ms,Go.Bu.BH U p n S sb ms/\∀b,Go.Bu.fp p sb ms b->F b
def mL (p:Nat)(st:List Nat):Hp->Rg->Prop:=λU F=>∃q,il U p q st/\F p/\F q
def ke (p:Option Nat)(c:Option cA)(ss:Option (List cH)):Hp->Rg->Prop:=λU F=>match p,c,ss with
 | some p,some c,some ss=>∃ps,fH U F p c ps ss
 | _,_,_=>True
def lx (p:Option Nat)(c:Option cA)(room:Nat)(t:Option gO):Hp->Rg->Prop:=λU F=>match p,c,t with
 | some p,some c,some t=>iT U F p c.batch room t
 | _,_,_=>True
def AC (A:AR)(Y:Lay)(T:Nat->Hp->Rg->Prop):Lb->Hp->Rg->Prop
 | .hd=>iC Y.p (kY Y)
 | .dI=>cV Y.dI 3 (gJ A.tb)
 | .free=>tL Y.fr A.n A.S
 | .oh=>mL Y.tr A.st
 | .own=>λU F=>jl U F Y.op A.ow
 | .dV=>bT Y.dV 1 (fQ Y.fM)
 | .cS=>bT Y.cS 1 (fQ Y.gD)
 | .runs=>jM Y.rn .i64 bO (iS A.runs)
 | .cG k=>ke Y.fM[k]? A.tb[k]? A.cG[k]?
 | .cQ k=>T k
def cM (A:AR)(Y:Lay)(k:Nat):Hp->Rg->Prop:=lx Y.gD[k]? A.tb[k]? A.room A.cQ[k]?
theorem tL.loc (p n:Nat)(S:Nat->Bool):dO (tL p n S):=by
 rintro U σ' F G ⟨d,j,h,r⟩ w s;have i:∀b,Go.Bu.fp p d j b->b<U.size:=λb a=>by
  unfold Go.Bu.fp at a;rcases zW.1 a with h1|h1
  ·obtain⟨c,m⟩:=h.hd;rw[h1];exact m.lt
  rcases zW.1 h1 with h2|h2
  ·obtain⟨c,m⟩:=h.row;rw[h2];exact m.lt
  ·obtain⟨k,x⟩:=zP h2;obtain⟨B,u,_⟩:=h.maps k b x;exact u.lt
 have e:Ext (λb=>¬Go.Bu.fp p d j b) U σ':=⟨w,λb a g=>(s b a (r b (Classical.not_not.1 g))).2⟩;exact⟨d,j,h.bS e λb a y=>y a,λb a=>(s b (i b a) (r b a)).1⟩
theorem mL.loc (p:Nat)(st:List Nat):dO (mL p st):=by
 rintro U σ' F G ⟨q,h,j,m⟩ r a;have e:Ext (λb=>b≠p/\b≠q) U σ':=⟨r,λb i s=>by
  by_cases h1:b=p
  ·subst h1;exact(a b i j).2
  ·have g:b=q:=Classical.byContradiction λg=>s ⟨h1,g⟩;subst g;exact(a b i m).2⟩
 exact⟨q,h.bS e (λd=>d.1 rfl) (λd=>d.2 rfl),(a p h.lt.1 j).1,(a q h.lt.2 m).1⟩
theorem ke.loc (p:Option Nat)(c:Option cA)(ss:Option (List cH)):dO (ke p c ss):=by
 rintro U g F G h a d;unfold ke at *;split
 ·simp only at h;obtain⟨b,h⟩:=h;exact⟨b,fH.loc _ _ _ _ h a d⟩
 ·trivial
theorem lx.loc (p:Option Nat)(c:Option cA)(room:Nat)(t:Option gO):dO (lx p c room t):=by
 rintro U d F G h a b;unfold lx at *;split
 ·exact iT.loc _ _ _ _ h a b
 ·trivial
theorem AC.loc {A:AR}{Y:Lay}{T:Nat->Hp->Rg->Prop}(hT:∀k,dO (T k)):∀i,dO (AC A Y T i)
 | .hd=>iC.loc _ _
 | .dI=>cV.loc _ _ _
 | .free=>tL.loc _ _ _
 | .oh=>mL.loc _ _
 | .own=>jl.loc
 | .dV=>bT.loc _ _ _
 | .cS=>bT.loc _ _ _
 | .runs=>jM.loc _ _ _ _
 | .cG k=>ke.loc _ _ _
 | .cQ k=>hT k
theorem cM.loc {A:AR}{Y:Lay}(k:Nat):dO (cM A Y k):=lx.loc _ _ _ _
structure eZ (A:AR) (Y:Lay):Prop where
 c:Y.fM.length=A.tb.length
 t:Y.gD.length=A.tb.length
 cG:A.cG.length=A.tb.length
 cQ:A.cQ.length=A.tb.length
 nD:1<=A.tb.length
 rR:A.tb.length<=40
 n1:32<=A.n
 n2:A.n<=1024
 n3:A.n%16=0
 st:A.st.length=A.n
 room:A.room<=8
 ok:∀c∈A.tb,c.ok
structure dK (U:Hp) (F:Rg) (Y:Lay) (A:AR) (T:Nat->Hp->Rg->Prop):Prop where
 lay:eZ A Y
 tl:∀k,dO (T k)
 sep:Sep (AC A Y T) U F
def AH (U:Hp)(F:Rg)(p hs:Nat)(A:AR):Prop:=∃Y:Lay,Y.p=p/\Y.hs=hs/\dK U F Y A (cM A Y)
variable {U:Hp}{F:Rg}{p hs:Nat}{A:AR}{Y:Lay}{T:Nat->Hp->Rg->Prop}
theorem dK.loc:dO λU F=>dK U F Y A T:=λU d F G h a b=>⟨h.lay,h.tl,Sep.loc (AC.loc h.tl) _ _ _ _ h.sep a b⟩
theorem AH.loc:dO λU F=>AH U F p hs A:=λU g F G ⟨Y,d,b,h⟩ a hs=>⟨Y,d,b,dK.loc _ _ _ _ h a hs⟩
theorem dK.bP {σ':Hp}(h:dK U F Y A T)(e:aF U σ'):dK σ' F Y A T:=dO.bP dK.loc h e
theorem AH.bP {σ':Hp}(h:AH U F p hs A)(e:aF U σ'):AH σ' F p hs A:=dO.bP AH.loc h e
theorem dK.hd (h:dK U F Y A T):bY U Y.p (kY Y):=by
 obtain⟨G,b,d,a⟩:=h.sep.get .hd;exact a
theorem Uq (tb:List cA):(gJ tb).length=tb.length*3:=by
 induction tb with
 | nil=>rfl
 | cons x l ih=>simp only[gJ,pt,zK,zS,lg]at *;omega
theorem AX {tb:List cA}{i:Nat}{c:cA}(h:tb[i]?=some c):(gJ tb)[3*i]?=some (.int .i64 (c.size:Int))/\(gJ tb)[3*i+1]?=some (.int .i64 (c.aG:Int))/\(gJ tb)[3*i+2]?=some (.int .i64 (c.batch:Int)):=by
 induction tb generalizing i with
 | nil=>simp at h
 | cons x l ih=>
  have e:gJ (x::l)=[.int .i64 (x.size:Int),.int .i64 (x.aG:Int),.int .i64 (x.batch:Int)]++gJ l:=by simp[gJ]
  rw[e];cases i with
  | zero=>simp at h;subst h;simp
  | succ i=>
   have:=ih (i:=i) (by simpa using h);rw[show 3*(i+1)=3*i+3 by omega];simpa using this
theorem dK.pE (h:dK U F Y A T):Y.dI.len=A.tb.length:=by
 obtain⟨G,b,a⟩:=h.sep.get .dI;have:=a.1;rw[Uq]at this;omega
theorem ux {s:Sl}{tb:List cA}(h:cV s 3 (gJ tb) U F){k d:Nat}{c:cA}(hc:tb[k]?=some c)(hd:d<3){K:Int->Prop}(hK:K (if d=0 then c.size else if d=1 then c.aG else c.batch:Nat)) :
 Ix s.a s.len (k:Int) 3 λa=>gH .i64 (a.add d) U K:=by
 have i:=AX hc;have m:(gJ tb)[3*k+d]?=some (.int .i64 ((if d=0 then c.size else if d=1 then c.aG else c.batch:Nat):Int)):=by
  match d,hd with
  | 0,_=>exact i.1
  | 1,_=>exact i.2.1
  | 2,_=>exact i.2.2
 have r:=(cX.1 hc).1;obtain⟨b,o,p,g⟩:=h.cell m;have j:=h.1;rw[Uq]at j;rw[p];refine ix O O ?_;rw[add_lit,add_lit];refine oy ?_ hK;rw[show o+(k:Int).toNat*3+d=o+(3*k+d) by omega];exact g
theorem dK.yh (h:dK U F Y A T){k d:Nat}{c:cA}(hc:A.tb[k]?=some c)(hd:d<3){K:Int->Prop}(hK:K (if d=0 then c.size else if d=1 then c.aG else c.batch:Nat)) :
 Ix Y.dI.a Y.dI.len (k:Int) 3 λa=>gH .i64 (a.add d) U K:=by
 obtain⟨G,g,b⟩:=h.sep.get .dI;exact ux b hc hd hK
theorem Bf {s:Sl}{l:List Nat}(h:cV s 1 (fQ l) U F){k q:Nat}(hq:l[k]?=some q){K:Option Addr->Prop}(hK:K (some ⟨q,0,none⟩)):Ix s.a s.len (k:Int) 1 λa=>fX a U K:=by
 have m:=(cX.1 hq).1;obtain⟨b,o,i,d⟩:=h.cell (j:=k) (v:=.pointer (some ⟨q,0,none⟩)) (by simp[fQ,hq]);have g:=h.1;simp[fQ]at g;rw[i];refine ix O O ?_;rw[add_lit];exact vU (by rw[show o+(k:Int).toNat*1=o+k by omega];exact d) hK
theorem dK.lZ (h:dK U F Y A T){k q:Nat}(hq:Y.fM[k]?=some q){K:Option Addr->Prop}(hK:K (some ⟨q,0,none⟩)):Ix Y.dV.a Y.dV.len (k:Int) 1 λa=>fX a U K:=by
 obtain⟨G,d,b⟩:=h.sep.get .dV;exact Bf (bT.fW b) hq hK
theorem dK.td (h:dK U F Y A T){k q:Nat}(hq:Y.gD[k]?=some q){K:Option Addr->Prop}(hK:K (some ⟨q,0,none⟩)):Ix Y.cS.a Y.cS.len (k:Int) 1 λa=>fX a U K:=by
 obtain⟨G,d,b⟩:=h.sep.get .cS;exact Bf (bT.fW b) hq hK
theorem dK.at_ (h:dK U F Y A T){k:Nat}(hk:k<A.tb.length):∃c ss q t r,A.tb[k]?=some c/\A.cG[k]?=some ss/\Y.fM[k]?=some q/\A.cQ[k]?=some t/\Y.gD[k]?=some r/\c.ok:=by
 have b:=h.lay.c;have a:=h.lay.t;have d:=h.lay.cG;have g:=h.lay.cQ;exact⟨A.tb[k],A.cG[k],Y.fM[k],A.cQ[k],Y.gD[k],by simp,by simp,by simp,by simp,by simp,h.lay.ok _ (kz hk)⟩
theorem EW {k q:Nat}{c:cA}{ss:List cH}{G:Rg}(h1:Y.fM[k]?=some q)(h2:A.tb[k]?=some c)(h3:A.cG[k]?=some ss)(h:AC A Y T (.cG k) U G):∃ps,fH U G q c ps ss:=by
 simp only[AC]at h;rw[h1,h2,h3]at h;exact h
theorem dK.cG (h:dK U F Y A T){k q:Nat}{c:cA}{ss:List cH}(h1:Y.fM[k]?=some q)(h2:A.tb[k]?=some c)(h3:A.cG[k]?=some ss):∃G ps,(∀b,G b->F b)/\fH U G q c ps ss:=by
 obtain⟨G,g,d⟩:=h.sep.get (.cG k);obtain⟨ps,a⟩:=EW h1 h2 h3 d;exact⟨G,ps,g,a⟩
theorem HW (h:dK U F Y A T){R:aO}(hR:R true U):Xv.c (aW Y.p) U R:=by
 refine Xv.o ?_;unfold Xv.v;exact bX.intro (cF rfl (bL (h.hd.rP rfl hR)))
theorem UU (h:dK U F Y A T)(k:Int){R:aN}(h1:A.ck k=false->R 1 U)(h0:∀x:Nat,k=x->x<A.tb.length->R 0 U):Xg.c (aW Y.p) k U R:=by
 refine Xg.o ?_;unfold Xg.v;have i:=h.pE;have a:¬(0<=k/\k<A.tb.length)->R 1 U:=λd=>h1 (by unfold AR.ck;rw[←vI];exact zL d);refine HW h (cD rfl (bX.intro (cN (λg=>cF rfl (a O)) λg=>bL (h.hd.rS rfl (cN (λb=>?_) λb=>?_)))))
 ·simp only at b;exact a O
 ·simp only at b;exact h0 k.toNat O O
theorem NS (h:dK U F Y A T)(x:Int){R:aO}(hR:R (po A x) U):Zb.c (aW Y.p) x U R:=by
 refine Zb.o ?_;unfold Zb.v;obtain⟨G,b,q,a,_⟩:=h.sep.get .oh;refine HW h (bX.intro (cF rfl (bL (h.hd.rP rfl (S5 a x ?_)))));have:decide (AF A.st x>0)=po A x:=by
  unfold AF po;by_cases hx:0<=x
  ·by_cases hl:x<A.st.length
   ·rw[zC ⟨hx,hl⟩,zI hx,rU,decide_eq_decide];omega
   ·rw[zB O,zI hx,rU,zQ,zX O];rfl
  ·rw[zB O,zL hx];rfl
 rw[this];exact hR
structure iO (A:AR):Prop where
 ug:∀r∈A.runs,∀s∈A.runs,∀x,r.1<=x->x<r.1+r.2->s.1<=x->x<s.1+s.2->r=s
 A3:∀x,x<1024->A.ow x=41->(sQ A x).isSome=true
 cls:∀x,x<1024->A.ow x≠0->A.ow x≠41->A.ow x<=A.tb.length
 fit:∀r∈A.runs,r.1+r.2<=1024
theorem Bs (h:iO A){x:Nat}{r:Nat×Nat}(hr:r∈A.runs)(h1:r.1<=x)(h2:x<r.1+r.2):sQ A x=some r:=by
 cases hf:sQ A x with
 | none=>
  unfold sQ at hf;rw[oB]at hf;have:=hf r hr;simp[h1,h2]at this
 | some s=>
  unfold sQ at hf;have b:=uG hf;have a:=uc hf;simp at a;rw[h.ug r hr s b x h1 h2 a.1 a.2]
theorem Mc (h:dK U F Y A T)(hr:iO A)(x:Int)(hx:iL x){R:Int->Int->Int->Hp->Prop}(h1:∀σ' k a,aF U σ'->Hu A x=some (k,a)->R k (a:Int) 0 σ')(h0:∀σ',aF U σ'->Hu A x=none->R 0 0 8 σ') :
 Zd.c (aW Y.p) x U R:=by
 refine Zd.o ?_;unfold Zd.v;refine HW h (cD rfl (cN (λV=>h0 U (Ext.refl _ _) (by unfold Hu;rw[zC V])) λV=>bL (h.hd.rP rfl (nz aB ?_))));obtain⟨y,rfl⟩:=zc (show 0<=x by omega);have hy:y<=9223372036854775807:=by unfold iL at hx;omega
 have tp:((y:Int).tdiv 256)=((y/256:Nat):Int):=by rw[Yj O];simp
 refine ar (by rw[tp];omega) (by rw[tp];omega) ?_;rw[tp];obtain⟨G,hG,hP⟩:=h.sep.get .own;refine WnI hP _ ?_;have eo:ru A.ow ((y/256:Nat):Int)=if y/256<1024 then A.ow (y/256)else 0:=by
  unfold ru;by_cases hl:y/256<1024
  ·rw[zC O,zC hl];rfl
  ·rw[zB O,zB hl]
 have g:Hu A (y:Int)=(let no:=if y/256<1024 then A.ow (y/256)else 0
  if no=0 then none else if no=41 then(sQ A (y/256)).map λr=>(-1,r.1*256)else
  match A.tb[no-1]?,A.cG[no-1]? with
  | some c,some ss=>(rE c ss (y:Int)).map λa=>(((no-1:Nat):Int),a)
  | _,_=>none):=by
  unfold Hu;rw[zB V];rfl
 rw[eo];generalize hno:(if y/256<1024 then A.ow (y/256)else 0)=no at *
 simp only at g;rw[xA];refine cR (λZ=>h0 U (Ext.refl _ _) (by rw[g,zC (by simpa using Z)])) λZ=>?_;have E:no≠0:=by simpa using Z
 rw[zB E]at g;have C:y/256<1024:=by
  rcases ko (y/256) 1024 with h|h
  ·exact h
  ·rw[zB O]at hno;exact absurd hno.symm E
 rw[zC C]at hno;refine Jn.intro ?_;have Q:(((no:Nat):Int)==41)=(no==41):=l8 no 41;rw[Q];refine cR (λX=>?_) λX=>?_
 ·have j:no=41:=by simpa using X
  subst j;rw[zC rfl]at g;obtain⟨r,N⟩:=oQ.1 (hr.A3 _ C hno);have w:=uG N;have D:=uc N;simp at D;obtain⟨G,hG,L⟩:=h.sep.get .runs;refine bL (h.hd.rM rfl ?_);refine Bl L.2 (λb v=>aF U v/\(∀z∈b,z∈iS A.runs)/\((r.1:Int),(r.2:Int))∈b) (λv hz e=>⟨e,λz hz=>hz,zE.2 ⟨r,w,rfl⟩⟩) (λv hv=>absurd hv.2.2 aA) ?_;rintro b n z v v' J ⟨e,d,B⟩ hm ho hlt2 hJ;have e':aF U v':=Ext.fresh e ho.ext λi hi=>by omega
  obtain⟨s,P,hse⟩:=zE.1 (d _ hm);cases hse;have hfit:=hr.fit s P;refine nz aB (ar O O ?_);refine bX.intro (cN (λc3=>ar O O (cN (λc4=>?_) λc4=>?_)) λc3=>cD rfl ?_)
  ·have W:=Bs hr P (x:=y/256) O O;refine ar O O ?_;have:=h1 v' (-1) (s.1*256) e' (by rw[g,W];rfl);simpa using this
  ·refine hJ v' rfl rfl ⟨e',λu S=>d u (zJ.1 S).1,zJ.2 ⟨B,?_⟩⟩;have:¬(r.1:Int)=(s.1:Int):=λe=>by
    have:=Bs hr w D.1 D.2;have e1:r.1=s.1:=by omega
    by_cases h2:r.2=0
    ·omega
    by_cases h3:s.2=0
    ·have:=L.2.nodup;have K:=Qg this (zE.2 ⟨r,w,rfl⟩);have M:=Qg this (zE.2 ⟨s,P,rfl⟩);rw[e1,M]at K;have:s.2=r.2:=by
      have:(s.2:Int)=(r.2:Int):=Option.some.inj K;omega
     omega
    ·have:=hr.ug r w s P r.1 O O O O;subst this;omega
   simpa using this
  ·refine hJ v' rfl rfl ⟨e',λu S=>d u (zJ.1 S).1,zJ.2 ⟨B,?_⟩⟩;have:¬(r.1:Int)=(s.1:Int):=λe=>by omega
   simpa using this
 ·have j:no≠41:=by simpa using X
  rw[zB j]at g;have hcl:=hr.cls _ C (by rw[hno];exact E) (by rw[hno];exact j);rw[hno]at hcl;obtain⟨c,ss,q,t,r,hc,H,hq,_,_,hok⟩:=h.at_ (k:=no-1) O;obtain⟨G,ps,hG,hC⟩:=h.cG hq hc H;rw[hc,H]at g;simp only at g;refine bL (h.hd.rS rfl (cT (m:=no-1) O (by have:=h.lay.rR;omega) (h.lZ hq (SR hC _ hx (λa ha=>?_) λha=>?_))))
  ·refine cD rfl (cT (m:=no-1) O (by have:=h.lay.rR;omega) (h1 U _ a (Ext.refl _ _) ?_));rw[g,ha];rfl
  ·refine cF rfl (h0 U (Ext.refl _ _) ?_);rw[g,ha];rfl
end Go.Ar
namespace Go.Ar
open Go Go.Vc Go.Proofs
open Go.Bu (ZG Kj ZD)
open Classical in
theorem _root_.Go.Vc.Sep.j7 {L:Type}{C:L->Hp->Rg->Prop}{U:Hp}{F:Rg}(hC:∀i,dO (C i))(h:Sep C U F)(i:L):∃G:Rg,(∀b,G b->F b)/\C i U G/\(∀j,j≠i->∃H:Rg,(∀b,H b->F b)/\(∀b,H b->¬G b)/\C j U H)/\∀(σ':Hp) (C':L->Hp->Rg->Prop) (G':Rg),
 (∀j,j≠i->C' j=C j)->Ext G U σ'->(∀b,G' b->G b\/U.size<=b)->C' i σ' G'->dO (C' i)->Sep C' σ' λb=>F b/\b<U.size/\¬G b\/G' b:=by
 obtain⟨ρ,h⟩:=h;refine⟨_,λb a=>a.1,h i,λj p=>⟨_,λb a=>a.1,λb m w=>p (m.2.symm.trans w.2),h j⟩,λσ' C' G' p e x hi u=>⟨λb=>if G' b then i else ρ b,λj=>?_⟩⟩
 by_cases hji:j=i
 ·subst hji;exact u.mono hi λb _ a=>⟨.inr a,zC a⟩
 ·rw[p j hji];refine hC j _ _ _ _ (h j) e.1 λb a s=>?_;have d:¬(F b/\ρ b=i):=λr=>hji (s.2.symm.trans r.2);have g:¬G' b:=λr=>by
   rcases x b r with m|m
   ·exact d m
   ·omega
  exact⟨⟨.inl ⟨s.1,a,d⟩,(zB g).trans s.2⟩,e.2 b a d⟩
variable {U:Hp}{F:Rg}{p hs:Nat}{A:AR}{Y:Lay}{T:Nat->Hp->Rg->Prop}
theorem dK.step (h:dK U F Y A T)(i:Lb):∃G:Rg,(∀b,G b->F b)/\AC A Y T i U G/\(∀j,j≠i->∃H:Rg,(∀b,H b->F b)/\(∀b,H b->¬G b)/\AC A Y T j U H)/\∀(σ':Hp) (A':AR) (Y':Lay) (T':Nat->Hp->Rg->Prop) (G' H:Rg),
 eZ A' Y'->(∀k,dO (T' k))->(∀j,j≠i->AC A' Y' T' j=AC A Y T j)->Ext G U σ'->(∀b,G' b->G b\/U.size<=b)->AC A' Y' T' i σ' G'->(∀b,(F b/\b<U.size/\¬G b\/G' b)->H b)->dK σ' H Y' A' T':=by
 obtain⟨G,s,hi,hd,a⟩:=h.sep.j7 (AC.loc h.tl) i;refine⟨G,s,hi,hd,λσ' A' Y' T' G' H u d m e w g r=>⟨u,d,?_⟩⟩;exact(Sep.loc (AC.loc d)).mono (a σ' _ G' m e w g (AC.loc d i)) λb _ p=>r b p
theorem GO {U:Hp}{F G G':Rg}(hG:∀b,G b->F b)(hg:∀b,G' b->G b\/U.size<=b):∀b,(F b/\b<U.size/\¬G b\/G' b)->Grow F U b:=λb a=>by
 rcases a with a|a
 ·exact .inl a.1
 ·exact(hg b a).imp (hG b) id
theorem AY {U:Hp}{F G G':Rg}(hG:∀b,G b->F b)(hg:∀b,G' b->G b):∀b,(F b/\b<U.size/\¬G b\/G' b)->F b:=λb a=>by
 rcases a with a|a
 ·exact a.1
 ·exact hG b (hg b a)
theorem IP {U:Hp}{F G:Rg}(hG:∀b,G b->F b):∀b,(F b/\b<U.size/\¬G b\/Cut G U b)->Cut F U b:=λb a=>by
 rcases a with a|a
 ·exact⟨a.1,a.2.1⟩
 ·exact⟨hG b a.1,a.2⟩
theorem Ek {ow:Nat->Nat}:∀j,j≠Lb.own->AC {A with ow:=ow} Y T j=AC A Y T j:=by
 intro j hj;cases j<;>first|rfl|exact absurd rfl hj
theorem WoJ {st:List Nat}:∀j,j≠Lb.oh->AC {A with st:=st} Y T j=AC A Y T j:=by
 intro j hj;cases j<;>first|rfl|exact absurd rfl hj
theorem DN {S:Nat->Bool}:∀j,j≠Lb.free->AC {A with S:=S} Y T j=AC A Y T j:=by
 intro j hj;cases j<;>first|rfl|exact absurd rfl hj
theorem Pd {rs:List (Nat×Nat)}:∀j,j≠Lb.runs->AC {A with runs:=rs} Y T j=AC A Y T j:=by
 intro j hj;cases j<;>first|rfl|exact absurd rfl hj
theorem Ι {k:Nat}{ss:List cH}:∀j,j≠Lb.cG k->AC {A with cG:=A.cG.set k ss} Y T j=AC A Y T j:=by
 intro j hj;cases j<;>first|rfl|skip
 rename_i k';have a:k≠k':=λe=>hj (by rw[e]);simp only[AC];rw[zh a]
theorem eZ.ow {ow:Nat->Nat}(h:eZ A Y):eZ {A with ow:=ow} Y:=⟨h.c,h.t,h.cG,h.cQ,h.nD,h.rR,h.n1,h.n2,h.n3,h.st,h.room,h.ok⟩
theorem eZ.BP {S:Nat->Bool}(h:eZ A Y):eZ {A with S:=S} Y:=⟨h.c,h.t,h.cG,h.cQ,h.nD,h.rR,h.n1,h.n2,h.n3,h.st,h.room,h.ok⟩
theorem eZ.qT {rs:List (Nat×Nat)}(h:eZ A Y):eZ {A with runs:=rs} Y:=⟨h.c,h.t,h.cG,h.cQ,h.nD,h.rR,h.n1,h.n2,h.n3,h.st,h.room,h.ok⟩
theorem eZ.xh {st:List Nat}(h:eZ A Y)(hl:st.length=A.st.length):eZ {A with st:=st} Y:=⟨h.c,h.t,h.cG,h.cQ,h.nD,h.rR,h.n1,h.n2,h.n3,hl.trans h.st,h.room,h.ok⟩
theorem eZ.lr {k:Nat}{ss:List cH}(h:eZ A Y):eZ {A with cG:=A.cG.set k ss} Y:=⟨h.c,h.t,by simpa using h.cG,h.cQ,h.nD,h.rR,h.n1,h.n2,h.n3,h.st,h.room,h.ok⟩
theorem FB (st:List Nat)(a m:Int)(v:Nat)(fr:List Nat):(U2 st a m v fr).length=st.length:=by
 unfold U2;split<;>simp[Vn]
theorem Wkm (st:List Nat)(k:Int):(jb st k).length=st.length:=by
 unfold jb;split<;>simp[Vn]
theorem dK.Clear (h:dK U F Y A T)(a m:Nat)(ha:a<=1000000){R:aN}(hR:∀σ' t,Ext F U σ'->dK σ' (Grow F U) Y {A with ow:=jN A.ow a m 0} T->R t σ'):X3.c (aW Y.op) a m U R:=by
 obtain⟨G,i,hi,_,d⟩:=h.step .own;refine Nj hi a m ha λσ' e j=>hR σ' _ (e.sub i) ?_;exact d σ' _ _ T (Grow G U) _ h.lay.ow h.tl Ek e (λb g=>g) j (GO i λb g=>g)
theorem dK.Set (h:dK U F Y A T)(a m:Nat)(ha:a<=1000000){no:Nat}(h1:1<=no)(h2:no<=1000){R:aN}(hR:∀σ' t,Ext F U σ'->dK σ' (Grow F U) Y {A with ow:=jN A.ow a m no} T->R t σ'):Yq.c (aW Y.op) a m no U R:=by
 obtain⟨G,i,hi,_,d⟩:=h.step .own;refine LV hi a m ha h1 h2 λσ' e j=>hR σ' _ (e.sub i) ?_;exact d σ' _ _ T (Grow G U) _ h.lay.ow h.tl Ek e (λb g=>g) j (GO i λb g=>g)
theorem dK.oh (h:dK U F Y A T):∃G:Rg,(∀b,G b->F b)/\∃q,il U Y.tr q A.st/\F q/\∀(σ':Hp) (st:List Nat),st.length=A.st.length->Ext (· = q) U σ'->il σ' Y.tr q st->Ext F U σ'/\dK σ' F Y {A with st:=st} T:=by
 obtain⟨G,i,⟨q,r,p,g⟩,_,d⟩:=h.step .oh;refine⟨G,i,q,r,i _ g,λσ' st m e j=>⟨e.sub λb a=>by subst a;exact i _ g,?_⟩⟩;exact d σ' _ _ T G _ (h.lay.xh m) h.tl WoJ (e.sub λb a=>by subst a;exact g) (λb a=>.inl a) ⟨q,j,p,g⟩ (AY i λb a=>a)
theorem dK.wR (h:dK U F Y A T)(a m:Int){R:aN}(hR:∀σ' t,Ext F U σ'->dK σ' F Y {A with st:=U2 A.st a m 2 [1]} T->R t σ'):XO.c (aW Y.tr) a m U R:=by
 obtain⟨G,i,q,g,_,b⟩:=h.oh;refine O3 g a m λσ' e d=>?_;have:=b σ' _ (FB _ _ _ _ _) e d;exact hR σ' _ this.1 this.2
theorem dK.Sk (h:dK U F Y A T)(a m:Int){R:aN}(hR:∀σ' t,Ext F U σ'->dK σ' F Y {A with st:=U2 A.st a m 1 [2,3]} T->R t σ'):XU.c (aW Y.tr) a m U R:=by
 obtain⟨G,i,q,g,_,b⟩:=h.oh;refine RJ g a m λσ' e d=>?_;have:=b σ' _ (FB _ _ _ _ _) e d;exact hR σ' _ this.1 this.2
theorem dK.B7 (h:dK U F Y A T)(k:Int){R:aN}(hR:∀σ' t,Ext F U σ'->dK σ' F Y {A with st:=jb A.st k} T->R t σ'):Yp.c (aW Y.tr) k U R:=by
 obtain⟨G,g,q,d,_,a⟩:=h.oh;refine T9 d k λσ' e b=>?_;have:=a σ' _ (Wkm _ _) e b;exact hR σ' _ this.1 this.2
theorem dK.free (h:dK U F Y A T):∃sb ms,Go.Bu.BH U Y.fr A.n A.S sb ms/\∀(σ':Hp) (S:Nat->Bool),Ext (· ∈ ms) U σ'->Go.Bu.BH σ' Y.fr A.n S sb ms->Ext F U σ'/\dK σ' F Y {A with S:=S} T:=by
 obtain⟨G,g,⟨sb,ms,p,j⟩,_,d⟩:=h.step .free;have i:∀b,b∈ms->G b:=λb a=>j b (by unfold Go.Bu.fp;simp[a]);refine⟨sb,ms,p,λσ' S e m=>⟨e.sub λb a=>g b (i b a),?_⟩⟩;exact d σ' _ _ T G _ h.lay.BP h.tl DN (e.sub i) (λb a=>.inl a) ⟨sb,ms,m,j⟩ (AY g λb a=>a)
theorem dK.xW (h:dK U F Y A T)(a m:Int){R:aN}(hR:∀σ' t,Ext F U σ'->dK σ' F Y {A with S:=Kj A.n A.S a m} T->R t σ'):Yz.c (aW Y.fr) a m U R:=by
 obtain⟨i,j,d,b⟩:=h.free;refine Go.Bu.qO d a m λσ' e g=>?_;have:=b σ' _ e g;exact hR σ' _ this.1 this.2
theorem dK.yg (h:dK U F Y A T)(a m:Int){R:Int->Int->Hp->Prop}(hR:∀σ',Ext F U σ'->dK σ' F Y {A with S:=Go.Bu.ja A.n A.S a m} T->R ((Go.Bu.iU A.n A.S a m:Nat):Int) (Go.Bu.ji A.n A.S a m) σ'):X4.c (aW Y.fr) a m U R:=by
 obtain⟨i,j,d,b⟩:=h.free;refine Go.Bu.lA d a m λσ' e g=>?_;have:=b σ' _ e g;exact hR σ' this.1 this.2
def rV (rs:List (Nat×Nat)):List Value:=rs.flatMap λr=>[.int .i64 (r.1:Int),.int .i64 (r.2:Int)]
theorem Et (rs:List (Nat×Nat)):(rV rs).length=rs.length*2:=by
 induction rs with
 | nil=>rfl
 | cons x l ih=>simp only[rV,pt,zK,zS,lg]at *;omega
theorem Tq {l:List (Nat×Nat)}{i:Nat}{r:Nat×Nat}(h:l[i]?=some r):(rV l)[2*i]?=some (.int .i64 (r.1:Int))/\(rV l)[2*i+1]?=some (.int .i64 (r.2:Int)):=by
 induction l generalizing i with
 | nil=>simp at h
 | cons x l ih=>
  have e:rV (x::l)=[.int .i64 (x.1:Int),.int .i64 (x.2:Int)]++rV l:=by simp[rV]
  rw[e];cases i with
  | zero=>simp at h;subst h;simp
  | succ i=>
   have:=ih (i:=i) (by simpa using h);rw[show 2*(i+1)=2*i+2 by omega];simpa using this
theorem N8 (c:cA)(l:List Nat):iP c l=rV (l.map λs=>(s,c.aG)):=by
 simp[iP,rV,List.flatMap_map]
theorem LW {s:Sl}{rs:List (Nat×Nat)}(h:cV s 2 (rV rs) U F){i:Nat}{r:Nat×Nat}(hr:rs[i]?=some r){K:Int->Int->Prop}(hK:K (r.1:Int) (r.2:Int)) :
 Ix s.a s.len (i:Int) 2 λa=>gH .i64 (a.add 0) U λu=>gH .i64 (a.add 1) U λw=>K u w:=by
 have j:=Tq hr;have hi:=(cX.1 hr).1;obtain⟨b,o,m,p⟩:=h.cell j.1;obtain⟨y,o1,d,g⟩:=h.cell j.2;rw[m]at d;cases d;have x:=h.1;rw[Et]at x;rw[m];refine ix O O ?_;rw[add_lit];refine oy ?_ (oy ?_ hK)<;>rw[add_lit]
 ·rw[show o+(i:Int).toNat*2+0=o+2*i by omega];exact p
 ·rw[show o+(i:Int).toNat*2+1=o+(2*i+1) by omega];exact g
theorem dK.mono {G:Rg}(h:dK U F Y A T)(hs:∀b,b<U.size->F b->G b):dK U G Y A T:=dO.mono dK.loc h hs
theorem dK.cut (h:dK U F Y A T):dK U (Cut F U) Y A T:=dO.cut dK.loc h
theorem Rp (A:AR)(rs:List (Nat×Nat))(r:Nat×Nat):UI A (rs++[r])=Uv (UI A rs) r:=by simp[UI]
theorem Iw (h:dK U F Y A T){sl:Sl}{rs:List (Nat×Nat)}{X:Rg}(hs:cV sl 2 (rV rs) U X)(hX:∀b,b<U.size->X b->¬F b)(hl:rs.length<=1000000)(hb:∀r∈rs,r.1<=1000000){R:aP}
 (hR:∀σ',Ext F U σ'->dK σ' (Grow F U) Y (UI A rs) T->R σ'):Ym.c (aW Y.p) sl U R:=by
 refine Ym.o ?_;unfold Ym.v;have V:sl.len=rs.length:=by have:=hs.1;rw[Et]at this;omega
 have z:cV sl 2 (rV rs) U (Cut X U):=aH.cut hs;refine Qj (a:=bO) (λ(t:Int) v=>∃i:Nat,t=(i:Int)/\i<=rs.length/\Ext F U v/\dK v (Grow F U) Y (UI A (rs.take i)) T) (λt _=>rs.length-t.toNat) ⟨0,rfl,O,Ext.refl _ _,by simpa[UI]using h.mono λb _ hb=>.inl hb⟩ ?_;rintro t v ⟨i,rfl,hi,e,L⟩;refine cN (λhlt=>?_) λhge=>?_
 ·have x:i<rs.length:=by omega
  have y:rs[i]?=some rs[i]:=cW x;have C:=hb _ (kz x);have B:=aH.bS z e λb M y w=>hX b M y.1 w;refine LW B y ?_;have J:rs.take (i+1)=rs.take i++[rs[i]]:=by rw[kx,y];rfl
  generalize rs[i]=r at *;refine nw (cs:=[.int .i64 0,.int .i64 0]) λv4 hz4 e4 N=>N.s1 aA λv5 o5 b5=>b5.s1 aA λv6 o6 Q=>?_;have u:aF v v6:=Ext.fresh (Ext.fresh e4 o5.ext λi hi=>O) o6.ext λi hi=>by omega
  have s:=L.cut.bP u;have Z:¬Cut (Grow F U) v v.size:=λw=>by have:=w.2;omega
  have g:bY v6 v.size [.int .i64 (r.1:Int),.int .i64 (r.2:Int)]:=Q;have z6:v.size<v6.size:=Q.lt;refine bL (s.hd.rP rfl (g.rI rfl (g.rI rfl (s.Clear r.1 r.2 C λv7 t7 P K=>?_))));have E:=P.bV g Z;have d:=K.mono (G:=λb=>Cut (Grow F U) v b\/v.size<b) λb _ hb=>by
   rcases hb with hb|hb
   ·exact .inl hb
   ·exact .inr O
  have D:¬(Cut (Grow F U) v v.size\/v.size<v.size):=λw=>by
   rcases w with h|h
   ·exact Z h
   ·omega
  refine bL (d.hd.rP rfl (E.rI rfl (E.rI rfl (d.wR _ _ λv8 t8 W j=>?_))));have S:=W.bV E D;refine bL (j.hd.rP rfl (S.rI rfl (S.rI rfl (j.xW _ _ λv9 t9 e9 H=>?_))));have sub:∀b,(Cut (Grow F U) v b\/v.size<b)->Grow F U b:=λb hb=>by
   rcases hb with hb|hb
   ·exact hb.1
   ·exact .inr (by have:=e.1;omega)
  have ee:Ext F U v9:=((((e.trans (aF.to u)).jC (P.sub λb hb=>hb.1))).jC (W.sub sub)).jC (e9.sub sub);refine cT (m:=i+1) O O ⟨⟨i+1,rfl,O,ee,?_⟩,O⟩;rw[J,Rp];exact H.mono λb _ hb=>sub b hb
 ·have:i=rs.length:=by omega
  subst this;rw[lY]at L;exact hR v e L
end Go.Ar
namespace Go.Proofs
open Go.Vc
set_option maxRecDepth 100000
def X2.h:Hn:=.q .o1 (.q (.q .o3 .aK) (.q .o1 (.q (.q .o5 (.k (.loop [(3,.I)] (.q (.cU (.seq [.it .i64 .p,.op])) (.q (.c .l .l) (.k (.q (.cU (.seq [.it .i64 .p,.op,.op,.op,.op])) (.oq 17)))))))) .aL)))
def X2.v (a:R2)(b:Hp)(c:aN):Prop:=Xw.c a b λd e=>If (!d) (c 0 e) (bJ a 2 e λg=>pD .i64 .p g e λh i=>XS [bO] (λj=>j 0 i) λk (l:Int) m=>p7 .i64 .p h m (c l m) (λn o p=>pj .i64 .p h p λq r=>bF a 0 p λt=>Ix t.a t.len q 3 λu=>aQ u 0 p λv=>bF r 0 p λx=>bM (v*((x.len:Nat):Int)) λy=>bM (l+y) λz=>k z p))
theorem X2.o {a b c}(d:X2.v a b c):X2.c a b c:=Wa Tryz.func90 (x:=X2.h) (R0 d)
def Xw.h:Hn:=.q .o1 (.q (.cU (.seq [.op,.op,.op,.cY true 5 (RI.ops 5),.op])) .l)
def Xw.v (a:R2)(b:Hp)(c:aO):Prop:=bX (λd e=>c d e) λf=>If (!a.isNone) (bJ a 2 b λh=>f (!h.isNone) b) (f false b)
theorem Xw.o {a b c}(d:Xw.v a b c):Xw.c a b c:=Wa Tryz.func132 (x:=Xw.h) (R0 d)
def KB.h:Hn:=.q .o2 (.q (.k (.q .o4 (.c .aL (.q (.cU (.seq [.op,.op,.op,.cY false 2 [.op,.op],.op])) .aJ)))) (.q .o8 .l))
def KB.v (a:Sl)(b:Int)(c:Hp)(d:Option Addr->Int->Hp->Prop):Prop:=Z1.c a c λe f=>If (!e) (d none 2 f) (bX (λg h=>If g (d none 1 h) (Wo.c a h λi j=>Nw (.map #[] 0) j λk l=>aV #[.slice i.a i.len i.cap,.I b,.map (some k.block)] 188 l λm n=>d (some m) 0 n)) λo=>If (b<0) (o true f) (o (decide (b>65536)) f))
theorem KB.o {a b c d}(e:KB.v a b c d):KB.c a b c d:=Wa Tryz.func155 (x:=KB.h) (R0 e)
def YB.h:Hn:=.q .o2 (.q .o8 (.q (.q .o2 (.c (.q .o3 .l) .l)) (.q (.q .o6 (.c (.q (.q .o9 (.q .o6 (.c .o8 (.o 11)))) .aL) .l)) (.q .o7 (.q .o8 (.q .gA (.q .gA (.q .o3 .l))))))))
def YB.v (a:R2)(b:Int)(c:Hp)(d:Int->Int->Hp->Prop):Prop:=XE.c a b c λe f g=>If (f != 0) (d 0 f g) (bF e 0 g λi=>If (((i.len:Nat):Int)==0) (bF a 0 g λk=>Ix k.a k.len b 3 λl=>aQ l 2 g λm=>bE e 1 g λo=>If (o<m) (bE e 1 g λq=>bM (q+1) λr=>bW e λs=>aR s 1 (.I r) g λt=>d 0 4 t) (bE e 1 g λv=>bM (v+m) λw=>bW e λx=>aR x 1 (.I (if 128<w then 128 else w)) g λy=>d 0 4 y)) (bF e 0 g λaa=>bM (((aa.len:Nat):Int)-1) λab=>bF e 0 g λad=>Ix ad.a ad.len ab 1 λae=>bN ae g λaf=>bF e 0 g λah=>fF ah 1 0 ab (ah.cap:Nat) λai=>bW e λaj=>aR aj 0 (.slice ai.a ai.len ai.cap) g λak=>bE e 2 ak λam=>bW e λan=>aR an 2 (.I (if ab<am then ab else am)) ak λao=>d af 0 ao))
theorem YB.o {a b c d}(e:YB.v a b c d):YB.c a b c d:=Wa Tryz.func166 (x:=YB.h) (R0 e)
def Yw.h:Hn:=.q .o2 (.q .o8 (.q (.q .o2 (.c (.q .o3 .l) .l)) (.q (.oq 15) .l)))
def Yw.v (a:R2)(b:Int)(c:Hp)(d:Int->Int->Hp->Prop):Prop:=XE.c a b c λe f g=>If (f != 0) (d 0 f g) (bE e 1 g λi=>bF a 0 g λk=>Ix k.a k.len b 3 λl=>aQ l 2 g λm=>d (if m<i then m else i) 0 g)
theorem Yw.o {a b c d}(e:Yw.v a b c d):Yw.c a b c d:=Wa Tryz.func168 (x:=Yw.h) (R0 e)
def Yo.h:Hn:=.q .o1 (.q .o8 (.q (.q .o2 .aJ) (.q .o3 (.q .o2 (.q .o4 .l)))))
def Yo.v (a:R2)(b:Int)(c:Sl)(d:Hp)(e:aN):Prop:=XE.c a b d λf g h=>If (g != 0) (e g h) (W4.c c h λi j=>Xj.c i j λk=>Xl.c f i k λl m=>e l m)
theorem Yo.o {a b c d e}(f:Yo.v a b c d e):Yo.c a b c d e:=Wa Tryz.func173 (x:=Yo.h) (R0 f)
def YY.h:Hn:=.q .o2 (.q .o8 (.q (.q .o2 (.c (.q .o3 .l) .l)) (.q (.q .o5 (.q .o2 (.c (.q .o3 .l) .l))) (.q (.q (.oq 10) .aJ) (.q .o9 (.kE [] (.q .o6 (.c .o8 .l)) (.q (.o 11) .l)))))))
def YY.v (a:R2)(b c:Int)(d:Hp)(e:Sl->Int->Hp->Prop):Prop:=XE.c a b d λf g h=>If (g != 0) (e ⟨none,0,0⟩ g h) (aV #[.I c] 3 h λi j=>Xl.c f ⟨some i,1,1⟩ j λk l=>If (k != 0) (e ⟨none,0,0⟩ k l) (bF f 0 l λn=>bE f 1 l λp=>If (((n.len:Nat):Int)<=p) (e ⟨none,0,0⟩ 0 l) (bF a 0 l λr=>Ix r.a r.len b 3 λs=>aQ s 2 l λt=>Jn [] (λu=>bF f 0 u λw=>Xu.c f (if((w.len:Nat):Int)<t then((w.len:Nat):Int)else t) u λx y=>e x 0 y) λz=>bE f 1 l λab=>If (ab<t) (bE f 1 l λad=>bM (ad+1) λae=>bW f λaf=>aR af 1 (.I ae) l λag=>z ag) (z l))))
theorem YY.o {a b c d e}(f:YY.v a b c d e):YY.c a b c d e:=Wa Tryz.func176 (x:=YY.h) (R0 f)
def YA.h:Hn:=.q .o1 (.q (.cU (.gK false [] [(2,.one .b)] (.take 0 (.all [(1,.take 2 (.split 5 (.tk [3,5,6,7] (.all [(4,.all [(8,.tk [9,10,11] (.done))]),(8,.all [(4,.tk [9,10,11] (.done))])])) (.tk [3,4,5,6,7,8,9,10,11] (.done))))])))) .l)
def YA.v (a:R2)(b:Hp)(c:aO):Prop:=Jn [.b] (λ(d:Bool) e=>c d e) λf=>Xw.c a b λg h=>If g (bW a λi=>(X2.c a h λj k=>aQ i 1 k λl=>f (decide (j>l)) k) ∧ (aQ i 1 h λm=>X2.c a h λn o=>f (decide (n>m)) o)) (f false h)
theorem YA.o {a b c}(d:YA.v a b c):YA.c a b c:=Wa Tryz.func177 (x:=YA.h) (R0 d)
def Xo.h:Hn:=.q .o1 (.q .o3 .l)
def Xo.v (a:R2)(b:Hp)(c:Sl->Hp->Prop):Prop:=XC.c a ⟨241,#[],#[]⟩ b λd e=>c d e
theorem Xo.o {a b c}(d:Xo.v a b c):Xo.c a b c:=Wa Tryz.func178 (x:=Xo.h) (R0 d)
def X5.h:Hn:=.q .o1 (.q .o3 .l)
def X5.v (a:R2)(b:Hp)(c:Sl->Hp->Prop):Prop:=XC.c a ⟨243,#[],#[]⟩ b λd e=>c d e
theorem X5.o {a b c}(d:X5.v a b c):X5.c a b c:=Wa Tryz.func183 (x:=X5.h) (R0 d)
def XE.h:Hn:=.q .o2 (.q (.q .o3 .aJ) (.q .o4 (.q (.q .o2 .aJ) (.q .o3 .l))))
def XE.v (a:R2)(b:Int)(c:Hp)(d:Option Addr->Int->Hp->Prop):Prop:=Xw.c a c λe f=>If (!e) (d none 5 f) (ZT.c a b f λg h=>If g.isNone (d none 1 h) (d g 0 h))
theorem XE.o {a b c d}(e:XE.v a b c d):XE.c a b c d:=Wa Tryz.func229 (x:=XE.h) (R0 e)
def Xl.h:Hn:=.q .o1 (.q (.q .o9 .aK) (.q (.o 11) .aM))
def Xl.v (a:R2)(b:Sl)(c:Hp)(d:aN):Prop:=bF a 0 c λf=>bM (((f.len:Nat):Int)+((b.len:Nat):Int)) λg=>If (g>256) (d 6 c) (bF a 0 c λi=>XD.c i c λj k=>App j 1 8 3 [.I 0] b k λl m=>bW a λn=>aR n 0 (.slice l.a l.len l.cap) m λo=>d 0 o)
theorem Xl.o {a b c d}(e:Xl.v a b c d):Xl.c a b c d:=Wa Tryz.func237 (x:=Xl.h) (R0 e)
def Xu.h:Hn:=.q .o1 (.q .o8 (.q (.o 11) (.q (.cU (.tail 13 (RI.ops 13) [.op])) .aL)))
def Xu.v (a:R2)(b:Int)(c:Hp)(d:Sl->Hp->Prop):Prop:=bF a 0 c λf=>fF f 1 0 b (f.cap:Nat) λg=>W4.c g c λh i=>bF a 0 i λk=>fF k 1 b (k.len:Nat) (k.cap:Nat) λl=>W4.c l i λm n=>bW a λo=>aR o 0 (.slice m.a m.len m.cap) n λp=>bE a 2 p λr=>bF a 0 p λt=>bW a λu=>aR u 2 (.I (if((t.len:Nat):Int)<r then((t.len:Nat):Int)else r)) p λv=>d h v
theorem Xu.o {a b c d}(e:Xu.v a b c d):Xu.c a b c d:=Wa Tryz.func239 (x:=Xu.h) (R0 e)
def XC.h:Hn:=.q .o1 (.q (.q .o3 .aK) (.q .o1 (.q (.q .o5 (.k (.loop [(5,.one .s)] (.q (.cU (.seq [.it .i64 .p,.op])) (.q (.c .l .l) (.k (.q (.cU (.seq [.it .i64 .p,.op,.op,.op,.op])) (.q (.o 12) (.q .o3 (.c .o7 .l)))))))))) (.q .o2 .aL))))
def XC.v (a:R2)(b:Fv)(c:Hp)(d:Sl->Hp->Prop):Prop:=Xw.c a c λe f=>If (!e) (d ⟨none,0,0⟩ f) (bJ a 2 f λh=>pD .i64 .p h f λi j=>XS [.s] (λk=>k ⟨none,0,0⟩ j) λl (m:Sl) n=>p7 .i64 .p i n (QA.c m ⟨298,#[],#[]⟩ n λo=>d m o) (λp q r=>pj .i64 .p i r λs t=>bF a 0 r λv=>Ix v.a v.len s 3 λw=>aQ w 2 r λx=>VQ Tryz.prog b [.pointer t,.I x] [.one .s] r λy z=>If (((y.len:Nat):Int)>0) (aV #[.I s,.slice y.a y.len y.cap] 147 z λaa ab=>App m 2 32 147 [.I 0,.slice none 0 0] ⟨some aa,1,1⟩ ab λac ad=>l ac ad) (l m z)))
theorem XC.o {a b c d}(e:XC.v a b c d):XC.c a b c d:=Wa Tryz.func240 (x:=XC.h) (R0 e)
def XM.h:Hn:=.q .o1 (.q .o9 (.kE [] (.q .o6 (.c (.o 12) .l)) (.q .o9 .aL)))
def XM.v (a:R2)(b:Int)(c:Hp)(d:Sl->Hp->Prop):Prop:=bE a 2 c λf=>bM (f+1) λg=>Nz 2<|bM (g.tdiv 2) λh=>Xu.c a h c λi j=>Jn [] (λk=>bF a 0 k λm=>bW a λn=>aR n 2 (.I ((m.len:Nat):Int)) k λo=>d i o) λp=>bE a 1 j λr=>If (r>b) (bE a 1 j λt=>bM (t-b) λu=>bW a λv=>aR v 1 (.I (if b>u then b else u)) j λw=>p w) (p j)
theorem XM.o {a b c d}(e:XM.v a b c d):XM.c a b c d:=Wa Tryz.func241 (x:=XM.h) (R0 e)
def YQ.h:Hn:=.q .o1 (.q .o8 .l)
def YQ.v (a:R2)(b:Int)(c:Hp)(d:Sl->Hp->Prop):Prop:=bF a 0 c λf=>Xu.c a ((f.len:Nat):Int) c λg h=>d g h
theorem YQ.o {a b c d}(e:YQ.v a b c d):YQ.c a b c d:=Wa Tryz.func243 (x:=YQ.h) (R0 e)
def ZT.h:Hn:=.q .o1 (.q (.q (.cU (.seq [.op,.op,.op,.op,.cY false 2 [.op,.op],.op,.cY false 7 (RI.ops 7)])) .aK) (.kE [] (.q .o7 (.c .o8 .l)) (.q .o7 .l)))
def ZT.v (a:R2)(b:Int)(c:Hp)(d:Option Addr->Hp->Prop):Prop:=Xw.c a c λe f=>bX (λg h=>bX (λi j=>If i (d none j) (Jn [] (λk=>bJ a 2 k λm=>Lk .i64 .p m b k λn=>d (n.getD none) k) λo=>bW a λp=>bC p 2 j λq=>Lk .i64 .p q b j λr=>If ((r.getD none).isNone) (bJ a 2 j λt=>aV #[.slice none 0 0,.I 1,.I 0] 191 j λu v=>kH .i64 .p t b (some u) v λw=>o w) (o j))) λx=>If g (x true h) (bF a 0 h λz=>x (decide (b≥((z.len:Nat):Int))) h)) λaa=>If (!e) (aa true f) (aa (decide (b<0)) f)
theorem ZT.o {a b c d}(e:ZT.v a b c d):ZT.c a b c d:=Wa Tryz.func281 (x:=ZT.h) (R0 e)
end Go.Proofs
namespace Go.Ar
open Go Go.Vc Go.Proofs
theorem cV.sub {U:Hp}{F:Rg}{s:Sl}{sz:Nat}{xs:List Value}(h:cV s sz xs U F){lo hi mx:Nat}(h1:lo<=hi)(h2:hi<=s.len)(h3:hi<=mx) :
 cV ⟨if mx=lo then s.a else s.a.map (·.add (lo*sz)),hi-lo,mx-lo⟩ sz ((xs.drop (lo*sz)).take ((hi-lo)*sz)) U F:=by
 have g:=h.1;have e1:hi*sz<=s.len*sz:=mA _ h2;have e2:(hi-lo)*sz=hi*sz-lo*sz:=Nat.sub_mul _ _ _;have i:lo*sz<=hi*sz:=mA _ h1;refine⟨by rw[zY,kg];simp only;omega,?_⟩;by_cases hm:mx=lo
 ·left;have:hi-lo=0:=by omega
  rw[this,uW,wm]
 ·rcases h.2 with h0|⟨b,o,cs,hb,ha,hq,hc⟩
  ·left;subst h0;simp
  ·refine .inr ⟨b,o+lo*sz,cs,hb,?_,hq,λj d=>?_⟩
   ·simp only[zB hm,ha,ze,add_lit]
   ·rw[zY,kg]at d;rw[xT,hc _ O,zm,lu,zC O]
inductive uv where
 | hd|dI|mp
 | li (k:Nat)
 deriving DecidableEq
structure gU where
 p:Nat
 m:Nat
 dI:Sl
 ps:List (Nat×Nat)
def jf (ps:List (Nat×Nat))(k:Nat):Option Nat:=(ps.find? λx=>x.1==k).map (·.2)
def jX (ps:List (Nat×Nat)):List (Int×Option Addr):=ps.map λx=>((x.1:Int),some ⟨x.2,0,none⟩)
def m4 (s:Sl)(l:Li):List Value:=[.slice s.a s.len s.cap,.int .i64 (l.lim:Int),.int .i64 (l.low:Int)]
def je (b:Nat)(l:Li):Hp->Rg->Prop:=λU F=>F b/\fP l/\∃s:Sl,bY U b (m4 s l)/\cV s 1 (Wu l.os) U (λq=>F q/\q≠b)/\s.len<=s.cap
def pI (b:Option Nat)(l:Option Li):Hp->Rg->Prop:=λU F=>match b,l with
 | some b,some l=>je b l U F
 | none,some l=>l=iq
 | _,none=>True
def Bo (Y:gU)(bud:Nat):List Value:=[.slice Y.dI.a Y.dI.len Y.dI.cap,.int .i64 (bud:Int),.map (some Y.m)]
def CC (tb:List cA)(bud:Nat)(ls:List Li)(Y:gU):uv->Hp->Rg->Prop
 | .hd=>iC Y.p (Bo Y bud)
 | .dI=>cV Y.dI 3 (gJ tb)
 | .mp=>jM Y.m .i64 .p (jX Y.ps)
 | .li k=>pI (jf Y.ps k) ls[k]?
theorem je.loc (b:Nat)(l:Li):dO (je b l):=by
 rintro U y F G ⟨p,w,s,g,x,r⟩ m a;have i:=a b g.lt p;obtain⟨e,u⟩:=g;exact⟨i.1,w,s,⟨e,i.2.trans u⟩,cV.loc _ _ _ _ _ _ _ x m λq j d=>⟨⟨(a q j d.1).1,d.2⟩,(a q j d.1).2⟩,r⟩
theorem pI.loc (b:Option Nat)(l:Option Li):dO (pI b l):=by
 intro U σ' F G h hz hs;unfold pI at *;split at h
 ·exact je.loc _ _ _ _ _ _ h hz hs
 ·exact h
 ·trivial
theorem CC.loc {tb:List cA}{bud:Nat}{ls:List Li}{Y:gU}:∀i,dO (CC tb bud ls Y i)
 | .hd=>iC.loc _ _
 | .dI=>cV.loc _ _ _
 | .mp=>jM.loc _ _ _ _
 | .li k=>pI.loc _ _
structure eI (U:Hp) (F:Rg) (Y:gU) (tb:List cA) (bud:Nat) (ls:List Li):Prop where
 nD:tb.length<=40
 ok:∀c∈tb,c.ok
 len:ls.length=tb.length
 keys:∀x∈Y.ps,x.1<tb.length
 sep:Sep (CC tb bud ls Y) U F
variable {U:Hp}{F G:Rg}{Y:gU}{tb:List cA}{bud:Nat}{ls:List Li}{b k:Nat}{l:Li}
theorem eI.loc:dO λU F=>eI U F Y tb bud ls:=λU d F G h a b=>⟨h.nD,h.ok,h.len,h.keys,Sep.loc CC.loc _ _ _ _ h.sep a b⟩
theorem eI.bP {σ':Hp}(h:eI U F Y tb bud ls)(e:aF U σ'):eI σ' F Y tb bud ls:=dO.bP eI.loc h e
theorem eI.hd (h:eI U F Y tb bud ls):bY U Y.p (Bo Y bud):=by
 obtain⟨G,b,a⟩:=h.sep.get .hd;exact a.2
theorem eI.jK (h:eI U F Y tb bud ls):cV Y.dI 3 (gJ tb) U F:=by
 obtain⟨G,d,a⟩:=h.sep.get .dI;exact aH.mono a λb _ a=>d b a
theorem eI.pE (h:eI U F Y tb bud ls):Y.dI.len=tb.length:=by
 have:=h.jK.1;rw[Uq]at this;omega
theorem eI.map (h:eI U F Y tb bud ls):dM U Y.m .i64 .p (jX Y.ps):=by
 obtain⟨G,b,a⟩:=h.sep.get .mp;exact a.2
theorem CX (ps:List (Nat×Nat))(k:Nat):bU (α:=Option Addr) (jX ps) (k:Int)=(jf ps k).map λb=>some ⟨b,0,none⟩:=by
 induction ps with
 | nil=>rfl
 | cons x l ih=>
  simp only[bU,jX,jf,zR,vR]at *;have e:(((x.1:Nat):Int)==(k:Int))=(x.1==k):=l8 _ _;rw[e];cases x.1==k
  ·exact ih
  ·rfl
theorem Ir {ps:List (Nat×Nat)}(h:jf ps k=none):∀x∈ps,x.1≠k:=by
 unfold jf at h;simp only[tj,oB,zU]at h;exact h
theorem SZ {ps:List (Nat×Nat)}(h:jf ps k=none)(b:Nat):dA (α:=Option Addr) (jX ps) (k:Int) (some ⟨b,0,none⟩)=jX (ps++[(k,b)]):=by
 unfold dA;rw[zB]
 ·simp[jX]
 ·simp only[jX,List.any_map,zy,Function.comp,zU,not_exists,not_and];intro x hx e;exact Ir h x hx O
theorem Hg {ps:List (Nat×Nat)}(h:jf ps k=none)(b j:Nat):jf (ps++[(k,b)]) j=if j=k then some b else jf ps j:=by
 have a:=Ir h;unfold jf at *;rw[List.find?_append];by_cases hj:j=k
 ·subst hj;have:ps.find? (λx=>x.1==j)=none:=by simpa using h
  rw[this];simp
 ·rw[zB hj];cases hf:ps.find? (λx=>x.1==j)with
  | none=>
   have:(k==j)=false:=by simpa using λe=>hj e.symm
   simp[this]
  | some x=>simp
theorem Jx {ps:List (Nat×Nat)}(hn:((jX ps).map (·.1)).Nodup)(h:(k,b)∈ps):jf ps k=some b:=by
 induction ps with
 | nil=>simp at h
 | cons x l ih=>
  simp only[jX,zR,zr]at hn;unfold jf;rw[vR];rcases zW.1 h with rfl|h
  ·simp
  ·have:(x.1==k)=false:=by
    have:x.1≠k:=λe=>hn.1 (zE.2 ⟨(((k:Nat):Int),some ⟨b,0,none⟩),zE.2 ⟨(k,b),h,rfl⟩,by rw[e]⟩);simpa using this
   rw[this];exact ih hn.2 h
theorem HP (h:eI U F Y tb bud ls){R:aO}(hR:R true U):Xw.c (aW Y.p) U R:=by
 refine Xw.o ?_;unfold Xw.v;exact bX.intro (cF rfl (bL (h.hd.rM rfl hR)))
theorem eI.xf (h:eI U F Y tb bud ls)(hb:jf Y.ps k=some b)(hl:ls[k]?=some l):∃G:Rg,(∀q,G q->F q)/\je b l U G/\¬G Y.m ∧
 ∀(σ':Hp) (l':Li) (G':Rg),Ext G U σ'->(∀q,G' q->Grow G U q)->je b l' σ' G'->Ext F U σ'/\eI σ' (λq=>F q/\q<U.size/\¬G q\/G' q) Y tb bud (ls.set k l'):=by
 have g:=(cX.1 hl).1;obtain⟨G,r,hi,a,d⟩:=h.sep.j7 CC.loc (.li k);have hi:je b l U G:=by
  simp only[CC,pI,hb,hl]at hi;exact hi
 have p:¬G Y.m:=by
  obtain⟨H,_,hd,i⟩:=a .mp (by intro e;cases e);exact hd _ i.1
 refine⟨G,r,hi,p,λσ' l' G' e w u=>⟨e.sub r,h.nD,h.ok,by rw[oS];exact h.len,h.keys,?_⟩⟩;refine d σ' (CC tb bud (ls.set k l') Y) G' (λj s=>?_) e w ?_ (CC.loc _)
 ·cases j<;>try rfl
  rename_i m;have p:m≠k:=λe=>s (by rw[e]);simp only[CC,zh (Ne.symm p)]
 ·simp only[CC,pI,hb,zO g];exact u
theorem eI.mono (h:eI U F Y tb bud ls)(hs:∀q,q<U.size->F q->G q):eI U G Y tb bud ls:=dO.mono eI.loc h hs
theorem eI.cut (h:eI U F Y tb bud ls):eI U (Cut F U) Y tb bud ls:=dO.cut eI.loc h
theorem eI.fA {v:Hp}(h:eI v (Grow F U) Y tb bud ls)(e0:Ext F U v)(hb:jf Y.ps k=some b)(hl:ls[k]?=some l):∃G:Rg,je b l v G ∧
 ∀(σ':Hp) (l':Li) (G':Rg),Ext G v σ'->(∀q,G' q->Grow G v q)->je b l' σ' G'->Ext F U σ'/\eI σ' (Grow F U) Y tb bud (ls.set k l'):=by
 obtain⟨G,m,j,_,a⟩:=h.xf hb hl;refine⟨G,j,λσ' l' G' e i g=>?_⟩;obtain⟨e1,p⟩:=a σ' l' G' e i g;refine⟨e0.jC e1,p.mono λq _ d=>?_⟩;have:=e0.1;rcases d with d|d
 ·exact d.1
 ·rcases i q d with h2|h2
  ·exact m q h2
  ·exact .inr O
theorem Ou (h:eI U F Y tb bud ls)(hk:k<tb.length){R:Option Addr->Hp->Prop}(hR:∀σ' Y' b,Ext F U σ'->Y'.p=Y.p->jf Y'.ps k=some b->eI σ' (Grow F U) Y' tb bud ls->R (some ⟨b,0,none⟩) σ') :
 ZT.c (aW Y.p) (k:Int) U R:=by
 refine ZT.o ?_;unfold ZT.v;have w:k<ls.length:=by rw[h.len];exact hk
 have E:ls[k]?=some ls[k]:=cW w;generalize ls[k]=l at E;have M:=h.pE;refine HP h (bX.intro (cD rfl ?_));refine bX.intro (gg O (bL (h.hd.rS rfl ?_)));refine gg aC ?_;refine Jn.intro (bL (h.hd.rM rfl ⟨_,h.map,?_⟩));rw[CX];cases hf:jf Y.ps k with
 | some b=>
  refine cD rfl (bL (h.hd.rM rfl ⟨_,h.map,?_⟩));rw[CX,hf];exact hR U Y b (Ext.refl _ _) rfl hf (h.mono λq _ a=>.inl a)
 | none=>
  refine cF rfl (bL (h.hd.rM rfl (nw (cs:=[.slice none 0 0,.int .i64 1,.int .i64 0]) λv Q e B=>?_)));obtain⟨G,H,i,P,hd,hi,u,r⟩:=h.cut.sep.qe CC.loc .mp (.li k) (by intro e;cases e);have L:∀q,G q->F q:=λq a=>(i q a).1;have hi:jM Y.m .i64 .p (jX Y.ps) U G:=hi;have u:l=iq:=by
   simp only[CC,pI,hf,E]at u;exact u
  have J:=hi.2.lt;have A:dM v Y.m .i64 .p (jX Y.ps):=e.fV hi.2 id;refine⟨Y.m,_,rfl,A,λv2 C s=>?_⟩;rw[SZ hf]at s;have e2:Ext F U v2:=(aF.to e).only C (.inl (L _ hi.1));have D:Ext (λq=>G q\/H q) U v2:=(aF.to e).only C (.inl (.inl hi.1));have y:bY v2 U.size [.slice none 0 0,.int .i64 1,.int .i64 0]:=WF C B O;have d:eI v2 (Grow F U) {Y with ps:=Y.ps++[(k,U.size)]} tb bud ls:=by
   refine⟨h.nD,h.ok,h.len,λx g=>?_,?_⟩
   ·rcases zM.1 g with g|g
    ·exact h.keys x g
    ·simp only[zN]at g;subst g;exact hk
   refine(Sep.loc CC.loc).mono (r v2 (CC tb bud ls {Y with ps:=Y.ps++[(k,U.size)]}) G (· = U.size) (λj z K=>?_) D (λq a=>.inl (.inl a)) (λq a=>.inr O) (λq z K=>?_) ⟨hi.1,s⟩ ?_ CC.loc) λq _ a=>?_
   ·cases j<;>first|rfl|exact absurd rfl z|skip
    rename_i m;have N:m≠k:=λe=>K (by rw[e]);simp only[CC,Hg hf,zB N]
   ·have:=(i q z).2;omega
   ·simp only[CC,Hg hf,zT,E,u,pI];exact⟨rfl,fP.nil,⟨none,0,0⟩,y,cV.nil _ _ _ _,zD _⟩
   ·rcases a with a|a|a
    ·exact .inl a.1.1
    ·exact .inl (L q a)
    ·exact .inr O
  refine bL (d.hd.rM rfl ⟨_,d.map,?_⟩);rw[CX,Hg hf,zC rfl];exact hR v2 {Y with ps:=Y.ps++[(k,U.size)]} U.size e2 rfl (by show jf (Y.ps++[(k,U.size)]) k=_;rw[Hg hf,zC rfl]) d
theorem yF (h:eI U F Y tb bud ls)(hk:k<tb.length){R:Option Addr->Int->Hp->Prop}(hR:∀σ' Y' b,Ext F U σ'->Y'.p=Y.p->jf Y'.ps k=some b->eI σ' (Grow F U) Y' tb bud ls->R (some ⟨b,0,none⟩) 0 σ') :
 XE.c (aW Y.p) (k:Int) U R:=by
 refine XE.o ?_;unfold XE.v;exact HP h (cD rfl (Ou h hk λσ' Y' b e g a d=>cD rfl (hR σ' Y' b e g a d)))
theorem bT.px {s:Sl}{sz:Nat}{xs:List Value}(h:bT s sz xs U F):s.len<=s.cap:=by
 rcases h.2 with⟨q1,q2⟩|⟨_,_,_,_,_,q,_⟩
 ·omega
 ·exact q
theorem GK (h:je b l U G){m:Nat}(hm:m<=l.os.length){R:Sl->Hp->Prop}
 (hR:∀s z σ',Ext (· = b) U σ'->U.size<=z->bT s 1 (Wu (l.os.take m)) σ' (λq=>U.size<=q/\q<z)->je b (gM m l).2 σ' (λq=>q=b\/z<=q)->R s σ') :
 Xu.c (aW b) (m:Int) U R:=by
 refine Xu.o ?_;unfold Xu.v;obtain⟨Y,d,s,B,J,X⟩:=h;have Q:s.len=l.os.length:=by have:=J.1;simp[Wu]at this;omega
 have E:=d.many;have L:=d.low;have r:=cV.sub J (lo:=0) (hi:=m) (mx:=s.cap) O O O;have e1:((Wu l.os).drop (0*1)).take ((m-0)*1)=Wu (l.os.take m):=by simp[Wu]
 rw[e1]at r;refine bL (B.rS rfl (jm (lo:=0) O aC aC (HE r Uf aC λs1 M N y K=>?_)));have j:=y.bV B id;have F:=aH.bP J y;have u:=cV.sub F (lo:=m) (hi:=s.len) (mx:=s.cap) O O O;have e2:((Wu l.os).drop (m*1)).take ((s.len-m)*1)=Wu (l.os.drop m):=by
  rw[lH (by simp[Wu];omega)];simp[Wu]
 rw[e2]at u;refine bL (j.rS rfl (jm aC aC aC (HE u Uf aC λs2 W H D i=>?_)));have C:=D.bV j id;refine bL (C.s1 (by simp[m4]) λv3 o3 a=>bL (a.rI rfl (bL (a.rS rfl (bL (a.s1 (by simp[m4]) λv4 o4 w=>?_))))));have g:Ext (· = b) W v4:=o3.ext.trans o4.ext;have V:=B.lt;have A:=y.1;have x:s2.len=l.os.length-m:=by rw[H];simp only;omega
 refine hR s1 M.size v4 ((aF.to (y.trans D)).trans g) A ?_ ⟨.inl rfl,AO d,s2,?_,?_,bT.px i⟩
 ·refine aI.bS (aI.bP (aI.mono K (G:=λq=>U.size<=q/\q<M.size) λq p S=>⟨S,p⟩) D) g λq _ p P=>by omega
 ·have:(if((s2.len:Nat):Int)<(l.low:Int)then((s2.len:Nat):Int)else(l.low:Int))=((min l.low (l.os.length-m):Nat):Int):=by rw[x];split<;>omega
  rw[this]at w;exact w
 ·refine aH.mono (aH.bS i.fW g λq _ p P=>O) λq _ p=>⟨.inr p,O⟩
theorem SF (h:je b l U G){sl:Sl}{xs:List Int}{X:Rg}(hs:cV sl 1 (Wu xs) U X)(hx:xs≠[])(hfit:l.os.length+xs.length<=256){R:aN}
 (hR:∀σ',Ext (· = b) U σ'->je b (eL xs l) σ' (λq=>q=b\/U.size<=q)->R 0 σ'):Xl.c (aW b) sl U R:=by
 refine Xl.o ?_;unfold Xl.v;obtain⟨K,r,s,g,d,J⟩:=h;have C:s.len=l.os.length:=by have:=d.1;simp[Wu]at this;omega
 have A:sl.len=xs.length:=by have:=hs.1;simp[Wu]at this;omega
 have y:=pM.2 hx;have z:eL xs l = {l with os:=l.os++xs}:=by unfold eL;rw[zB O]
 refine bL (g.rS rfl (cT (m:=l.os.length+xs.length) aC O (gg O (bL (g.rS rfl ?_)))));refine XD.o ?_;unfold XD.v;refine jm (lo:=0) aC aC aC ?_;have E:=g.lt;refine⟨Wu l.os,Wu xs,by simp[Wu];omega,by simp[Wu];omega,?_,hs.rd,Uf,?_,by simp only;omega,λw=>by simp only at w;omega,λx c u=>?_⟩
 ·by_cases h0:s.len=0
  ·have:l.os=[]:=D5.1 O;rw[this];simp only[h0,zT];cases s.a<;>simp[Rd,Wu]
  ·simp only[zB h0,uW];have:=d.rd;cases ha:s.a with
   | none=>rw[ha]at this;simpa[Rd]using this
   | some a=>rw[ha]at this;simpa[Rd,Addr.add_zero']using this
 ·simp only;have:(s.len-0+sl.len)*8<=256*8:=my O O;omega
 ·refine nw λv H e p=>bL ((e.bV g id).s1 (by simp[m4]) λF o2 i=>?_);have B:l.os.length+xs.length<=c:=by simp only at u;omega
  refine hR F ((aF.to e).trans o2.ext) ?_;rw[z];have:=yL (xs:=xs) r;rw[z]at this;refine⟨.inl rfl,this,⟨some ⟨U.size,0,none⟩,s.len-0+sl.len,c⟩,i,⟨by simp[Wu];omega,.inr ⟨U.size,0,_,⟨.inr (zD _),O⟩,rfl,(WF o2 p O).q,λj D=>?_⟩⟩,by simp only;omega⟩;simp only[Wu,zk,zK]at D;rw[zH,zl,←zl,zd (by simp[Wu];omega)];simp[Wu]
theorem OF (h:je b l U G){sl:Sl}{xs:List Int}{X:Rg}(hs:cV sl 1 (Wu xs) U X)(hfit:¬l.os.length+xs.length<=256)(hxs:xs.length<=1000000){R:aN}
 (hR:R 6 U):Xl.c (aW b) sl U R:=by
 refine Xl.o ?_;unfold Xl.v;obtain⟨r,d,s,g,a,p⟩:=h;have i:s.len=l.os.length:=by have:=a.1;simp[Wu]at this;omega
 have j:sl.len=xs.length:=by have:=hs.1;simp[Wu]at this;omega
 have:=d.many;exact bL (g.rS rfl (cT (m:=l.os.length+xs.length) aC O (l6 O hR)))
end Go.Ar
namespace Go.Ar
open Go Go.Vc Go.Proofs
variable {U:Hp}{F G:Rg}{Y:gU}{tb:List cA}{bud:Nat}{ls:List Li}{b k:Nat}{l:Li}{c:cA}
theorem eI.cls (h:eI U F Y tb bud ls)(hc:tb[k]?=some c):c.ok/\k<tb.length:=⟨h.ok c (zG hc),(cX.1 hc).1⟩
theorem je.st {v:Hp}(h:je b l U G){s:Sl}{l':Li}(ho:Ext (· = b) U v)(hb:bY v b (m4 s l'))(hs:cV s 1 (Wu l'.os) U (λq=>G q/\q≠b))(hc:s.len<=s.cap)(ok:fP l'):je b l' v G:=
 ⟨h.1,ok,s,hb,aH.bS hs ho λq _ d a=>d.2 a,hc⟩
theorem lA (h:eI U F Y tb bud ls)(hc:tb[k]?=some c)(hl:ls[k]?=some l){R:Int->Int->Hp->Prop}
 (hR:∀σ' Y',Ext F U σ'->Y'.p=Y.p->eI σ' (Grow F U) Y' tb bud (ls.set k (KN c l).2)->R ((KN c l).1.getD 0) (if(KN c l).1.isSome then 0 else 4) σ'):YB.c (aW Y.p) (k:Int) U R:=by
 obtain⟨u,hk⟩:=h.cls hc;refine YB.o ?_;unfold YB.v;refine yF h hk λv Y' b e Z hb V=>cD rfl ?_;obtain⟨G,hL,K⟩:=V.fA e hb hl;have y:=hL;obtain⟨X,i,s,g,M,r⟩:=hL;have E:=V.hd;rw[Z]at E;have P:s.len=l.os.length:=by have:=M.1;simp[Wu]at this;omega
 have o1:=i.low;have o2:=i.many;have o3:=i.lim;have o4:=i.nF;have a:=FY u i;have fin:∀v' G',Ext G v v'->(∀q,G' q->Grow G v q)->je b (KN c l).2 v' G'->R ((KN c l).1.getD 0) (if(KN c l).1.isSome then 0 else 4) v':=λv' G' Q hg W=>by
  obtain⟨e2,h2⟩:=K v' _ G' Q hg W;exact hR v' Y' e2 Z h2
 unfold cA.ok at u;have B:∀{v':Hp},Ext (· = b) v v'->Ext G v v':=λQ=>Q.sub λq A=>by rw[A];exact X
 refine bL (g.rS rfl ?_);by_cases h0:l.os=[]
 ·have e1:(KN c l).1=none:=by unfold KN;rw[h0];rfl
  have e2:(KN c l).2=if l.lim<c.batch then{l with lim:=l.lim+1}else{l with lim:=min (l.lim+c.batch) 128}:=by unfold KN;rw[h0];rfl
  rw[e1,e2]at fin;rw[e2]at a;refine cF (by simp[P,h0]) (bL (E.rS rfl (ux V.jK hc (d:=2) O ?_)));simp only[zB (show ¬(2=0) by omega),zB (show ¬(2=1) by omega)];refine bL (g.rI rfl (cN (λc1=>?_) λc1=>?_))
  ·have z:l.lim<c.batch:=by omega
   rw[zC z]at fin a;refine bL (g.rI rfl (cT (m:=l.lim+1) O O (bL (g.s1 (by simp[m4]) λv' L j=>?_))));exact fin v' G (B L.ext) (λq A=>.inl A) (y.st L.ext j M r a)
  ·have z:¬l.lim<c.batch:=by omega
   rw[zB z]at fin a;refine bL (g.rI rfl (cT (m:=l.lim+c.batch) O O (bL (g.s1 (by simp[m4]) λv' L j=>?_))));refine fin v' G (B L.ext) (λq A=>.inl A) (y.st L.ext ?_ M r a);have:(if(128:Int)<((l.lim+c.batch:Nat):Int)then(128:Int)else((l.lim+c.batch:Nat):Int))=((min (l.lim+c.batch) 128:Nat):Int):=by split<;>omega
   rw[this]at j;exact j
 ·have aa:=pM.2 h0;obtain⟨x,hx⟩:∃x,l.os[l.os.length-1]?=some x:=⟨_,cW O⟩;have D:l.os.getLast?=some x:=by rw[List.getLast?_eq_getElem?];exact hx
  have e1:(KN c l).1=some x:=by unfold KN;rw[D]
  have e2:(KN c l).2 = {l with os:=l.os.dropLast,low:=min l.low (l.os.length-1)}:=by unfold KN;rw[D]
  rw[e1,e2]at fin;rw[e2]at a;refine cD (by simp only[mI];omega) ?_;refine bL (g.rS rfl (cT (m:=l.os.length-1) aC O (bL (g.rS rfl (M.ma hx (bL (g.rS rfl ?_)))))));have w:=cV.sub M (lo:=0) (hi:=l.os.length-1) (mx:=s.cap) O O O;have ed:((Wu l.os).drop (0*1)).take ((l.os.length-1-0)*1)=Wu l.os.dropLast:=by simp[Wu,yE]
  rw[ed]at w;refine jm (lo:=0) O aC aC (bL (g.s1 (by simp[m4]) λv1 N J=>bL (J.rI rfl (bL (J.s1 (by simp[m4]) λv2 S H=>?_)))));have C:=N.ext.trans S.ext;refine fin v2 G (B C) (λq A=>.inl A) (y.st C ?_ w aC a);have:(if((l.os.length-1:Nat):Int)<(l.low:Int)then((l.os.length-1:Nat):Int)else(l.low:Int))=((min l.low (l.os.length-1):Nat):Int):=by split<;>omega
  rw[this]at H;exact H
theorem MC (h:eI U F Y tb bud ls)(hc:tb[k]?=some c)(hl:ls[k]?=some l){R:Int->Int->Hp->Prop}
 (hR:∀σ' Y',Ext F U σ'->Y'.p=Y.p->eI σ' (Grow F U) Y' tb bud ls->R ((pf c l:Nat):Int) 0 σ'):Yw.c (aW Y.p) (k:Int) U R:=by
 obtain⟨u,x⟩:=h.cls hc;refine Yw.o ?_;unfold Yw.v;refine yF h x λv Y' b e j w g=>cD rfl ?_;obtain⟨G,y,m⟩:=g.fA e w hl;obtain⟨z,A,s,i,B,r⟩:=y;have a:=g.hd;rw[j]at a;refine bL (i.rI rfl (bL (a.rS rfl (ux g.jK hc (d:=2) O ?_))));simp only[zB (show ¬(2=0) by omega),zB (show ¬(2=1) by omega)];have:(if(c.batch:Int)<(l.lim:Int)then(c.batch:Int)else(l.lim:Int))=((pf c l:Nat):Int):=by unfold pf;split<;>omega
 rw[this];exact hR v Y' e j g
theorem M9 (l:List Int)(i:Nat)(h:i<l.length):l.reverse[i]?=l[l.length-1-i]? := by
 rw[List.getElem?_reverse h]
theorem Rb {s:Sl}{xs:List Int}(h:bT s 1 (Wu xs) U F)(hlen:xs.length<=1000000){R:aP}(hR:∀σ',Ext F U σ'->bT s 1 (Wu xs.reverse) σ' F->R σ'):Xj.c s U R:=by
 refine Xj.o ?_;unfold Xj.v;have N:s.len=xs.length:=by have:=h.1;simp[Wu]at this;omega
 let jj (i:Nat):List Int:=(List.range xs.length).map λj=>if j<i\/xs.length-i<=j then xs.getD (xs.length-1-j) 0 else xs.getD j 0
 have ly:∀i,(jj i).length=xs.length:=λi=>by simp[jj]
 have bU:∀i j,j<xs.length->(jj i)[j]?=some (if j<i\/xs.length-i<=j then xs.getD (xs.length-1-j) 0 else xs.getD j 0):=λi j g=>by simp[jj,g]
 have M:jj 0=xs:=by
  apply zt;intro j;by_cases g:j<xs.length
  ·rw[bU 0 j g,zB O];simp[zQ,cW g]
  ·rw[zX (by rw[ly];omega),zX O]
 have z:∀i,xs.length<=2*i+1->i<=xs.length->jj i=xs.reverse:=by
  intro i H J;apply zt;intro j;by_cases g:j<xs.length
  ·rw[bU i j g,M9 xs j g,zQ,zQ,cW (show xs.length-1-j<xs.length by omega),cW g];split
   ·rfl
   ·have:xs.length-1-j=j:=by omega
    simp only[this];rfl
  ·rw[zX (by rw[ly];omega),zX aE]
 have step:∀i,2*i+1<xs.length->((jj i).set i (xs.getD (xs.length-1-i) 0)).set (xs.length-1-i) (xs.getD i 0)=jj (i+1):=by
  intro i hi;apply zt;intro j;by_cases g:j<xs.length
  ·rw[bU (i+1) j g,nI,nI];simp only[oS,ly];by_cases e1:xs.length-1-i=j
   ·subst e1;rw[zC rfl,zC O,zC O]
    congr 2;omega
   ·rw[zB e1];by_cases e2:i=j
    ·subst e2;rw[zC rfl,zC O,zC O]
    ·rw[zB e2,bU i j g];by_cases e3:j<i\/xs.length-i<=j
     ·rw[zC e3,zC O]
     ·rw[zB e3,zB O]
  ·rw[zX (by simp[ly];omega),zX (by rw[ly];omega)]
 refine vY ?_;rw[Ux O O];refine Uo (a:=bO) (bb:=bO) (λ(i j:Int) v=>∃n:Nat,i=(n:Int)/\j=(xs.length:Int)-1-n/\n<=xs.length/\Ext F U v/\bT s 1 (Wu (jj n)) v F) (λi _ _=>xs.length-i.toNat) ⟨0,rfl,O,O,Ext.refl _ _,by rw[M];exact h⟩ ?_;rintro i j v ⟨n,rfl,rfl,W,ev,y⟩;refine cN (λL=>?_) λP=>?_
 ·have A:2*n+1<xs.length:=by omega
  have D:(xs.length:Int)-1-n=((xs.length-1-n:Nat):Int):=by omega
  rw[D];have E:=bU n (xs.length-1-n) O;have C:=bU n n O;rw[zB O]at E C;rw[zQ]at E C;obtain⟨b,r⟩:∃b,s.a=some ⟨b,0,none⟩:=by
   rcases y.2 with⟨q1,q2⟩|⟨b,cs,_,B,_⟩
   ·omega
   ·exact⟨b,B⟩
  have d:∀u,bT s 1 (Wu (jj n)) u F->∀(j:Nat) (x:Int),(jj n)[j]?=some x->cell u (Addr.add ⟨b,0,none⟩ ((j:Int).toNat*1))=some (.int .i64 x):=λu w j x Q=>by
   obtain⟨G,o,B,S⟩:=w.fW.cell (j:=j) (v:=.int .i64 x) (by simp[Wu,Q]);rw[r]at B;cases B;rw[add_lit,show 0+(j:Int).toNat*1=0+j by omega];exact S
  rw[r];refine⟨λu=>bT s 1 (Wu (jj n)) u F,y,?_⟩;refine ix O O ⟨_,λu w=>d u w _ _ E,?_⟩;refine ix O O ⟨_,λu w=>d u w _ _ C,?_⟩;refine ix O O ?_;refine y.st (j:=n) (by simp[Wu,ly];omega) (λG p=>by rw[r]at p;cases p;rw[add_lit];simp) λV e1 H=>?_;refine ix O O ?_;refine H.st (j:=xs.length-1-n) (by simp[Wu,ly];omega) (λG p=>by rw[r]at p;cases p;rw[add_lit];simp) λX e2 J=>?_;refine cT (m:=n+1) O O (cT (m:=xs.length-1-n-1) O O ⟨⟨n+1,rfl,O,O,(ev.trans e1).trans e2,?_⟩,O⟩);rw[←step n A,zQ,zQ];have K:∀(l:List Int) (i:Nat) (x:Int),Wu (l.set i x)=(Wu l).set i (.int .i64 x):=λl i x=>by simp[Wu,wc]
  rw[K,K];exact J
 ·rw[z n O O]at y;exact hR v ev y
theorem Pw (h:je b l U G){sl:Sl}(hz:sl.len=0){R:aN}(hR:∀σ',Ext (· = b) U σ'->je b l σ' G->R 0 σ'):Xl.c (aW b) sl U R:=by
 refine Xl.o ?_;unfold Xl.v;have D:=h;obtain⟨F,j,s,r,p,E⟩:=h;have z:s.len=l.os.length:=by have:=p.1;simp[Wu]at this;omega
 have w:=j.many;refine bL (r.rS rfl (cT (m:=l.os.length) aC O (gg O (bL (r.rS rfl ?_)))));refine XD.o ?_;unfold XD.v;refine jm (lo:=0) aC aC aC ?_;have d:=cV.sub p (lo:=0) (hi:=s.len) (mx:=s.len) O O O;have C:((Wu l.os).drop (0*1)).take ((s.len-0)*1)=Wu l.os:=by rw[z,lH (by simp[Wu])];simp
 rw[C]at d;have key:∀(g:Sl),cV g 1 (Wu l.os) U (λq=>G q/\q≠b)->g.len<=g.cap->bW (some ⟨b,0,none⟩) λA=>dF (A.add 0) (.slice g.a g.len g.cap) U λv2=>R 0 v2:=λg y x=>by
  refine bL (r.s1 (by simp[m4]) λv2 o2 u=>hR v2 o2.ext ?_);exact D.st (l':=l) (s:=g) o2.ext u y x j
 refine⟨Wu l.os,[],by simp[Wu];omega,by simp[hz],d.rd,by cases sl.a<;>simp[Rd],by simp,?_,by simp only;omega,λB=>?_,λi=>absurd (by simp only[hz];omega) i⟩
 ·simp only[hz];have:(s.len-0+0)*8<=256*8:=my O O;omega
 ·simp only[hz,kA];cases ha:(if s.len=0 then s.a else s.a.map (·.add (0*1)))
  ·rw[ha]at d;exact key ⟨none,s.len-0,s.len-0⟩ d (zD _)
  ·rw[ha]at d;exact key ⟨some _,s.len-0,s.len-0⟩ d (zD _)
theorem IC (h:je b l U G){sl:Sl}{xs:List Int}{X:Rg}(hs:cV sl 1 (Wu xs) U X)(hfit:l.os.length+xs.length<=256){R:aN}
 (hR:∀σ',Ext (· = b) U σ'->je b (eL xs l) σ' (Grow G U)->R 0 σ'):Xl.c (aW b) sl U R:=by
 by_cases hx:xs=[]
 ·subst hx;have g:eL [] l=l:=by unfold eL;rw[zB (by simp only[lg]at hfit ⊢;omega)];simp
  refine Pw h (by have:=hs.1;simp[Wu]at this;omega) λσ' e a=>hR σ' e ?_;rw[g];exact(je.loc _ _).mono a λq _ d=>.inl d
 ·exact SF h hs hx hfit λσ' e a=>hR σ' e ((je.loc _ _).mono a λq _ d=>d.imp (λe=>by rw[e];exact h.1) id)
theorem π (h:eI U F Y tb bud ls)(hc:tb[k]?=some c)(hl:ls[k]?=some l){sl:Sl}{xs:List Int}{X:Rg}(hs:cV sl 1 (Wu xs) U X)(hX:∀q,X q->¬F q)(hfit:l.os.length+xs.length<=256){R:aN}
 (hR:∀σ' Y',Ext F U σ'->Y'.p=Y.p->eI σ' (Grow F U) Y' tb bud (ls.set k (eL xs.reverse l))->R 0 σ'):Yo.c (aW Y.p) (k:Int) sl U R:=by
 obtain⟨s,z⟩:=h.cls hc;have D:sl.len=xs.length:=by have:=hs.1;simp[Wu]at this;omega
 refine Yo.o ?_;unfold Yo.v;refine yF h z λv Y' b e A y w=>cD rfl ?_;have i:=aH.bS hs e λq _ a=>hX q a;refine HE i Uf O λs1 H C e1 r=>?_;refine Rb r O λv2 e2 j=>?_;have g:aF v v2:=Ext.fresh e1 e2 λq a=>a;obtain⟨G,u,d⟩:=(w.bP g).fA (e.trans (aF.to g)) y hl;refine IC u j.fW aE λv3 B m=>?_;obtain⟨E,x⟩:=d v3 _ _ (B.sub λq a=>a▸u.1) (λq a=>a) m;exact hR v3 Y' E A x
theorem QR {α:Type}{ls:List α}{k:Nat}{l:α}(h:ls[k]?=some l):ls.set k l=ls:=by
 apply zt;intro j;by_cases hj:j=k
 ·subst hj;rw[zO (cX.1 h).1,h]
 ·rw[zh (Ne.symm hj)]
theorem RO (h:eI U F Y tb bud ls)(hc:tb[k]?=some c)(hl:ls[k]?=some l)(x:Int){R:Sl->Int->Hp->Prop}
 (hR:∀σ' Y' s e (Q:Rg),Ext F U σ'->Y'.p=Y.p->(l.os.length+1<=256->e=0)->(∀q,Q q->U.size<=q)->bT s 1 (Wu (dN c x l).1) σ' Q->eI σ' (λq=>Grow F U q/\¬Q q) Y' tb bud (ls.set k (dN c x l).2)->R s e σ'):YY.c (aW Y.p) (k:Int) x U R:=by
 obtain⟨K,hk⟩:=h.cls hc;refine YY.o ?_;unfold YY.v;refine yF h hk λv Y' b e hp hb h'=>cD rfl ?_;have hσv:=e.1;obtain⟨G,hG,hL,_,W⟩:=h'.xf hb hl;have hblt:b<v.size:=by obtain⟨_,_,s,hbk,_⟩:=hL;exact hbk.lt
 have u:=hL.1;have L:=hL.2.1;have hmany:=L.many;have r:∀(σ':Hp) (l':Li) (G':Rg),Ext G v σ'->(∀q,G' q->Grow G v q)->je b l' σ' G'->Ext F U σ'/\eI σ' (λq=>Grow F U q/\q<v.size/\¬G q\/G' q) Y' tb bud (ls.set k l'):=λσ' l' G' e' hg hL'=>by
  obtain⟨e1,h1⟩:=W σ' l' G' e' hg hL';exact⟨e.jC e1,h1⟩
 have hin:∀{G':Rg} {q:Nat},(∀q,G' q->Grow G v q)->(Grow F U q/\q<v.size/\¬G q\/G' q)->Grow F U q:=λhg a=>by
  rcases a with a|a
  ·exact a.1
  ·rcases hg _ a with H|H
   ·exact hG _ H
   ·exact .inr O
 refine nw (cs:=[.int .i64 x]) λv1 hz1 e1 hb1=>?_;have P:=(je.loc _ _).bP hL e1;have aa:cV ⟨some ⟨v.size,0,none⟩,1,1⟩ 1 (Wu [x]) v1 (· = v.size):=hb1.fW (o:=0) rfl (by simp[Wu]) (λj hj=>by
  simp only[Wu,zR,oW,zS,lg]at hj ⊢;rw[zH])
 by_cases hfit:l.os.length+1<=256
 ·refine IC P aa (by simpa using hfit) λv2 e2 E=>cD rfl ?_;have B:Ext G v v2:=(aF.to e1).trans (e2.sub λq a=>a▸u);have X:∀q,Grow G v1 q->Grow G v q:=λq a=>a.imp id λhx=>by omega
  obtain⟨eF2,H⟩:=r v2 _ _ B X E;have i:(eL [x] l).os=l.os++[x]/\(eL [x] l).lim=l.lim/\(eL [x] l).low=l.low:=by unfold eL;rw[zB (by simp only[zS,lg];omega)];exact⟨rfl,rfl,rfl⟩
  have w:=E;obtain⟨_,ok2,s2,g,hs2,D⟩:=E;have hs2l:s2.len=l.os.length+1:=by have:=hs2.1;simp[Wu,i.1]at this;omega
  refine bL (g.rS rfl (bL (g.rI rfl ?_)));rw[i.2.1];refine cN (λc1=>?_) λc1=>?_
  ·have C:l.os.length+1<=l.lim:=by simp only at c1;omega
   have y:dN c x l=([],eL [x] l):=by unfold dN;rw[zB O,zC C]
   refine hR v2 Y' _ 0 (λ_=>False) eF2 hp (λ_=>rfl) (λq a=>a.elim) (by rw[y];exact bT.nil _ _ _ _) ?_;rw[y];exact H.mono λq _ a=>⟨hin X a,id⟩
  ·have C:¬l.os.length+1<=l.lim:=by simp only at c1;omega
   have y:dN c x l=gM (min c.batch (l.os.length+1)) (mK c (eL [x] l)):=by unfold dN;rw[zB O,zB C]
   have V:=H.hd;rw[hp]at V;refine bL (V.rS rfl (ux H.jK hc (d:=2) O ?_));simp only[zB (show ¬(2=0) by omega),zB (show ¬(2=1) by omega)];refine Jn.intro ?_;have A:∀v3,Ext (· = b) v2 v3->je b (mK c (eL [x] l)) v3 (Grow G v1)->bW (some ⟨b,0,none⟩) λa62=>jH (a62.add 0) v3 λS=>Xu.c (aW b) (if((S.len:Nat):Int)<(c.batch:Int)then((S.len:Nat):Int)else(c.batch:Int)) v3 λt67 v4=>R t67 0 v4:=by
    intro v3 e3 hL3;have J:=hL3;obtain⟨_,ok3,s3,hbk3,hs3,hcap3⟩:=hL3;have Z:(mK c (eL [x] l)).os=l.os++[x]:=by unfold mK;split<;>exact i.1
    have N:s3.len=l.os.length+1:=by have:=hs3.1;simp[Wu,Z]at this;omega
    refine bL (hbk3.rS rfl ?_);have em:(if((s3.len:Nat):Int)<(c.batch:Int)then((s3.len:Nat):Int)else(c.batch:Int))=((min c.batch (l.os.length+1):Nat):Int):=by rw[N];split<;>omega
    rw[em];refine GK J (by rw[Z];simp;omega) λs z v4 e4 hz hr hL4=>?_;have e24:Ext (· = b) v2 v4:=e3.trans e4;have e04:Ext G v v4:=B.trans (e24.sub λq a=>a▸u);have hs23:=e3.1;have hs02:=B.1;obtain⟨eF4,h4⟩:=r v4 _ (λq=>q=b\/z<=q) e04 (λq a=>a.imp (λ(hx:q=b)=>by rw[hx];exact u) λ(hx:z<=q)=>O) hL4;refine hR v4 Y' s 0 (λq=>v3.size<=q/\q<z) eF4 hp (λ_=>rfl) (λq a=>O) (by rw[y];exact hr) ?_;rw[y];refine h4.mono λq _ a=>⟨?_,λhQ=>?_⟩
    ·rcases a with a|a|a
     ·exact a.1
     ·subst a;exact hG _ u
     ·exact .inr O
    ·rcases a with a|a|a<;>omega
   refine bL (g.rI rfl ?_);rw[i.2.1];refine cN (λc2=>?_) λc2=>?_
   ·have c2':l.lim<c.batch:=by omega
    have eu:mK c (eL [x] l) = {eL [x] l with lim:=l.lim+1}:=by unfold mK;rw[i.2.1,zC c2']
    have M:=ER K ok2;refine bL (g.rI rfl ?_);rw[i.2.1];have hl128:=L.lim;refine cT (m:=l.lim+1) O O (bL (g.s1 (by simp[m4]) λv3 o3 hb3=>A v3 o3.ext ?_));rw[eu]at M ⊢;exact w.st o3.ext hb3 hs2 D M
   ·have eu:mK c (eL [x] l)=eL [x] l:=by unfold mK;rw[i.2.1,zB O]
    exact A v2 (Ext.refl _ _) (by rw[eu];exact w)
 ·refine OF P aa (by simpa using hfit) aA (cF rfl ?_);have y:dN c x l=([],l):=by unfold dN;rw[zC O]
  refine hR v1 Y' _ 6 (λ_=>False) (e.trans (aF.to e1)) hp (λhx=>absurd hx hfit) (λq a=>a.elim) (by rw[y];exact bT.nil _ _ _ _) ?_;rw[y,QR hl];exact(h'.bP e1).mono λq _ a=>⟨a,id⟩
end Go.Ar
namespace Go.Ar
open Go Go.Vc Go.Proofs
open Go.Bu (ZG Kj ZD)
variable {U:Hp}{F:Rg}{p hs:Nat}{A:AR}{Y:Lay}{T:Nat->Hp->Rg->Prop}
theorem dK.tW (h:dK U F Y A T){k q:Nat}{c:cA}{ss:List cH}(h1:Y.fM[k]?=some q)(h2:A.tb[k]?=some c)(h3:A.cG[k]?=some ss) :
 ∃G:Rg,(∀b,G b->F b)/\(∃ps,fH U G q c ps ss)/\(∀j,∃H:Rg,(∀b,H b->F b)/\(∀b,H b->¬G b)/\T j U H)/\∀(σ':Hp) (ss':List cH) (ps':List (Nat×Nat)) (G' H:Rg),
  Ext G U σ'->(∀b,G' b->G b\/U.size<=b)->fH σ' G' q c ps' ss'->(∀b,(F b/\b<U.size/\¬G b\/G' b)->H b)->dK σ' H Y {A with cG:=A.cG.set k ss'} T:=by
 obtain⟨G,g,hi,hd,a⟩:=h.step (.cG k);have i:k<A.cG.length:=(cX.1 h3).1;refine⟨G,g,EW h1 h2 h3 hi,λj=>hd (.cQ j) (by intro e;cases e),λσ' ss' ps' G' H e m p d=>?_⟩;refine a σ' _ _ T G' H h.lay.lr h.tl Ι e m ?_ d;simp only[AC];rw[h1,h2,zO i];exact⟨ps',p⟩
theorem WbG (h:dK U F Y A T)(k m:Int){R:Sl->Int->Hp->Prop}(hR:∀s σ',Ext F U σ'->bT s 1 (ints (YC A k m)) σ' (λb=>U.size<=b)->dK σ' (Cut F U) Y (YU A k m) T->R s (Kd A k m) σ') :
 WZ.c (aW Y.p) k m U R:=by
 refine WZ.o ?_;unfold WZ.v;refine UU h k (λj=>?_) λx H u=>?_
 ·have e1:Kd A k m=1:=by unfold Kd;rw[j];rfl
  have e2:YU A k m=A:=by unfold YU;rw[e1];rfl
  have a:YC A k m=[]:=by unfold YC;rw[e1];rfl
  have:=hR ⟨none,0,0⟩ U (Ext.refl _ _) (by rw[a];exact bT.nil _ _ _ _) (by rw[e2];exact h.cut);rw[e1]at this;exact cF rfl this
 ·subst H;have j:A.ck (x:Int)=true:=by unfold AR.ck;simp;omega
  obtain⟨c,ss,q,t,r,C,d,D,_,_,J⟩:=h.at_ u;obtain⟨G,z,⟨K,B⟩,_,g⟩:=h.tW D C d;refine cD rfl (bL (h.hd.rS rfl (h.lZ D ?_)));by_cases hm:m<0
  ·have e1:Kd A x m=1:=by unfold Kd;rw[j,zC rfl,zC hm]
   have e2:YU A x m=A:=by unfold YU;rw[e1];rfl
   have a:YC A x m=[]:=by unfold YC;rw[e1];rfl
   have:=hR ⟨none,0,0⟩ U (Ext.refl _ _) (by rw[a];exact bT.nil _ _ _ _) (by rw[e2];exact h.cut);rw[e1]at this;exact PD B m hm this
  ·have e1:Kd A x m=0:=by unfold Kd;rw[j,zC rfl,zB hm]
   have y:VV A x m=KI c m.toNat ss:=by unfold VV;simp only[dG];rw[C,d]
   have e2:YU A x m = {A with cG:=A.cG.set x (KI c m.toNat ss).2}:=by unfold YU;rw[e1,zC rfl,y];rfl
   have a:YC A x m=(KI c m.toNat ss).1:=by unfold YC;rw[e1,zC rfl,y]
   refine RN B m O λs σ' e i w=>?_;have:=hR s σ' (e.sub z) (by rw[a];exact i) (by rw[e2];exact g σ' _ _ (Cut G U) _ e (λb E=>.inl E.1) w (IP z));rw[e1]at this;exact this
theorem Mt {k:Nat}{f:gO->gO}:∀j,j≠Lb.cQ k->AC {A with cQ:=A.cQ.modify k f} Y (cM {A with cQ:=A.cQ.modify k f} Y) j=AC A Y (cM A Y) j:=by
 intro j hj;cases j<;>first|rfl|skip
 rename_i k';have a:k≠k':=λe=>hj (by rw[e]);simp only[AC,cM];simp[uz,a]
theorem eZ.j6 {k:Nat}{f:gO->gO}(h:eZ A Y):eZ {A with cQ:=A.cQ.modify k f} Y:=⟨h.c,h.t,h.cG,by simpa using h.cQ,h.nD,h.rR,h.n1,h.n2,h.n3,h.st,h.room,h.ok⟩
theorem dK.tQ (h:dK U F Y A (cM A Y)){k q:Nat}{c:cA}{t:gO}(h1:Y.gD[k]?=some q)(h2:A.tb[k]?=some c)(h3:A.cQ[k]?=some t) :
 ∃G:Rg,(∀b,G b->F b)/\iT U G q c.batch A.room t/\∀(σ':Hp) (f:gO->gO) (G' H:Rg),
  Ext G U σ'->(∀b,G' b->G b\/U.size<=b)->iT σ' G' q c.batch A.room (f t)->(∀b,(F b/\b<U.size/\¬G b\/G' b)->H b)->dK σ' H Y {A with cQ:=A.cQ.modify k f} (cM {A with cQ:=A.cQ.modify k f} Y):=by
 obtain⟨G,i,hi,hd,a⟩:=h.step (.cQ k);have d:iT U G q c.batch A.room t:=by
  simp only[AC,cM]at hi;rw[h1,h2,h3]at hi;exact hi
 refine⟨G,i,d,λσ' f G' H e m p g=>?_⟩;refine a σ' _ _ _ G' H h.lay.j6 (λj=>cM.loc j) Mt e m ?_ g;simp only[AC,cM];rw[h1,h2,List.getElem?_modify_eq,h3];exact p
theorem Nc (h:dK U F Y A (cM A Y))(k:Int){R:Sl->Int->Hp->Prop}(hR:∀s σ',Ext F U σ'->(∀b,kS s b->F b)->cV s 1 (Wu (YR A k)) σ' (kS s)->s.len<=s.cap->dK σ' (λb=>F b/\¬kS s b) Y (Z3 A k) (cM (Z3 A k) Y)->R s (QG A k) σ') :
 WU.c (aW Y.p) k U R:=by
 refine WU.o ?_;unfold WU.v;refine UU h k (λB=>?_) λx M C=>?_
 ·have e1:QG A k=1:=by unfold QG;rw[B];rfl
  have e2:Z3 A k=A:=by unfold Z3;rw[e1];rfl
  have u:YR A k=[]:=by unfold YR;rw[e1];rfl
  have:=hR ⟨none,0,0⟩ U (Ext.refl _ _) (λb d=>by obtain⟨a,g,_⟩:=d;cases g) (by rw[u];exact cV.nil _ _ _ _) (zD _) (by rw[e2];exact h.mono λb _ d=>⟨d,λ⟨a,g,_⟩=>by cases g⟩);rw[e1]at this;exact cF rfl this
 ·subst M;have B:A.ck (x:Int)=true:=by unfold AR.ck;simp;omega
  obtain⟨c,Q,q,t,r,N,K,P,z,J,L⟩:=h.at_ C;obtain⟨G,E,H,i⟩:=h.tQ J N z;refine cD rfl (bL (h.hd.rS rfl (h.td J ?_)));by_cases d:t.bs=[]
  ·have e1:QG A x=4:=by unfold QG;rw[B,zC rfl];simp only[dG];rw[z];simp[d]
   have e2:Z3 A x=A:=by unfold Z3;rw[e1];rfl
   have u:YR A x=[]:=by unfold YR;rw[e1];rfl
   have:=hR ⟨none,0,0⟩ U (Ext.refl _ _) (λb d=>by obtain⟨a,g,_⟩:=d;cases g) (by rw[u];exact cV.nil _ _ _ _) (zD _) (by rw[e2];exact h.mono λb _ d=>⟨d,λ⟨a,g,_⟩=>by cases g⟩);rw[e1]at this;exact P8 H d this
  ·have e1:QG A x=0:=by unfold QG;rw[B,zC rfl];simp only[dG];rw[z];simp[d]
   have e2:Z3 A x = {A with cQ:=A.cQ.modify x gO.rem}:=by unfold Z3;rw[e1,zC rfl];rfl
   have u:YR A x=t.bs.getLast?.getD []:=by unfold YR;rw[e1,zC rfl];simp only[dG];rw[z]
   refine NF H d λs σ' e w y j D=>?_;have m:∀b,(F b/\b<U.size/\¬G b\/G b/\¬kS s b)->F b/\¬kS s b:=λb d=>by
    rcases d with d|d
    ·exact⟨d.1,λhi=>d.2.2 (w b hi)⟩
    ·exact⟨E b d.1,d.2⟩
   have:=hR s σ' (e.sub E) (λb d=>E b (w b d)) (by rw[u];exact y) j (by rw[e2];exact i σ' _ (λb=>G b/\¬kS s b) _ e (λb d=>.inl d.1) D m);rw[e1]at this;exact this
theorem OJ (h:dK U F Y A (cM A Y))(k:Int){sl:Sl}{xs:List Int}{X:Rg}(hs:cV sl 1 (Wu xs) U X)(hi:∀x∈xs,iL x){R:Bool->Int->Hp->Prop}(hR:∀σ',Ext F U σ'->dK σ' (Grow F U) Y (KH A k xs) (cM (KH A k xs) Y)->R (VR A k xs) (H9 A k xs) σ') :
 W6.c (aW Y.p) k sl U R:=by
 refine W6.o ?_;unfold W6.v;have u:sl.len=xs.length:=by have:=hs.1;simp[Wu]at this;omega
 have no:∀e:Int,e≠0->H9 A k xs=e->R false e U:=λe he C=>by
  have e3:VR A k xs=false:=by unfold VR;rw[zL O];rfl
  have e2:KH A k xs=A:=by unfold KH;rw[e3];rfl
  have:=hR U (Ext.refl _ _) (by rw[e2];exact h.mono λb _ g=>.inl g);rw[C,e3]at this;exact this
 refine UU h k (λhk=>cF rfl (no 1 aB (by unfold H9;rw[hk];rfl))) λx N Q=>?_;subst N;have hk:A.ck (x:Int)=true:=by unfold AR.ck;simp;omega
 obtain⟨c,ss,q,t,r,P,E,hq,ht,hr,Z⟩:=h.at_ Q;obtain⟨G1,ps,hG1,W⟩:=h.cG hq P E;obtain⟨G,hG,hC,H⟩:=h.tQ hr P ht;have M:H9 A x xs=if xs.length=c.batch then(if xs.all (λx=>eD c ss x==some true)then 0 else 8)else 1:=by unfold H9;rw[hk,zC rfl];simp only[dG];rw[P,E]
 refine cD rfl (bL (h.hd.rS rfl (h.yh (d:=2) P O ?_)));simp only[zB (show ¬(2=0) by omega),zB (show ¬(2=1) by omega)];rw[r7];refine cR (λg=>?_) λg=>?_
 ·have:¬xs.length=c.batch:=by rw[←u];simpa using g
  exact no 1 aB (by rw[M,zB this])
 have K:xs.length=c.batch:=by rw[←u];simpa using g
 rw[zC K]at M;have h32:c.batch<=32:=Z.2.2.2.2.2.2.2;refine Qj (a:=bO) (λ(i:Int) v=>∃j:Nat,i=(j:Int)/\j<=xs.length/\v=U/\∀y∈xs.take j,eD c ss y=some true) (λi _=>xs.length-i.toNat) ⟨0,rfl,O,rfl,by simp⟩ ?_;rintro i v ⟨j,rfl,hj,rfl,s⟩;refine cN (λhlt2=>?_) λhge=>?_
 ·have L:j<xs.length:=by omega
  have N:xs[j]?=some xs[j]:=cW L;have S:xs.take (j+1)=xs.take j++[xs[j]]:=by rw[kx,N];rfl
  have w:=kz L;generalize xs[j]=y at *;have J:eD c ss y≠some true->R false 8 v:=λhn=>no 8 aB (by
   rw[M,zB];intro ha;rw[kh]at ha;exact hn (by simpa using ha y w))
  refine hs.ma N (bL (h.hd.rS rfl (h.lZ hq (JT W _ (hi y w) (λb g=>?_) λg=>?_))))
  ·refine bX.intro (cD rfl ?_);cases b
   ·exact cF rfl (J (by rw[g];simp))
   ·refine cD rfl (cT (m:=j+1) O O ⟨⟨j+1,rfl,O,rfl,λz hz=>?_⟩,O⟩);rw[S]at hz;rcases zM.1 hz with C|C
    ·exact s z C
    ·simp at C;rw[C];exact g
  ·exact bX.intro (cF rfl (cF rfl (J (by rw[g];simp))))
 ·have:j=xs.length:=by omega
  subst this;rw[lY]at s;have B:H9 A x xs=0:=by
   rw[M,zC];rw[kh];intro y hy;simp[s y hy]
  have D:VR A x xs=decide (t.bs.length<A.room):=by unfold VR;rw[B];simp only[dG];rw[ht];simp
  refine bL (h.hd.rS rfl (h.td hr (RQ hC hs O (λhn=>absurd K hn) (λ_ hf=>?_) λ_ hf σ' e V=>?_)))
  ·rw[zL O]at D;have e2:KH A x xs=A:=by unfold KH;rw[D];rfl
   have:=hR v (Ext.refl _ _) (by rw[e2];exact h.mono λb _ g=>.inl g);rw[B,D]at this;exact this
  ·rw[zI O]at D;have e2:KH A x xs = {A with cQ:=A.cQ.modify x λt=>{t with bs:=t.bs++[xs]}}:=by unfold KH;rw[D,zC rfl];rfl
   have:=hR σ' (e.sub hG) (by rw[e2];exact H σ' (λt=>{t with bs:=t.bs++[xs]}) (Grow G v) _ e (λb g=>g) V (GO hG λb g=>g));rw[B,D]at this;exact this
theorem fH.OM {q:Nat}{c:cA}{ps:List (Nat×Nat)}{ss:List cH}{G:Rg}(h:fH U G q c ps ss):∀s∈ss,s.st<=1024:=by
 intro s hs;obtain⟨i,hi⟩:=zP hs;have a:=(cX.1 hi).1;have b:i<ps.length:=by rw[h.len];exact a
 have:=(h.sp _ _ _ (cW b) hi).fit;omega
theorem TV (h:dK U F Y A T)(k:Int){sl:Sl}{xs:List Int}(hi:∀x∈xs,iL x)(hl:xs.length<=1000000)(hcap:sl.len<=sl.cap)
 (hs:(∃X:Rg,cV sl 1 (Wu xs) U X/\∀b,b<U.size->X b->¬F b)\/∃j,∀H,T j U H->cV sl 1 (Wu xs) U H)
 {R:aN} (hR:∀σ',Ext F U σ'->dK σ' (Grow F U) Y (Z0 A k xs) T->R (Kv A k xs) σ') :
 Xf.c (aW Y.p) k sl U R:=by
 refine Xf.o ?_;unfold Xf.v;have no:∀e:Int,e≠0->Kv A k xs=e->R e U:=λe he K=>by
  have e2:Z0 A k xs=A:=by unfold Z0;rw[zB O]
  have:=hR U (Ext.refl _ _) (by rw[e2];exact h.mono λb _ d=>.inl d);rw[K]at this;exact this
 refine UU h k (λW=>cF rfl (no 1 aB (by unfold Kv;rw[W];rfl))) λx hx J=>?_;subst hx;have W:A.ck (x:Int)=true:=by unfold AR.ck;simp;omega
 obtain⟨c,g,q,t,r,Z,u,hq,_,_,hok⟩:=h.at_ J;obtain⟨G,V,⟨ps,L⟩,hd,B⟩:=h.tW hq Z u;have hX:∃X:Rg,cV sl 1 (Wu xs) U X/\∀b,X b->¬G b:=by
  rcases hs with⟨X,K,h2⟩|⟨j,hj⟩
  ·exact⟨Cut X U,aH.cut K,λb d hg=>h2 b d.2 d.1 (V b hg)⟩
  ·obtain⟨H,_,D,hT⟩:=hd j;exact⟨H,hj H hT,D⟩
 obtain⟨X,aa,N⟩:=hX;have M:Kv A x xs=iK c g xs:=by unfold Kv;rw[W,zC rfl];simp only[dG];rw[Z,u]
 refine cD rfl (bL (h.hd.rS rfl (h.lZ hq (Me L aa N hi hl hcap (λD=>?_) λh0 o σ1 e1 m Q=>?_))))
 ·refine cF (by simpa using D) (no _ D M)
 ·refine cD rfl ?_;have eS:Z0 A x xs=UI {A with cG:=A.cG.set x (cK (xs.foldl (fJ c) g))} ((QY (xs.foldl (fJ c) g)).map λs=>(s,c.aG)):=by
   unfold Z0;rw[M,zC h0];simp only[dG];rw[Z,u]
  have S:=B σ1 _ _ (Cut G U) _ e1 (λb d=>.inl d.1) Q (IP V);rw[N8]at m;have C:((QY (xs.foldl (fJ c) g)).map λs=>(s,c.aG)).length<=1000000/\∀r∈((QY (xs.foldl (fJ c) g)).map λs=>(s,c.aG)),r.1<=1000000:=by
   have i:∀(ys:List Int) (ls:List cH),((ys.foldl (fJ c) ls).map (·.st))=ls.map (·.st):=by
    intro ys
    induction ys with
    | nil=>intro ls;rfl
    | cons y ys ih=>
     intro ls;rw[rD,ih];unfold fJ;split
     ·rename_i j hj;split
      ·rename_i s a;split
       ·simp only[wc];apply zt;intro z;rw[nI];by_cases w:j=z
        ·subst w;rw[zC rfl];have:=(cX.1 a).1;rw[zC (by simpa using this)];simp[a,cH.put]
        ·rw[zB w]
       ·rfl
      ·rfl
     ·rfl
   have E:∀s∈QY (xs.foldl (fJ c) g),s∈g.map (·.st):=by
    intro s a;rw[←i xs g];unfold QY at a;simp only[zE,zJ]at a ⊢;obtain⟨z,w,rfl⟩:=a;exact⟨z,w.1,rfl⟩
   have hfew:=L.qm;refine⟨?_,λr hr=>?_⟩
   ·have:(QY (xs.foldl (fJ c) g)).length<=(xs.foldl (fJ c) g).length:=by
     unfold QY;rw[zk];exact oF _ _
    have h2:(xs.foldl (fJ c) g).length=g.length:=by have:=congrArg List.length (i xs g);simpa using this
    rw[zk];omega
   ·obtain⟨s,a,rfl⟩:=zE.1 hr;obtain⟨z,w,rfl⟩:=zE.1 (E s a);have:=L.OM z w;simp only;omega
  refine Iw S m.fW (λb _ d hf=>by have:=hf.2;omega) C.1 C.2 λσ2 e2 P=>?_;have:=hR σ2 ((e1.sub V).trans (e2.sub λb d=>d.1)) ?_
  ·rw[M,h0]at this;exact this
  ·rw[eS];exact P.mono λb _ d=>by
    rcases d with d|d
    ·exact .inl d.1
    ·exact .inr (ku e1.1 d)
theorem SB (l:List (Nat×Nat))(x:Int):bU (iS l) x=(l.find? λr=>(r.1:Int)==x).map λr=>(r.2:Int):=by
 induction l with
 | nil=>rfl
 | cons r l ih=>
  have:iS (r::l)=((r.1:Int),(r.2:Int))::iS l:=rfl;rw[this,KT,vR,ih];by_cases h:(r.1:Int)=x
  ·simp[h]
  ·have:((r.1:Int)==x)=false:=by simpa using h
   rw[this,zB h]
theorem MW (l:List (Nat×Nat))(x:Int):cO (iS l) x=iS (l.filter λq=>!((q.1:Int)==x)):=by
 unfold cO iS;rw[xY];rfl
theorem Tx (l:List (Nat×Nat))(x m:Nat):dA (iS l) (x:Int) (m:Int)=iS (cC.mset2 l x m):=by
 unfold dA cC.mset2 iS;have e:(l.map λr=>((r.1:Int),(r.2:Int))).any (λy=>y.1==(x:Int))=l.any λr=>r.1==x:=by
  rw[List.any_map]
  congr 1
  funext r
  exact l8 r.1 x
 rw[e];split
 ·rw[lI,lI];apply kr;intro r _;simp only[Function.comp_def];rw[l8];split<;>rfl
 ·simp
theorem dK.sH (h:dK U F Y A T):F Y.rn/\dM U Y.rn .i64 bO (iS A.runs)/\∀(σ':Hp) (rs:List (Nat×Nat)),Kb U σ' Y.rn->dM σ' Y.rn .i64 bO (iS rs)->dK σ' F Y {A with runs:=rs} T:=by
 obtain⟨G,j,⟨g,r⟩,_,d⟩:=h.step .runs;refine⟨j _ g,r,λσ' rs p m=>?_⟩;exact d σ' _ _ T G _ h.lay.qT h.tl Pd (p.ext.sub λb a=>by subst a;exact g) (λb a=>.inl a) ⟨g,m⟩ (AY j λb a=>a)
theorem N9 (h:dK U F Y A T)(x:Int)(hf:∀r∈A.runs,r.1<=1000000){R:aN}(hR:∀σ',Ext F U σ'->dK σ' (Grow F U) Y (Kc A x) T->R (VB A x) σ') :
 Xd.c (aW Y.p) x U R:=by
 refine Xd.o ?_;unfold Xd.v;obtain⟨N,K,m⟩:=h.sH;refine HW h (cD rfl (bL (h.hd.rM rfl ⟨_,K,?_⟩)));rw[SB];cases hr:(A.runs.find? λr=>(r.1:Int)==x)with
 | none=>
  have e1:VB A x=8:=by unfold VB qt;rw[hr];rfl
  have e2:Kc A x=A:=by unfold Kc qt;rw[hr]
  have:=hR U (Ext.refl _ _) (by rw[e2];exact h.mono λb _ a=>.inl a);rw[e1]at this;exact cF rfl this
 | some r=>
  have e1:VB A x=0:=by unfold VB qt;rw[hr];rfl
  have e2:Kc A x=Uv {A with runs:=A.runs.filter λq=>!((q.1:Int)==x)} r:=by unfold Kc qt;rw[hr]
  have H:=uG hr;have C:(r.1:Int)=x:=by simpa using uc hr
  refine cD rfl (bL (h.hd.rM rfl ⟨_,K,λs B _ y=>?_⟩));have o1:=B _ rfl;have d:dM s Y.rn .i64 bO (cO (iS A.runs) x):=y;rw[MW]at d;have u:=m s _ o1 d;simp only[ze,qz];refine nw (cs:=[.int .i64 x,.int .i64 (r.2:Int)]) λQ L g w=>?_;have G:=u.cut.bP g;have D:cV ⟨some ⟨s.size,0,none⟩,1,1⟩ 2 (rV [r]) Q (· = s.size):=by
   refine⟨rfl,.inr ⟨_,0,_,rfl,rfl,w.q,λj S=>?_⟩⟩;have:rV [r]=[.int .i64 (r.1:Int),.int .i64 (r.2:Int)]:=rfl;rw[this,C,zH]
  refine Iw G D (λb _ a P=>by have:=P.2;omega) aA (λq J=>by simp at J;subst J;exact hf _ H) λv3 M z=>?_;have E:Ext F U v3:=(o1.ext.sub λb a=>by subst a;exact N).trans ((aF.to g).trans (M.sub λb a=>a.1));have:=hR v3 E (by
   rw[e2];exact z.mono λb _ a=>by
    rcases a with a|a
    ·exact .inl a.1
    ·exact .inr (by have:=o1.1;omega))
  rw[e1]at this;exact this
theorem VI (rs:List (Nat×Nat)):∀A:AR,(UI A rs).tb=A.tb/\(UI A rs).room=A.room/\(UI A rs).cQ=A.cQ/\(UI A rs).cG=A.cG/\(UI A rs).runs=A.runs/\(UI A rs).n=A.n:=by
 induction rs with
 | nil=>intro A;exact⟨rfl,rfl,rfl,rfl,rfl,rfl⟩
 | cons r rs ih=>intro A;exact ih (Uv A r)
theorem UK (A:AR)(k:Int)(xs:List Int):(Z0 A k xs).tb=A.tb/\(Z0 A k xs).room=A.room/\(Z0 A k xs).cQ=A.cQ/\(Z0 A k xs).runs=A.runs/\(Z0 A k xs).n=A.n:=by
 unfold Z0;split
 ·split
  ·exact⟨(VI _ _).1,(VI _ _).2.1,(VI _ _).2.2.1,(VI _ _).2.2.2.2.1,(VI _ _).2.2.2.2.2⟩
  ·exact⟨rfl,rfl,rfl,rfl,rfl⟩
 ·exact⟨rfl,rfl,rfl,rfl,rfl⟩
theorem gO.pZ (t:gO):∀xs∈t.tick.bs,xs∈t.bs:=λxs h=>tK h
theorem VF {α:Type}{l:List α}{k:Nat}{t:α}{f:α->α}(h:l[k]?=some t):l.modify k f=l.set k (f t):=by
 apply zt;intro i;rw[nI,uz];by_cases hi:k=i
 ·subst hi;have:=(cX.1 h).1;rw[zC rfl,zC this,h];simp
 ·simp[hi]
def DJ (A:AR)(Y:Lay)(k r:Nat)(c:cA)(t:gO)(out:Sl)(sls:List Sl)(j:Nat):Hp->Rg->Prop:=
 if j=k then λU G=>iT U G r c.batch A.room t.tick/\cV out 1 (sls.map qg) U G/\rm sls t.out U G else cM A Y j
theorem DJ.loc {k r:Nat}{c:cA}{t:gO}{out:Sl}{sls:List Sl}(j:Nat):dO (DJ A Y k r c t out sls j):=by
 unfold DJ;split
 ·exact λU m F G ⟨i,g,d⟩ a b=>⟨iT.loc _ _ _ _ i a b,cV.loc _ _ _ _ _ _ _ g a b,rm.loc _ _ _ _ _ _ d a b⟩
 ·exact cM.loc j
end Go.Ar
namespace Go.Bu
variable {n:Nat}{S:Nat->Bool}
theorem UC {m a k x:Nat}(h:Z6 n S m a k=some x):∃j,j<k/\m<=2^j/\a<=2^j/\(WW n S j).head?=some x/\∀i,i<j->m<=2^i->a<=2^i->WW n S i=[]:=by
 have xI:∀k,Z6 n S m a k=none->∀i,i<k->m<=2^i->a<=2^i->WW n S i=[]:=by
  intro k
  induction k with
  | zero=>intro _ i hi;omega
  | succ k ih=>
   intro hn i hi d b;rw[Z6]at hn;split at hn
   ·cases hn
   ·rename_i hn';by_cases e:i=k
    ·subst e;rw[zC ⟨d,b⟩]at hn;simpa using hn
    ·exact ih hn' i O d b
 induction k with
 | zero=>simp[Z6]at h
 | succ k ih=>
  rw[Z6]at h;split at h
  ·rename_i y hy;cases h;obtain⟨j,d,b⟩:=ih hy;exact⟨j,O,b⟩
  ·rename_i hn;split at h
   ·rename_i hc;exact⟨k,O,hc.1,hc.2,h,xI k hn⟩
   ·cases h
theorem Hs {m a:Nat}:∀{k},Z6 n S m a k=none->∀i,i<k->m<=2^i->a<=2^i->WW n S i=[]
 | 0,_,i,hi,_,_=>by omega
 | k+1,hn,i,hi,h1,h2=>by
  rw[Z6]at hn;split at hn
  ·cases hn
  ·rename_i hn';by_cases e:i=k
   ·subst e;rw[zC ⟨h1,h2⟩]at hn;simpa using hn
   ·exact Hs hn' i O h1 h2
theorem lB (hb:Bounded S n){m a x:Nat}(h:ZD n S m a=some x):x+m<=n/\∀y,x<=y->y<x+m->S y=true:=by
 obtain⟨j,_,r,_,g,_⟩:=UC h;have b:x∈WW n S j:=List.mem_of_head? g;obtain⟨q,rfl,d⟩:=(Kq hb).1 b;have:=Qe hb (Z2.1 d).1;exact⟨O,λy p i=>Un d (QK.2 O)⟩
end Go.Bu
namespace Go.Ar
open Go Go.Vc Go.Proofs
open Go.Bu (ZG Kj ZD)
variable {U:Hp}{F H:Rg}{p hs:Nat}{A:AR}{sp:Sp}{Y:Lay}{T:Nat->Hp->Rg->Prop}
structure W2 (U:Hp) (F H:Rg) (Y:Lay) (A:AR) (T:Nat->Hp->Rg->Prop) (sp:Sp):Prop where
 a:dK U F Y A T
 s:dQ U H Y.hs sp
 d:∀b,F b->¬H b
 g:Gl U
 o:iW F
 o2:iW H
def iX (F H:Rg):Rg:=λb=>F b\/H b
theorem W2.lW (h:W2 U F H Y A T sp){σ':Hp}{A':AR}(e:Ext F U σ')(ha:dK σ' F Y A' T):W2 σ' F H Y A' T sp:=
 ⟨ha,dO.bS dQ.loc h.s e λb _ a i=>h.d b i a,h.d,h.g.bS e h.o,h.o,h.o2⟩
theorem W2.space (h:W2 U F H Y A T sp){σ':Hp}{sp':Sp}(e:Ext H U σ')(hs:dQ σ' H Y.hs sp'):W2 σ' F H Y A T sp':=
 ⟨dO.bS dK.loc h.a e λb _ i j=>h.d b i j,hs,h.d,h.g.bS e h.o2,h.o,h.o2⟩
theorem W2.bP (h:W2 U F H Y A T sp){σ':Hp}(e:aF U σ'):W2 σ' F H Y A T sp:=⟨h.a.bP e,h.s.bP e,h.d,h.g.bP e,h.o,h.o2⟩
theorem W2.cut (h:W2 U F H Y A T sp):W2 U (Cut F U) (Cut H U) Y A T sp:=⟨h.a.cut,dO.cut dQ.loc h.s,λb i j=>h.d b i.1 j.1,h.g,h.o.sub λb i=>i.1,h.o2.sub λb i=>i.1⟩
theorem W2.pC (h:W2 U F H Y A T sp){σ':Hp}{A':AR}(e:Ext F U σ')(ha:dK σ' (Grow F U) Y A' T):W2 σ' (Grow F U) (Cut H U) Y A' T sp:=
 ⟨ha,dO.bS dQ.loc (dO.cut dQ.loc h.s) e λb _ a j=>h.d b j a.1,λb a i=>by
  rcases a with a|a
  ·exact h.d b a i.1
  ·have:=i.2;omega,h.g.bS e h.o,h.o.grow h.g,h.o2.sub λb a=>a.1⟩
theorem W2.EK (h:W2 U F H Y A T sp){K:Option Addr->Prop}(hK:K (some ⟨Y.hs,0,none⟩)):fX (Addr.add ⟨Y.p,0,none⟩ 1) U K:=h.a.hd.rP rfl hK
theorem IH (st:List Nat)(a m:Nat):Hk st a (m+1)=jb (Hk st a m) ((a+m:Nat):Int):=by
 unfold Hk;rw[oU,zj,vS];rfl
theorem TH {a m:Int}(h:fE sp a m≠0):fZ sp a m=sp:=by unfold fZ;rw[zB h]
theorem TI {size:Nat}(h1:1<=size)(h:∀j,1<=j->j*size+size<=sp.st.length->fE sp ((j*size:Nat):Int) (size:Int)≠0):dB sp size=none:=by
 unfold dB;rw[oB];intro x hx;obtain⟨j,d,rfl⟩:=zE.1 hx;rw[zg]at d;have b:(j+1)*size<=sp.st.length:=ku (mA size d) (AE _ _);rw[zo,Nat.one_mul]at b;by_cases h0:j=0
 ·subst h0;simp
 ·have:=h j O b;have a:(fE sp ((j*size:Nat):Int) (size:Int)==0)=false:=by simpa only[mI]using this
  rw[a,tV];simp
theorem TE {size j:Nat}(h1:1<=size)(h0:1<=j)(hf:j*size+size<=sp.st.length)(hm:fE sp ((j*size:Nat):Int) (size:Int)=0)(h:∀i,1<=i->i<j->fE sp ((i*size:Nat):Int) (size:Int)≠0):dB sp size=some (j*size):=by
 unfold dB;have m:j<sp.st.length/size:=by
  rw[Nat.lt_iff_add_one_le,Nat.le_div_iff_mul_le h1,zo,Nat.one_mul];exact hf
 have a:List.range (sp.st.length/size)=List.range j++(j::(List.range (sp.st.length/size-j-1)).map (j+1 + ·)):=by
  apply zt;intro i;rw[List.getElem?_append,AT];by_cases hi:i<j
  ·rw[zC hi,nU O,nU hi]
  ·rw[zB hi];by_cases hij:i=j
   ·subst hij;rw[pH,zx,nU m]
   ·rw[show i-j=(i-j-1)+1 by omega,yH,zZ];by_cases hl:i<sp.st.length/size
    ·rw[nU hl,nU O];simp only[ze]
     congr 1;omega
    ·rw[zX (by rw[AT];omega),zX (by rw[AT];omega)];rfl
 rw[a,zj,List.find?_append];have b:((List.range j).map (· * size)).find? (λ(s:Nat)=>s != 0&&fE sp s size==0)=none:=by
  rw[oB];intro x hx;obtain⟨i,hi,rfl⟩:=zE.1 hx;rw[zg]at hi;by_cases h0:i=0
  ·subst h0;simp
  ·have:=h i O hi;have d:(fE sp ((i*size:Nat):Int) (size:Int)==0)=false:=by simpa only[mI]using this
   rw[d,tV];simp
 rw[b,zR,vR];have:(j*size != 0&&fE sp ((j*size:Nat):Int) (size:Int)==0)=true:=by
  rw[hm];have p:0<j*size:=Nat.mul_pos O O;have g:j*size≠0:=by omega
  simp[g]
 rw[this];rfl
theorem OC (h:W2 U F H Y A T sp){size:Nat}(h1:size=16\/size=32\/size=64){R:aO}(h0:Hi A sp size=none->∀σ',Ext (iX F H) U σ'->W2 σ' F H Y A T sp->R false σ')
 (hR:∀A' sp',Hi A sp size=some (A',sp')->∀σ',Ext (iX F H) U σ'->W2 σ' F H Y A' T sp'->R true σ'):Zg.c (aW Y.p) (size:Int) U R:=by
 refine Zg.o ?_;unfold Zg.v;have hn2:sp.st.length<=1024:=by obtain⟨q,r,l,B,hh⟩:=h.s;exact hh.n2
 have es:∀{a b:Hp},Ext H a b->Ext (iX F H) a b:=λe=>e.sub λb P=>.inr P;have ea:∀{a b:Hp},Ext F a b->Ext (iX F H) a b:=λe=>e.sub λb P=>.inl P;have d:∀j,j*size+size=(j+1)*size:=λj=>by rw[zo,Nat.one_mul]
 refine Qj (a:=bO) (λ(t:Int) v=>∃j:Nat,t=((j*size:Nat):Int)/\1<=j/\j*size<=1024+64/\Ext (iX F H) U v/\W2 v F H Y A T sp/\∀i,1<=i->i<j->i*size+size<=sp.st.length->fE sp ((i*size:Nat):Int) (size:Int)≠0) (λt _=>2000-t.toNat)
  ⟨1,O,zD _,O,Ext.refl _ _,h,λi h1 h2=>O⟩ ?_
 rintro t v ⟨j,rfl,hj,P,e,z,x⟩;refine cT (m:=j*size+size) O O (bL (z.EK (Jq z.s (cN (λhlt=>?_) λhge=>?_))))
 ·have hf:j*size+size<=sp.st.length:=by omega
  refine bL (z.EK (MU z.s z.g z.o2 _ _ λv2 e2 K=>?_));refine cR (λV=>?_) λV=>?_
  ·have L:fE sp ((j*size:Nat):Int) (size:Int)≠0:=by simpa using V
   rw[TH L]at K;refine cT (m:=(j+1)*size) (by rw[←d];omega) (by rw[←d];omega) ⟨⟨j+1,rfl,O,by rw[←d];omega,e.trans (es e2),z.space e2 K,λi y D J=>?_⟩,by rw[←d];omega⟩;by_cases hij:i=j
   ·subst hij;exact L
   ·exact x i y O J
  ·have Q:fE sp ((j*size:Nat):Int) (size:Int)=0:=by simpa using V
   have X:=z.space e2 K;have N:∀i,i<j->i*size+size<=sp.st.length:=λi hi=>by
    have:(i+1)*size<=j*size:=mA _ hi;rw[d];omega
   have C:=TE (sp:=sp) O hj hf Q λi y D=>x i y D (N i D);have E:Hi A sp size=some ({A with st:=Hk A.st (j*size/16) (size/16),S:=Kj A.n A.S ((j*size:Nat):Int) size},fZ sp ((j*size:Nat):Int) size):=by unfold Hi;rw[C]
   have aa:(j*size)%16=0:=by
    rcases h1 with rfl|rfl|rfl
    ·omega
    ·omega
    ·omega
   refine nz aB (cT (m:=j*size/16) (by rw[Yj O];simp) O ?_);refine Qj (a:=bO) (λ(t:Int) w=>∃i:Nat,t=((j*size/16+i:Nat):Int)/\i<=size/16/\Ext (iX F H) U w/\W2 w F H Y {A with st:=Hk A.st (j*size/16) i} T (fZ sp ((j*size:Nat):Int) size)) (λt _=>200-t.toNat)
    ⟨0,O,O,e.trans (es e2),X⟩ ?_
   rintro t w ⟨i,rfl,hi,Z,u⟩;refine cT (m:=j*size+size) O O (nz aB (cT (m:=(j*size+size)/16) (by rw[Yj O];simp) O (cN (λhlt2=>?_) λhge2=>?_)))
   ·refine bL (u.a.hd.rP rfl (u.a.B7 _ λw2 t2 M G=>?_));refine cT (m:=j*size/16+(i+1)) O O ⟨⟨i+1,rfl,O,Z.trans (ea M),?_⟩,O⟩;rw[IH];exact u.lW M G
   ·have W:i=size/16:=by omega
    subst W;refine bL (u.a.hd.rP rfl (u.a.xW _ _ λw2 t2 M G=>?_));exact hR _ _ E w2 (Z.trans (ea M)) (u.lW M G)
 ·have C:=TI (sp:=sp) (size:=size) O λi y J=>by
   by_cases hij:i<j
   ·exact x i y hij J
   ·have:j*size<=i*size:=mA _ O;omega
  have E:Hi A sp size=none:=by unfold Hi;rw[C]
  exact h0 E v e z
theorem PY {m a:Nat}(h1:1<=m)(h2:m<=64)(ha:a=1\/a=2\/a=4\/a=8\/a=16):Go.Bu.fN (m:Int) (a:Int)=true:=by
 have b:Go.Bu.fo (a:Int)=true:=by rcases ha with rfl|rfl|rfl|rfl|rfl<;>decide
 unfold Go.Bu.fN;rw[b];simp only[u9,zF,zV];omega
theorem W2.take (h:W2 U F H Y A T sp){m a:Nat}(hok:Go.Bu.fN (m:Int) (a:Int)=true){R:Int->Int->Hp->Prop}(h0:ZD A.n A.S m a=none->∀σ',Ext F U σ'->W2 σ' F H Y A T sp->R 0 6 σ')
 (h1:∀x,ZD A.n A.S m a=some x->x+m<=A.n->∀σ',Ext F U σ'->W2 σ' F H Y {A with S:=Go.Bu.take A.S x (x+m)} T sp->R (x:Int) 0 σ'):X4.c (aW Y.fr) (m:Int) (a:Int) U R:=by
 have b:Go.Bu.Bounded A.S A.n:=by obtain⟨p,r,i,_⟩:=h.a.free;exact i.jF
 refine h.a.yg _ _ λσ' e j=>?_;have d:=h.lW e j;cases ht:ZD A.n A.S m a with
 | none=>
  have e1:Go.Bu.ji A.n A.S (m:Int) (a:Int)=6:=by unfold Go.Bu.ji;rw[hok,zC rfl];simp only[dG];rw[ht]
  have e2:Go.Bu.iU A.n A.S (m:Int) (a:Int)=0:=by unfold Go.Bu.iU;rw[hok,zC rfl];simp only[dG];rw[ht]
  have g:Go.Bu.ja A.n A.S (m:Int) (a:Int)=A.S:=by unfold Go.Bu.ja;rw[hok,zC rfl];simp only[dG];rw[ht]
  rw[e1,e2];rw[g]at d;exact h0 ht σ' e d
 | some x=>
  have e1:Go.Bu.ji A.n A.S (m:Int) (a:Int)=0:=by unfold Go.Bu.ji;rw[hok,zC rfl];simp only[dG];rw[ht]
  have e2:Go.Bu.iU A.n A.S (m:Int) (a:Int)=x:=by unfold Go.Bu.iU;rw[hok,zC rfl];simp only[dG];rw[ht]
  have g:Go.Bu.ja A.n A.S (m:Int) (a:Int)=Go.Bu.take A.S x (x+m):=by unfold Go.Bu.ja;rw[hok,zC rfl];simp only[dG];rw[ht]
  rw[e1,e2];rw[g]at d;exact h1 x ht (Go.Bu.lB b ht).1 σ' e d
theorem NH {size:Nat}{A':AR}{sp':Sp}(h:Hi A sp size=some (A',sp')):A'.n=A.n:=by
 unfold Hi at h;split at h
 ·cases h
 ·cases h;rfl
def Fits (U:Hp)(F H F' H':Rg):Prop:=(∀b,F' b->Grow F U b)/\∀b,H' b->H b
theorem FF (h:W2 U F H Y A T sp){m a no:Nat}(h1:1<=m)(h2:m<=64)(ha:a=1\/a=2\/a=4\/a=8\/a=16)(hn1:1<=no)(hn2:no<=1000){R:Int->Int->Hp->Prop}
 (h0:(dC A sp m a no).1=none->∀σ',Ext (iX F H) U σ'->W2 σ' F H Y (dC A sp m a no).2.1 T (dC A sp m a no).2.2->R 0 6 σ')
 (hR:∀x,(dC A sp m a no).1=some x->x+m<=A.n->∀σ' F' H',Fits U F H F' H'->Ext (iX F H) U σ'->W2 σ' F' H' Y (dC A sp m a no).2.1 T (dC A sp m a no).2.2->R (x:Int) 0 σ') :
 Y3.c (aW Y.p) (m:Int) (a:Int) (no:Int) U R:=by
 refine Y3.o ?_;unfold Y3.v;have G:=PY h1 h2 ha;have es:∀{a b:Hp},Ext H a b->Ext (iX F H) a b:=λe=>e.sub λb j=>.inr j;have r:∀{a b:Hp},Ext F a b->Ext (iX F H) a b:=λe=>e.sub λb j=>.inl j;have fin:∀(v:Hp) (x:Nat) (A1:AR) (sp1:Sp),Ext (iX F H) U v->x+m<=A.n->W2 v F H Y {A1 with S:=Go.Bu.take A1.S x (x+m)} T sp1->dC A sp m a no=(some x,dT A1 x m no,sp1) →
  bW (some ⟨Y.p,0,none⟩) λP=>fX (P.add 3) v λaa=>XU.c aa (x:Int) (m:Int) v λt55 u=>bW (some ⟨Y.p,0,none⟩) λN=>fX (N.add 4) u λL=>Yq.c L (x:Int) (m:Int) (no:Int) u λt63 v3=>R (x:Int) 0 v3:=by
  intro v x A1 sp1 e hxm D y;have M:x<=1000000:=by have:=h.a.lay.n2;omega
  refine bL (D.a.hd.rP rfl (D.a.Sk _ _ λu t2 e2 Q=>?_));have g:=D.lW e2 Q;refine bL (g.a.hd.rP rfl (g.a.Set x m M hn1 hn2 λv3 t3 e3 W=>?_));have X:=g.pC e3 W;refine hR x (by rw[y]) hxm v3 (Grow F u) (Cut H u) ⟨λb j=>?_,λb j=>j.1⟩ ((e.trans (r e2)).trans (r e3)) (by rw[y];exact X);rcases j with j|j
  ·exact .inl j
  ·exact .inr (ku (e.trans (r e2)).1 j)
 refine bL (h.a.hd.rP rfl (h.take G (λE v e D=>?_) λx E z v e D=>?_))
 ·refine Jn.intro (cF rfl ?_);have Z:(if(a:Int)>(m:Int)then(a:Int)else(m:Int))=((max m a:Nat):Int):=by
   by_cases hgt:(a:Int)>(m:Int)
   ·rw[zC hgt];omega
   ·rw[zB hgt];omega
  rw[Z];refine Qj (a:=bO) (λ(t:Int) w=>w=v/\(t=16\/t=32/\16<max m a\/t=64/\32<max m a)) (λt _=>100-t.toNat) ⟨rfl,.inl rfl⟩ ?_;rintro(t:Int) w ⟨rfl,hcase⟩;have ab:a<=16:=by omega
  refine cN (λhlt=>?_) λhge=>?_
  ·have:t=16\/t=32:=by omega
   rcases this with rfl|rfl
   ·exact ar O O ⟨⟨rfl,O⟩,by decide⟩
   ·exact ar O O ⟨⟨rfl,O⟩,by decide⟩
  ·have V:t=((KC (max m a):Nat):Int):=by
    unfold KC;by_cases c1:max m a<=16
    ·rw[zC c1];omega
    ·rw[zB c1];by_cases c2:max m a<=32
     ·rw[zC c2];omega
     ·rw[zB c2];omega
   subst V;have K:KC (max m a)=16\/KC (max m a)=32\/KC (max m a)=64:=by omega
   refine OC D K (λy σ' J s=>?_) λA' B y σ' J s=>?_
   ·have d:dC A sp m a no=(none,A,sp):=by unfold dC;rw[E];simp only;rw[y]
    exact cF rfl (h0 (by rw[d]) σ' ((r e).trans J) (by rw[d];exact s))
   ·refine cD rfl (bL (s.a.hd.rP rfl (s.take G (λC u e2 g=>?_) λx C z u e2 g=>?_)))
    ·have d:dC A sp m a no=(none,A',B):=by unfold dC;rw[E];simp only;rw[y];simp only;rw[C]
     exact cF rfl (h0 (by rw[d]) u (((r e).trans J).trans (r e2)) (by rw[d];exact g))
    ·have d:dC A sp m a no=(some x,dT A' x m no,B):=by unfold dC;rw[E];simp only;rw[y];simp only;rw[C]
     exact cD rfl (fin u x A' B (((r e).trans J).trans (r e2)) (by rw[←NH y];exact z) g d)
 ·have d:dC A sp m a no=(some x,dT A x m no,sp):=by unfold dC;rw[E]
  refine Jn.intro (cD rfl (cD rfl (fin v x A sp (r e) z D d)))
theorem Fits.refl:Fits U F H F H:=⟨λb a=>.inl a,λb a=>a⟩
theorem W2.mono {F' H':Rg}(h:W2 U F H Y A T sp)(hF:iW F')(hF2:∀b,b<U.size->F b->F' b)(hH:∀b,H' b->H b)(hH2:∀b,b<U.size->H b->H' b)(hd:∀b,F' b->¬H' b):W2 U F' H' Y A T sp:=
 ⟨h.a.mono hF2,dO.mono dQ.loc h.s hH2,hd,h.g,hF,h.o2.sub hH⟩
theorem Py (h:W2 U F H Y A T sp)(k:Int){R:aN}(hR:∀σ' F' H',Fits U F H F' H'->Ext (iX F H) U σ'->W2 σ' F' H' Y (cP A sp k).1 T (cP A sp k).2->R (Vx A sp k) σ') :
 Yr.c (aW Y.p) k U R:=by
 refine Yr.o ?_;unfold Yr.v;refine UU h.a k (λE=>?_) λx hx K=>?_
 ·have e1:Vx A sp k=1:=by unfold Vx;rw[E];rfl
  have e2:cP A sp k=(A,sp):=by unfold cP;rw[E];rfl
  have:=hR U F H Fits.refl (Ext.refl _ _) (by rw[e2];exact h);rw[e1]at this;exact cF rfl this
 ·subst hx;have E:A.ck (x:Int)=true:=by unfold AR.ck;simp;omega
  obtain⟨c,P,q,t,r,J,z,Z,_,_,N⟩:=h.a.at_ K;have ht2:=h.a.lay.rR;obtain⟨_,_,_,V,hp4,_⟩:=N;refine cD rfl (bL (h.a.hd.rS rfl (h.a.yh (d:=1) J O ?_)));simp only[zB (show ¬(1=0) by omega),zT];refine cT (m:=x+1) O O ?_;have X:Vx A sp x=match (dC A sp c.aG 1 (x+1)).1 with
   | some y=>ot c P y
   | none=>6:=by unfold Vx;rw[E,zC rfl];simp only[dG];rw[J,z];rfl
  have W:cP A sp x=match dC A sp c.aG 1 (x+1)with
   | (some y,A',u)=>(if ot c P y=0 then{A' with cG:=A'.cG.set x (iu c P y)}else A',u)
   | (none,A',u)=>(A',u):=by unfold cP;rw[E,zC rfl];simp only[dG];rw[J,z];rfl
  refine FF (a:=1) h V O (.inl rfl) O O (λC σ' e w=>?_) λy C hyn σ' F' H' i e w=>?_
  ·have:=hR σ' F H Fits.refl e;rw[X,W,C]at this;generalize dC A sp c.aG 1 (x+1)=g at *;obtain⟨g1,g2,g3⟩:=g;simp only at C;subst C;exact cF rfl (this w)
  ·have B:(dC A sp c.aG 1 (x+1)).2.1.tb=A.tb/\(dC A sp c.aG 1 (x+1)).2.1.cG=A.cG:=by
    unfold dC;split
    ·exact⟨rfl,rfl⟩
    ·split
     ·exact⟨rfl,rfl⟩
     ·rename_i A1 sp1 hga;have:A1.tb=A.tb/\A1.cG=A.cG:=by
       unfold Hi at hga;split at hga
       ·cases hga
       ·cases hga;exact⟨rfl,rfl⟩
      split
      ·exact this
      ·exact this
   have s:=λσ' F' H'=>hR σ' F' H';rw[X,W]at s;generalize dC A sp c.aG 1 (x+1)=g at *;obtain⟨g1,A',u⟩:=g;simp only at C w B s;subst C;simp only at s;have hWc:=w;obtain⟨G,S,⟨ps,hC⟩,_,D⟩:=w.a.tW Z (by rw[B.1];exact J) (by rw[B.2];exact z);have hn2:=h.a.lay.n2;refine cD rfl (bL (w.a.hd.rS rfl (w.a.lZ Z (WmY hC O (λh9 v e2=>?_) λh0 v ps' e2 L=>?_))))
   ·have:=s v F' H' i (e.gp e2) (by rw[h9];exact w.bP e2);rw[h9]at this;exact this
   ·have M:=D v _ _ (Grow G σ') _ e2 (λb j=>j) L (GO S λb j=>j);have Q:=w.pC (e2.sub S) M;have:=s v (Grow F' σ') (Cut H' σ') ⟨λb j=>?_,λb j=>i.2 b j.1⟩ (e.dW (e2.sub S) λb j=>?_) (by rw[h0];exact Q)
    ·rw[h0]at this;exact this
    ·rcases j with j|j
     ·exact i.1 b j
     ·exact .inr (ku e.1 j)
    ·rcases i.1 b j with h1|h1
     ·exact .inl (.inl h1)
     ·exact .inr h1
theorem GL (A:AR)(sp:Sp)(m a no:Nat):(dC A sp m a no).2.1.tb=A.tb/\(dC A sp m a no).2.1.cG=A.cG/\(dC A sp m a no).2.1.cQ=A.cQ/\(dC A sp m a no).2.1.room=A.room/\(dC A sp m a no).2.1.runs=A.runs/\(dC A sp m a no).2.1.n=A.n:=by
 unfold dC;split
 ·exact⟨rfl,rfl,rfl,rfl,rfl,rfl⟩
 ·split
  ·exact⟨rfl,rfl,rfl,rfl,rfl,rfl⟩
  ·rename_i A1 sp1 hga;have:A1.tb=A.tb/\A1.cG=A.cG/\A1.cQ=A.cQ/\A1.room=A.room/\A1.runs=A.runs/\A1.n=A.n:=by
    unfold Hi at hga;split at hga
    ·cases hga
    ·cases hga;exact⟨rfl,rfl,rfl,rfl,rfl,rfl⟩
   split
   ·exact this
   ·exact this
theorem Ms:∀a:Nat,a<17->1<=a->((bits .and .i64 (a:Int) ((a:Int)-1) != 0) = !(a==1||(a==2||(a==4||(a==8||a==16))))):=by decide
theorem LU (h:W2 U F H Y A T sp)(m a:Int){R:Int->Int->Hp->Prop}(hR:∀σ' F' H',Fits U F H F' H'->Ext (iX F H) U σ'->W2 σ' F' H' Y (cC A sp m a).1 T (cC A sp m a).2->R ((QF A sp m a:Nat):Int) (Q8 A sp m a) σ') :
 Xe.c (aW Y.p) m a U R:=by
 refine Xe.o ?_;unfold Xe.v;have L:KX m a=false->R 0 1 U:=λu=>by
  have e1:Q8 A sp m a=1:=by unfold Q8;rw[u];rfl
  have e2:cC A sp m a=(A,sp):=by unfold cC;rw[u];rfl
  have e3:QF A sp m a=0:=by unfold QF;rw[u];rfl
  have:=hR U F H Fits.refl (Ext.refl _ _) (by rw[e2];exact h);rw[e1,e3]at this;exact this
 have d:¬(1<=m/\m<=64/\(a=1\/a=2\/a=4\/a=8\/a=16))->R 0 1 U:=λhn=>L (by
  rw[←qY];intro hp;unfold KX at hp;simp at hp;omega)
 refine HW h.a (cD rfl (bX.intro (cN (λV=>bX.intro (cF rfl (bX.intro (cF rfl (bX.intro (cF rfl (cF rfl (d O)))))))) λV=>?_)));refine bX.intro (cN (λW=>bX.intro (cF rfl (bX.intro (cF rfl (cF rfl (d O)))))) λW=>?_);refine bX.intro (cN (λX=>bX.intro (cF rfl (cF rfl (d O)))) λX=>?_);refine bX.intro (cN (λc4=>cF rfl (d O)) λc4=>ar O O ?_);obtain⟨y,rfl⟩:=zc (show 0<=m by omega);obtain⟨z,rfl⟩:=zc (show 0<=a by omega);rw[Ms z O O];refine cR (λM=>?_) λM=>?_
 ·refine d (λhh=>?_);simp at M;omega
 ·have hz:z=1\/z=2\/z=4\/z=8\/z=16:=by
   simp at M;omega
  have u:KX (y:Int) (z:Int)=true:=by
   unfold KX;simp;omega
  have Q:Q8 A sp y z=if(dC A sp y z 41).1.isSome then 0 else 6:=by unfold Q8;rw[u,zC rfl];rfl
  have P:QF A sp y z=(dC A sp y z 41).1.getD 0:=by unfold QF;rw[u,zC rfl];rfl
  have N:cC A sp y z=match dC A sp y z 41 with
   | (some x,A',j)=>({A' with runs:=cC.mset2 A'.runs x y},j)
   | (none,A',j)=>(A',j):=by unfold cC;rw[u,zC rfl];rfl
  refine FF (no:=41) h O O hz O O (λw σ' e B=>?_) λx w Z σ' F' H' s e B=>?_
  ·have:=hR σ' F H Fits.refl e;rw[Q,N,P,w]at this;generalize dC A sp y z 41=g at *;obtain⟨g1,g2,g3⟩:=g;simp only at w;subst w;exact cF rfl (this B)
  ·have r:=λσ' F' H'=>hR σ' F' H';rw[Q,N,P]at r;generalize dC A sp y z 41=g at *;obtain⟨g1,A',j⟩:=g;simp only at w B r;subst w;simp only at r;obtain⟨gr,hm,C⟩:=B.a.sH;refine cD rfl (bL (B.a.hd.rM rfl ⟨_,_,rfl,hm,λv S K=>?_⟩));have D:dM v Y.rn .i64 bO (dA (iS A'.runs) (x:Int) (y:Int)):=K;rw[Tx]at D;have G:=C v _ S D;have e2:Ext F' σ' v:=S.ext.sub λb E=>by subst E;exact gr
   have J:=B.lW e2 G;exact r v F' H' s (e.dW e2 λb E=>by
    rcases s.1 b E with h1|h1
    ·exact .inl (.inl h1)
    ·exact .inr h1) J
end Go.Ar
namespace Go.Proofs
open Go.Vc
set_option maxRecDepth 100000
end Go.Proofs
namespace Go.Ar
open Go Go.Vc Go.Proofs
variable {U:Hp}{Q:Rg}{key:Nat->Nat}
end Go.Ar
namespace Go.Ar
open Go Go.Vc Go.Proofs
variable {U:Hp}{F:Rg}{p q:Nat}{st:List Nat}
end Go.Ar
namespace Go.Ar
open Go Go.Vc Go.Proofs
open Go.Bu (ZG Kj ZD)
variable {U:Hp}{F H:Rg}{p hs:Nat}{A:AR}{sp:Sp}{Y:Lay}{T:Nat->Hp->Rg->Prop}
theorem dK.cQ (h:dK U F Y A (cM A Y)){k q:Nat}{c:cA}{t:gO}(h1:Y.gD[k]?=some q)(h2:A.tb[k]?=some c)(h3:A.cQ[k]?=some t):∃G:Rg,(∀b,G b->F b)/\iT U G q c.batch A.room t:=by
 obtain⟨G,a,hi,_⟩:=h.tQ h1 h2 h3;exact⟨G,a,hi⟩
def part {α:Type}(f:cA->α->Nat)(tb:List cA)(l:List α)(i:Nat):Nat:=(((tb.zip l).take i).map λx=>f x.1 x.2).sum
end Go.Ar
namespace Go.Ar
open Go Go.Vc Go.Proofs
variable {U:Hp}
theorem I0:∀(xs:List (Int×Int×Int)),wb xs=true↔∀(i:Nat) a b,xs[i]?=some a->xs[i+1]?=some b->a.1<b.1
 | []=>by simp[wb]
 | [x]=>by simp[wb]
 | x::y::l=>by
  have ih:=I0 (y::l);show(decide (x.1<y.1)&&wb (y::l))=true↔_;rw[zF,ih,zV];constructor
  ·rintro⟨h1,h2⟩ i a b g d;cases i with
   | zero=>simp at g d;subst g;subst d;exact h1
   | succ i=>exact h2 i a b (by simpa using g) (by simpa using d)
  ·intro h;exact⟨h 0 x y rfl rfl,λi a b g d=>h (i+1) a b (by simpa using g) (by simpa using d)⟩
theorem QW (xs:List (Int×Int×Int)):Q0 xs=true↔1<=xs.length/\xs.length<=40/\(∀(i:Nat) t,xs[i]?=some t->UN t.1 t.2.1 t.2.2=true)/\∀(i:Nat) a b,xs[i]?=some a->xs[i+1]?=some b->a.1<b.1:=by
 unfold Q0;simp only[zF,zV,I0,kh];constructor
 ·rintro⟨h1,h2,h3,h4⟩;exact⟨h1,h2,λi t d=>h3 t (zG d),h4⟩
 ·rintro⟨h1,h2,h3,h4⟩;exact⟨h1,h2,λt d=>by obtain⟨i,hi⟩:=zP d;exact h3 i t hi,h4⟩
theorem yI {s:Sl}{xs:List (Int×Int×Int)}(ha:ik U s xs){R:aO}(hR:∀σ',aF U σ'->R (Q0 xs) σ'):Z1.c s U R:=by
 refine Z1.o ?_;unfold Z1.v;have L:∀σ',aF U σ'->¬(1<=xs.length/\xs.length<=40/\(∀(i:Nat) t,xs[i]?=some t->UN t.1 t.2.1 t.2.2=true)/\∀(i:Nat) a b,xs[i]?=some a->xs[i+1]?=some b->a.1<b.1)->R false σ':=λσ' e hn=>by
  have:=hR σ' e;have hf:Q0 xs=false:=by rw[←qY,QW];exact hn
  rw[hf]at this;exact this
 have Z:=ha.1;refine bX.intro (cN (λc1=>cF rfl (L U (Ext.refl _ _) λh=>O)) λc1=>?_);refine cN (λc2=>L U (Ext.refl _ _) λh=>O) λc2=>?_;refine Qj (a:=bO) (λ(t:Int) v=>∃i:Nat,t=(i:Int)/\i<=xs.length/\aF U v/\(∀(j:Nat) t,j<i->xs[j]?=some t->UN t.1 t.2.1 t.2.2=true)/\∀(j:Nat) a b,j+1<i->xs[j]?=some a->xs[j+1]?=some b->a.1<b.1) (λt _=>xs.length-t.toNat)
  ⟨0,rfl,O,Ext.refl _ _,λj t h=>O,λj a b h=>O⟩ ?_
 rintro t v ⟨i,rfl,hi,e,Y,V⟩;have S:=Qz ha e;refine cN (λhlt=>?_) λhge=>?_
 ·have P:i<xs.length:=by omega
  have B:xs[i]?=some xs[i]:=cW P;generalize xs[i]=r at B;obtain⟨x,y,z⟩:=r;refine Au S B ?_;refine nw (cs:=[.int .i64 0,.int .i64 0,.int .i64 0]) λv2 hz2 e2 b2=>b2.s1 aA λv3 o3 b3=>b3.s1 aA λv4 o4 b4=>b4.s1 aA λv5 o5 K=>?_;have e5:aF v v5:=Ext.fresh (Ext.fresh (Ext.fresh e2 o3.ext λi hi=>O) o4.ext λi hi=>O) o5.ext λi hi=>by omega
  refine Jn.intro ⟨(· = v5),rfl,⟨x,λm C=>by rw[C,add_lit,K.cell];rfl,⟨y,λm C=>by rw[C,add_lit,K.cell];rfl,⟨z,λm C=>by rw[C,add_lit,K.cell];rfl,?_⟩⟩⟩⟩;refine FI x y z λv7 W=>?_;have w:=(Ext.trans e e5).trans W;have G:(UN x y z=false\/∃a,0<i/\xs[i-1]?=some a/\x<=a.1)->R false v7:=λN=>L v7 w λH=>by
   rcases N with N|⟨a,J,hb1,hb2⟩
   ·have:=H.2.2.1 i _ B;simp only at this;rw[N]at this;cases this
   ·have:=H.2.2.2 (i-1) a (x,y,z) hb1 (by rw[show i-1+1=i by omega];exact B);simp only at this;omega
  cases hc:UN x y z
  ·exact cF rfl (cF rfl (G (.inl hc)))
  ·have next:(∀a,0<i->xs[i-1]?=some a->a.1<x)->Ar .i64 ((i:Int)+1) λg=>(∃i:Nat,g=(i:Int)/\i<=xs.length/\aF U v7/\(∀(j:Nat) t,j<i->xs[j]?=some t->UN t.1 t.2.1 t.2.2=true)/\∀(j:Nat) a b,j+1<i->xs[j]?=some a->xs[j+1]?=some b->a.1<b.1)/\xs.length-g.toNat<xs.length-(i:Int).toNat:=by
    intro J;refine cT (m:=i+1) O O ⟨⟨i+1,rfl,O,w,λj t hj A=>?_,λj a b hj u d=>?_⟩,O⟩
    ·by_cases hji:j=i
     ·subst hji;rw[B]at A;cases A;exact hc
     ·exact Y j t O A
    ·by_cases hji:j+1=i
     ·subst hji;rw[B]at d;cases d;exact J a O u
     ·exact V j a b O u d
   refine cD rfl (cN (λJ=>?_) λJ=>cD rfl (next λa kj=>O))
   have p:xs[i-1]?=some (xs[i-1]' O):=cW _;generalize xs[i-1]' O=r at p;obtain⟨M,y',z'⟩:=r;have D:=Qz ha w;obtain⟨b,o,g1,g2,g3,g4,g5⟩:=D.2 (i-1) M y' z' p;have X:=W.bV K id;refine cT (m:=i-1) O O ?_;rw[g1];refine ix O O ?_;have E:cell v7 ⟨b,o+(((i-1:Nat):Int)).toNat*3+0,none⟩=some (.int .i64 M):=by simpa using g3
   have fin:If (decide (x<=M)) (R false v7) (Ar .i64 ((i:Int)+1) λg=>(∃i:Nat,g=(i:Int)/\i<=xs.length/\aF U v7/\(∀(j:Nat) t,j<i->xs[j]?=some t->UN t.1 t.2.1 t.2.2=true)/\∀(j:Nat) a b,j+1<i->xs[j]?=some a->xs[j+1]?=some b->a.1<b.1)/\xs.length-g.toNat<xs.length-(i:Int).toNat):=by
    refine cN (λQ=>G (.inr ⟨_,O,p,Q⟩)) λhgt=>next λa _ F=>?_
    rw[p]at F;cases F;simp only;omega
   rw[add_lit b o];exact⟨X.rI rfl (eN E fin),eN E (X.rI rfl fin)⟩
 ·have:i=xs.length:=by omega
  subst this;have H:Q0 xs=true:=(QW xs).2 ⟨O,O,λi t A=>Y i t (cX.1 A).1 A,λi a b u d=>V i a b (cX.1 d).1 u d⟩;have:=hR v e;rw[H]at this;exact this
end Go.Ar
namespace Go.Ar
open Go Go.Vc Go.Proofs
open Go.Bu (ZG Kj ZD)
variable {U:Hp}{F H:Rg}{p hs:Nat}{A:AR}{sp:Sp}{Y:Lay}{T:Nat->Hp->Rg->Prop}
open Classical in
theorem _root_.Go.Vc.Sep.put {L:Type}{C C':L->Hp->Rg->Prop}{U:Hp}{F G:Rg}(hC:∀i,dO (C i))(h:Sep C U F)(i:L)(hd:∀b,G b->¬F b)(hj:∀j,j≠i->C' j=C j)(hi:C' i U G)(hL:dO (C' i)):Sep C' U λb=>F b\/G b:=by
 obtain⟨ρ,h⟩:=h;refine⟨λb=>if G b then i else ρ b,λj=>?_⟩
 by_cases hji:j=i
 ·subst hji;exact hL.mono hi λb _ d=>⟨.inr d,zC d⟩
 ·rw[hj j hji];refine(hC j).mono (h j) λb _ a=>⟨.inl a.1,?_⟩;show(if G b then i else ρ b)=j
  rw[zB λg=>hd b g a.1];exact a.2
def gG (A:AR)(Y:Lay)(T:Nat->Hp->Rg->Prop)(cs:List Value):Lb->Hp->Rg->Prop
 | .hd=>iC Y.p cs
 | i=>AC A Y T i
theorem gG.loc {cs:List Value}(hT:∀k,dO (T k)):∀i,dO (gG A Y T cs i)
 | .hd=>iC.loc _ _
 | .dI=>AC.loc (A:=A) (Y:=Y) hT .dI
 | .free=>AC.loc (A:=A) (Y:=Y) hT .free
 | .oh=>AC.loc (A:=A) (Y:=Y) hT .oh
 | .own=>AC.loc (A:=A) (Y:=Y) hT .own
 | .dV=>AC.loc (A:=A) (Y:=Y) hT .dV
 | .cS=>AC.loc (A:=A) (Y:=Y) hT .cS
 | .runs=>AC.loc (A:=A) (Y:=Y) hT .runs
 | .cG k=>AC.loc (A:=A) (Y:=Y) hT (.cG k)
 | .cQ k=>AC.loc (A:=A) (Y:=Y) hT (.cQ k)
theorem Γ:gG A Y T (kY Y)=AC A Y T:=by
 funext i;cases i<;>rfl
theorem Ld {cs:List Value}(hT:∀k,dO (T k))(h:Sep (gG A Y T cs) U F)(hlen:A.cG.length<=Y.fM.length)(hl:Y.fM.length<=40){vb cp ty:Nat}(hb:bY U vb [.pointer (some ⟨cp,0,none⟩)])(hvb:¬F vb){K:Sl->Hp->Prop}
 (hK:∀s' σ',Ext F U σ'->Sep (gG A {Y with dV:=s',fM:=Y.fM++[cp]} T cs) σ' (Grow F U)->K s' σ'):App Y.dV 1 8 ty [.pointer none] ⟨some ⟨vb,0,none⟩,1,1⟩ U K:=by
 obtain⟨G,d,hi,_,a⟩:=h.j7 (gG.loc hT) .dV;have hi:bT Y.dV 1 (fQ Y.fM) U G:=hi;have m:Y.dV.len=Y.fM.length:=by have:=hi.1;simp[fQ]at this;omega
 refine hi.app (ys:=[.pointer (some ⟨cp,0,none⟩)]) rfl rfl ?_ (by simp[dX]) aC aC nr λs' σ' p e g=>hK s' σ' (e.sub d) ?_
 ·intro j u hu;rw[add_lit,zH,hb.cell];exact hu
 refine(Sep.loc (gG.loc hT)).mono (a σ' (gG A {Y with dV:=s',fM:=Y.fM++[cp]} T cs) (Grow G U) (λj i=>?_) e (λb hb=>hb) ?_ (gG.loc hT _)) λb _ hb=>GO d (λb hb=>hb) b hb
 ·cases j<;>first|rfl|exact absurd rfl i|skip
  rename_i k;show ke (Y.fM++[cp])[k]? A.tb[k]? A.cG[k]?=ke Y.fM[k]? A.tb[k]? A.cG[k]?;rcases ko k Y.fM.length with h1|h1
  ·rw[zd h1]
  ·have:A.cG[k]?=none:=zX O;rw[this]
   funext U F
   unfold ke;cases(Y.fM++[cp])[k]?<;>cases Y.fM[k]?<;>cases A.tb[k]?<;>rfl
 ·show bT s' 1 (fQ (Y.fM++[cp])) σ' (Grow G U);have:fQ (Y.fM++[cp])=fQ Y.fM++[.pointer (some ⟨cp,0,none⟩)]:=by simp[fQ]
  rw[this];exact g
theorem Nk (hlen:A.cQ.length<=Y.gD.length)(tp:Nat)(s':Sl):cM A {Y with cS:=s',gD:=Y.gD++[tp]}=cM A Y:=by
 funext k
 unfold cM;simp only;rcases ko k Y.gD.length with h1|h1
 ·rw[zd h1]
 ·have:A.cQ[k]?=none:=zX O;rw[this]
  funext U F
  unfold lx;cases(Y.gD++[tp])[k]?<;>cases Y.gD[k]?<;>cases A.tb[k]?<;>rfl
theorem IJ {cs:List Value}(h:Sep (gG A Y (cM A Y) cs) U F)(hlen:A.cQ.length<=Y.gD.length)(hl:Y.gD.length<=40){vb tp ty:Nat}(hb:bY U vb [.pointer (some ⟨tp,0,none⟩)])(hvb:¬F vb){K:Sl->Hp->Prop}
 (hK:∀s' σ',Ext F U σ'->Sep (gG A {Y with cS:=s',gD:=Y.gD++[tp]} (cM A {Y with cS:=s',gD:=Y.gD++[tp]}) cs) σ' (Grow F U)->K s' σ'):App Y.cS 1 8 ty [.pointer none] ⟨some ⟨vb,0,none⟩,1,1⟩ U K:=by
 have d:∀k,dO (cM A Y k):=λk=>cM.loc k;obtain⟨G,g,hi,_,a⟩:=h.j7 (gG.loc d) .cS;have hi:bT Y.cS 1 (fQ Y.gD) U G:=hi;have p:Y.cS.len=Y.gD.length:=by have:=hi.1;simp[fQ]at this;omega
 refine hi.app (ys:=[.pointer (some ⟨tp,0,none⟩)]) rfl rfl ?_ (by simp[dX]) aC aC nr λs' σ' r e m=>hK s' σ' (e.sub g) ?_
 ·intro j u hu;rw[add_lit,zH,hb.cell];exact hu
 rw[Nk hlen];refine(Sep.loc (gG.loc d)).mono (a σ' (gG A {Y with cS:=s',gD:=Y.gD++[tp]} (cM A Y) cs) (Grow G U) (λj i=>?_) e (λb hb=>hb) ?_ (gG.loc d _)) λb _ hb=>GO g (λb hb=>hb) b hb
 ·cases j<;>first|rfl|exact absurd rfl i
 ·show bT s' 1 (fQ (Y.gD++[tp])) σ' (Grow G U);have:fQ (Y.gD++[tp])=fQ Y.gD++[.pointer (some ⟨tp,0,none⟩)]:=by simp[fQ]
  rw[this];exact m
theorem Fa {cs:List Value}(hT:∀k,dO (T k))(h:Sep (gG A Y T cs) U F){i:Nat}{v:Value}(hi:i<cs.length){K:aP}(hK:∀σ',Ext F U σ'->Sep (gG A Y T (cs.set i v)) σ' F->K σ'):dF (Addr.add ⟨Y.p,0,none⟩ i) v U K:=by
 obtain⟨G,m,d,_,g⟩:=h.j7 (gG.loc hT) .hd;have d:iC Y.p cs U G:=d;refine d.2.s1 O λσ' o b=>hK σ' (o.ext.sub λb a=>by subst a;exact m _ d.1) ?_;rw[zH]at b;refine(Sep.loc (gG.loc hT)).mono (g σ' (gG A Y T (cs.set i v)) G (λj r=>?_) (o.ext.sub λb a=>by subst a;exact d.1) (λb a=>.inl a) ⟨d.1,b⟩ (gG.loc hT _)) λb _ a=>AY m (λb a=>a) b a;cases j<;>first|rfl|exact absurd rfl r
theorem mC {cs:List Value}(h:Sep (gG A Y T cs) U F):bY U Y.p cs/\F Y.p:=by
 obtain⟨G,b,d,a⟩:=h.get .hd;exact⟨a,b _ d⟩
theorem NW {cs:List Value}{i cp tp:Nat}{c:cA}{ss:List cH}{t:gO}{ps:List (Nat×Nat)}{Gc Gt:Rg}(h:Sep (gG A Y (cM A Y) cs) U F)(hlc:A.cG.length=i)(hlt:A.cQ.length=i)(hcp:Y.fM[i]?=some cp)(htp:Y.gD[i]?=some tp)(hc:A.tb[i]?=some c)
 (hC:fH U Gc cp c ps ss) (hTf:iT U Gt tp c.batch A.room t) (d1:∀b,Gc b->¬F b) (d2:∀b,Gt b->¬F b) (d3:∀b,Gc b->¬Gt b) :
 Sep (gG {A with cG:=A.cG++[ss],cQ:=A.cQ++[t]} Y (cM {A with cG:=A.cG++[ss],cQ:=A.cQ++[t]} Y) cs) U λb=>(F b\/Gc b)\/Gt b:=by
 have p:∀k,dO (cM A Y k):=λk=>cM.loc k;have u:Sep (gG {A with cG:=A.cG++[ss]} Y (cM A Y) cs) U λb=>F b\/Gc b:=by
  refine h.put (gG.loc p) (.cG i) d1 (λj m=>?_) ?_ (gG.loc p _)
  ·cases j<;>first|rfl|skip
   rename_i k;have r:k≠i:=λe=>m (by rw[e]);show ke Y.fM[k]? A.tb[k]? (A.cG++[ss])[k]?=ke Y.fM[k]? A.tb[k]? A.cG[k]?;rcases ko k i with h2|h2
   ·rw[zd O]
   ·have d:(A.cG++[ss])[k]?=none:=zX (by rw[zK,sv];omega);have g:A.cG[k]?=none:=zX O;rw[d,g]
  ·show ke Y.fM[i]? A.tb[i]? (A.cG++[ss])[i]? U Gc;rw[hcp,hc,zp O,hlc,pH];exact⟨ps,hC⟩
 refine u.put (gG.loc p) (.cQ i) (λb s a=>?_) (λj m=>?_) ?_ (gG.loc (λk=>cM.loc k) _)
 ·rcases a with a|a
  ·exact d2 b s a
  ·exact d3 b a s
 ·cases j<;>first|rfl|skip
  rename_i k;have r:k≠i:=λe=>m (by rw[e]);show lx Y.gD[k]? A.tb[k]? A.room (A.cQ++[t])[k]?=lx Y.gD[k]? A.tb[k]? A.room A.cQ[k]?;rcases ko k i with h2|h2
  ·rw[zd O]
  ·have d:(A.cQ++[t])[k]?=none:=zX (by rw[zK,sv];omega);have g:A.cQ[k]?=none:=zX O;rw[d,g]
 ·show lx Y.gD[i]? A.tb[i]? A.room (A.cQ++[t])[i]? U Gt;rw[htp,hc,zp O,hlt,pH];exact hTf
open Classical in
noncomputable def jG {L:Type}(C:L->Hp->Rg->Prop)(S:L->Prop)(i:L):Hp->Rg->Prop:=if S i then C i else Ap
theorem jG.loc {L:Type}{C:L->Hp->Rg->Prop}{S:L->Prop}(hC:∀i,dO (C i))(i:L):dO (jG C S i):=by
 unfold jG;split
 ·exact hC i
 ·exact Ap.loc
theorem jG.put {L:Type}{C:L->Hp->Rg->Prop}{S:L->Prop}{F G:Rg}(hC:∀i,dO (C i))(h:Sep (jG C S) U F)(i:L)(hd:∀b,G b->¬F b)(hi:C i U G):Sep (jG C λj=>S j\/j=i) U λb=>F b\/G b:=by
 refine h.put (jG.loc hC) i hd (λj a=>?_) ?_ (jG.loc hC i)
 ·unfold jG;by_cases hS:S j
  ·rw[zC (.inl hS),zC hS]
  ·rw[zB (λh=>hS (h.resolve_right a)),zB hS]
 ·unfold jG;rw[zC (.inr rfl)];exact hi
theorem jG.all {L:Type}{C:L->Hp->Rg->Prop}{S:L->Prop}{F:Rg}(h:Sep (jG C S) U F)(hS:∀i,S i):Sep C U F:=by
 have:jG C S=C:=by
  funext i;unfold jG;rw[zC (hS i)]
 rw[this]at h;exact h
theorem jG.one {L:Type}{C:L->Hp->Rg->Prop}(S:L->Prop)(l:L)(h:∀i,S i->C i U λ_=>False):Sep (jG C S) U λ_=>False:=by
 refine⟨λ_=>l,λi=>?_⟩;have:(λ(b:Nat)=>False/\l=i)=λ_=>False:=by funext b;simp
 rw[this];unfold jG;by_cases hS:S i
 ·rw[zC hS];exact h i hS
 ·rw[zB hS];trivial
theorem Nx {tb:List cA}:∀v∈gJ tb,dX v=true:=by
 intro v hv;simp only[gJ,List.mem_flatMap]at hv;obtain⟨c,_,a⟩:=hv;simp at a;rcases a with rfl|rfl|rfl<;>rfl
theorem H6 {s:Sl}{xs:List (Int×Int×Int)}(ha:ik U s xs)(hv:Q0 xs=true){i:Nat}{c:cA}(hc:(xs.map QJ)[i]?=some c):xs[i]?=some ((c.size:Int),(c.aG:Int),(c.batch:Int))/\c.ok:=by
 rw[zZ,od]at hc;obtain⟨⟨x,y,z⟩,d,rfl⟩:=hc;obtain⟨c,a,m,j,b,g⟩:=y8 (((QW xs).1 hv).2.2.1 i _ d);simp only at j b g;rw[m,d,j,b,g];exact⟨rfl,a⟩
theorem Ur {s:Sl}{xs:List (Int×Int×Int)}(ha:ik U s xs)(hv:Q0 xs=true){R:Sl->Hp->Prop}(hR:∀s' σ',aF U σ'->cV s' 3 (gJ (xs.map QJ)) σ' (λb=>U.size<=b)->R s' σ'):Wo.c s U R:=by
 refine Wo.o ?_;unfold Wo.v;have A:=(QW xs).1 hv;have y:=ha.1;have p:0<(xs.map QJ).length:=by rw[zk];omega
 have J:(xs.map QJ)[0]?=some (xs.map QJ)[0]:=cW p;obtain⟨L,d,a,_⟩:=ha.2 0 _ _ _ (H6 ha hv J).1;refine cD (by rw[a];rfl) (nw (cs:=[]) λv E e1 B=>?_);have x:=Qz ha e1;refine(bT.nil v (λb=>U.size<=b) 3 (some ⟨U.size,0,none⟩)).app (ys:=gJ (xs.map QJ)) rfl (by rw[Uq,zk];omega) ?_ Nx aC aC O λs' F K D m=>hR s' F (Ext.fresh e1 D λi hi=>hi) ?_
 ·rw[a];intro j u hu;have w:=(cX.1 hu).1;rw[Uq,zk]at w;have hi:j/3<(xs.map QJ).length:=by rw[zk];omega
  have r:(xs.map QJ)[j/3]?=some (xs.map QJ)[j/3]:=cW hi;generalize (xs.map QJ)[j/3]=c at r;have g:=AX r;obtain⟨b,o,z,_,G,H,C⟩:=x.2 (j/3) _ _ _ (H6 ha hv r).1;rw[a]at z;cases z;rw[add_lit];rcases(by omega:j=3*(j/3)\/j=3*(j/3)+1\/j=3*(j/3)+2)with hj|hj|hj
  ·rw[hj]at hu;rw[g.1]at hu;cases hu;rw[show d+j=d+j/3*3 by omega];exact G
  ·rw[hj]at hu;rw[g.2.1]at hu;cases hu;rw[show d+j=d+j/3*3+1 by omega];exact H
  ·rw[hj]at hu;rw[g.2.2]at hu;cases hu;rw[show d+j=d+j/3*3+2 by omega];exact C
 ·rw[tu]at m;refine aH.mono m.fW λb _ g=>?_;rcases g with h|h
  ·exact h
  ·omega
def fG (n room:Nat)(tb:List cA):AR:={n:=n,room:=room,tb:=tb,S:=Go.Bu.iB,st:=List.replicate n 0,ow:=λ_=>0,cG:=List.replicate tb.length [],cQ:=List.replicate tb.length ⟨0,[]⟩,runs:=[]}
def jv (n room:Nat)(tb:List cA)(i:Nat):AR:={fG n room tb with cG:=List.replicate i [],cQ:=List.replicate i ⟨0,[]⟩}
def lC (xs:List (Int×Int×Int))(n:Nat)(room:Int):Int:=if Q0 xs then(if 32<=n/\n%16=0/\0<=room/\room<=8 then 0 else 1)else 2
def S0:Lb->Prop
 | .dV | .cS | .cG _ | .cQ _=>True
 | _=>False
theorem ES {i cp tp:Nat}{c:cA}{ss:List cH}{t:gO}{ps:List (Nat×Nat)}{Gc Gt:Rg}{dV cS:Sl}(hpos:Y.fM.length=i/\Y.gD.length=i)
 (h:Sep (gG A {Y with dV:=dV,cS:=cS,fM:=Y.fM++[cp],gD:=Y.gD++[tp]} (cM A {Y with dV:=dV,cS:=cS,fM:=Y.fM++[cp],gD:=Y.gD++[tp]}) (kY Y)) U F)
 (hlc:A.cG.length=i) (hlt:A.cQ.length=i) (hc:A.tb[i]?=some c) (hC:fH U Gc cp c ps ss) (hTf:iT U Gt tp c.batch A.room t) (d1:∀b,Gc b->¬F b) (d2:∀b,Gt b->¬F b) (d3:∀b,Gc b->¬Gt b) {K:aP}
 (hK:∀σ' Y',Ext F U σ'->Y'.p=Y.p->Y'.hs=Y.hs->Y'.fM.length=i+1->Y'.gD.length=i+1->Sep (gG {A with cG:=A.cG++[ss],cQ:=A.cQ++[t]} Y' (cM {A with cG:=A.cG++[ss],cQ:=A.cQ++[t]} Y') (kY Y')) σ' (λb=>(F b\/Gc b)\/Gt b)->K σ') :
 bW (some ⟨Y.p,0,none⟩) λa93=>dF (a93.add 5) (.slice dV.a dV.len dV.cap) U λv25=>bW (some ⟨Y.p,0,none⟩) λa95=>dF (a95.add 6) (.slice cS.a cS.len cS.cap) v25 K:=by
 have r:∀k,dO (cM A {Y with dV:=dV,cS:=cS,fM:=Y.fM++[cp],gD:=Y.gD++[tp]} k):=λk=>cM.loc k;refine bL (Fa (Y:={Y with dV:=dV,cS:=cS,fM:=Y.fM++[cp],gD:=Y.gD++[tp]}) r h (i:=5) (by simp[kY]) λy e1 w=>bL (Fa (Y:={Y with dV:=dV,cS:=cS,fM:=Y.fM++[cp],gD:=Y.gD++[tp]}) r w (i:=6) (by simp[kY]) λx e2 u=>?_));have m:=(fH.loc (c:=c) (ps:=ps) (ss:=ss) (p:=cp)).bS ((fH.loc (c:=c) (ps:=ps) (ss:=ss) (p:=cp)).bS hC e1 λb _ d g=>d1 b d g) e2 λb _ d g=>d1 b d g;have j:=(iT.loc (p:=tp) (batch:=c.batch) (room:=A.room) (t:=t)).bS ((iT.loc (p:=tp) (batch:=c.batch) (room:=A.room) (t:=t)).bS hTf e1 λb _ d g=>d2 b d g) e2 λb _ d g=>d2 b d g;have s:=NW (cp:=cp) (tp:=tp) u hlc hlt (by simp only;rw[zp O,hpos.1,pH];rfl) (by simp only;rw[zp O,hpos.2,pH];rfl) hc m j d1 d2 d3;exact hK x {Y with dV:=dV,cS:=cS,fM:=Y.fM++[cp],gD:=Y.gD++[tp]} (e1.trans e2) rfl rfl (by simp[hpos.1]) (by simp[hpos.2]) s
theorem q8 {cs:List Value}{σ':Hp}(hT:∀k,dO (T k))(h:Sep (gG A Y T cs) U F)(e:aF U σ'):Sep (gG A Y T cs) σ' F:=(Sep.loc (gG.loc hT)).bP h e
theorem Ip {cs:List Value}(hT:∀k,dO (T k))(h:Sep (gG A Y T cs) U F):Sep (gG A Y T cs) U (Cut F U):=(Sep.loc (gG.loc hT)).cut h
theorem Ta (n room:Nat)(tb:List cA)(i:Nat):({jv n room tb i with cG:=(jv n room tb i).cG++[[]],cQ:=(jv n room tb i).cQ++[⟨0,[]⟩]}:AR)=jv n room tb (i+1):=by
 unfold jv;simp only[←BC]
theorem Od (n room:Nat)(tb:List cA):jv n room tb tb.length=fG n room tb:=rfl
theorem WoL {i cp tp:Nat}{c:cA}{ss:List cH}{t:gO}{ps:List (Nat×Nat)}{Gc Gt:Rg}{z:Nat}(hF:∀b,F b->z<=b/\b<U.size)(hpos:Y.fM.length=i/\Y.gD.length=i)(hi:i<40)
 (h:Sep (gG A Y (cM A Y) (kY Y)) U F) (hlc:A.cG.length=i) (hlt:A.cQ.length=i) (hc:A.tb[i]?=some c) (hC:fH U Gc cp c ps ss) (hTf:iT U Gt tp c.batch A.room t) (d1:∀b,Gc b->¬F b/\z<=b/\b<U.size) (d2:∀b,Gt b->¬F b/\z<=b/\b<U.size) (d3:∀b,Gc b->¬Gt b) {J4:aP}
 (hK:∀σ' Y',Ext F U σ'->Y'.p=Y.p->Y'.hs=Y.hs->Y'.fM.length=i+1->Y'.gD.length=i+1->Sep (gG {A with cG:=A.cG++[ss],cQ:=A.cQ++[t]} Y' (cM {A with cG:=A.cG++[ss],cQ:=A.cQ++[t]} Y') (kY Y')) σ' (λb=>z<=b)->J4 σ') :
 dS U λS=>bW (some ⟨Y.p,0,none⟩) λa80=>gC S .s (a80.add 5) λ(t82:Sl)=>bW (some ⟨Y.p,0,none⟩) λa87=>gC S .s (a87.add 6) λ(t89:Sl)=>
  (Nw (.cells #[.pointer (some ⟨cp,0,none⟩)] 202 (0,0)) U λn84 v21=>And (S v21) <|
   (App t82 1 8 202 [.pointer none] ⟨some n84,1,1⟩ v21 λt85 v22=>And (S v22)<|Nw (.cells #[.pointer (some ⟨tp,0,none⟩)] 204 (0,0)) v22 λn91 v23=>And (S v23)<|App t89 1 8 204 [.pointer none] ⟨some n91,1,1⟩ v23 λt92 v24=>And (S v24) <|
   bW (some ⟨Y.p,0,none⟩) λa93=>dF (a93.add 5) (.slice t85.a t85.len t85.cap) v24 λv25=>bW (some ⟨Y.p,0,none⟩) λa95=>dF (a95.add 6) (.slice t92.a t92.len t92.cap) v25 λv26=>J4 v26) ∧
   (Nw (.cells #[.pointer (some ⟨tp,0,none⟩)] 204 (0,0)) v21 λn911 v27=>And (S v27)<|App t82 1 8 202 [.pointer none] ⟨some n84,1,1⟩ v27 λt851 v28=>And (S v28)<|App t89 1 8 204 [.pointer none] ⟨some n911,1,1⟩ v28 λt921 v29=>And (S v29) <|
   bW (some ⟨Y.p,0,none⟩) λa931=>dF (a931.add 5) (.slice t851.a t851.len t851.cap) v29 λv30=>bW (some ⟨Y.p,0,none⟩) λa951=>dF (a951.add 6) (.slice t921.a t921.len t921.cap) v30 λv31=>J4 v31)) ∧
  (Nw (.cells #[.pointer (some ⟨tp,0,none⟩)] 204 (0,0)) U λn912 v32=>And (S v32)<|Nw (.cells #[.pointer (some ⟨cp,0,none⟩)] 202 (0,0)) v32 λn841 v33=>And (S v33) <|
  App t82 1 8 202 [.pointer none] ⟨some n841,1,1⟩ v33 λt852 v34=>And (S v34)<|App t89 1 8 204 [.pointer none] ⟨some n912,1,1⟩ v34 λt922 v35=>And (S v35) <|
  bW (some ⟨Y.p,0,none⟩) λa932=>dF (a932.add 5) (.slice t852.a t852.len t852.cap) v35 λv36=>bW (some ⟨Y.p,0,none⟩) λa952=>dF (a952.add 6) (.slice t922.a t922.len t922.cap) v36 λv37=>J4 v37):=by
 have G:∀k,dO (cM A Y k):=λk=>cM.loc k;have K:=fH.loc (c:=c) (ps:=ps) (ss:=ss) (p:=cp);have P:=iT.loc (p:=tp) (batch:=c.batch) (room:=A.room) (t:=t);refine⟨λm=>bY m Y.p (kY Y),(mC h).1,bL ⟨Y.dV,λm hm=>by rw[add_lit,hm.cell];rfl,bL ⟨Y.cS,λm hm=>by rw[add_lit,hm.cell];rfl,?_⟩⟩⟩;have D:∀(w:Hp) (F1:Rg) (b1 b2:Nat),aF U w->(∀b,F1 b->F b)->Sep (gG A Y (cM A Y) (kY Y)) w F1->bY w b1 [.pointer (some ⟨cp,0,none⟩)]->bY w b2 [.pointer (some ⟨tp,0,none⟩)]->U.size<=b1->U.size<=b2 →
  App Y.dV 1 8 202 [.pointer none] ⟨some ⟨b1,0,none⟩,1,1⟩ w λt85 v28=>And (bY v28 Y.p (kY Y))<|App Y.cS 1 8 204 [.pointer none] ⟨some ⟨b2,0,none⟩,1,1⟩ v28 λt92 v29=>And (bY v29 Y.p (kY Y)) <|
   bW (some ⟨Y.p,0,none⟩) λa93=>dF (a93.add 5) (.slice t85.a t85.len t85.cap) v29 λv30=>bW (some ⟨Y.p,0,none⟩) λa95=>dF (a95.add 6) (.slice t92.a t92.len t92.cap) v30 λv31=>J4 v31:=by
  intro w F1 b1 b2 ew hF1 hw hb1 hb2 hz1 hz2;have B:∀b,F1 b->z<=b/\b<U.size:=λb d=>hF b (hF1 b d);have hsw:=ew.1;refine Ld G hw O O hb1 (λg=>by have:=B _ g;omega) λs1 v28 H aa=>?_;have ab:=(mC aa).1;have ad:Sep (gG A {Y with dV:=s1,fM:=Y.fM++[cp]} (cM A {Y with dV:=s1,fM:=Y.fM++[cp]}) (kY Y)) v28 (Grow F1 w):=aa;refine⟨ab,?_⟩;have c28:Sep (gG A {Y with dV:=s1,fM:=Y.fM++[cp]} (cM A {Y with dV:=s1,fM:=Y.fM++[cp]}) (kY Y)) v28 (λb=>F1 b\/w.size<=b):=ad;have Q:=H.bV hb2 λg=>by have:=B _ g;omega
  have hb2lt:=hb2.lt;refine IJ c28 aC aC Q (λg=>by
   rcases g with g|g
   ·have:=B _ g;omega
   ·omega) λs2 v29 e29 Z=>?_
  refine⟨(mC Z).1,?_⟩;have E:∀b,(F1 b\/w.size<=b)->F b\/U.size<=b:=λb d=>by
   rcases d with d|d
   ·exact .inl (hF1 b d)
   ·exact .inr O
  have j:Ext F U v29:=((aF.to ew).trans (H.sub hF1)).dW e29 E;have N:=K.bS hC j λb _ d g=>(d1 b d).1 g;have R:=P.bS hTf j λb _ d g=>(d2 b d).1 g;have hs28:=H.1;refine ES (F:=Grow (λb=>F1 b\/w.size<=b) v28) hpos Z hlc hlt hc N R (λb d g=>?_) (λb d g=>?_) d3 λw2 Y' e2 p1 p2 p3 p4 h2=>?_
  ·have:=d1 b d;rcases g with(g|g)|g
   ·exact this.1 (hF1 b g)
   ·omega
   ·omega
  ·have:=d2 b d;rcases g with(g|g)|g
   ·exact this.1 (hF1 b g)
   ·omega
   ·omega
  ·refine hK w2 Y' (j.dW e2 λb d=>?_) p1 p2 p3 p4 ((Sep.loc (gG.loc (λk=>cM.loc k))).mono h2 λb _ d=>?_)
   ·rcases d with(d|d)|d
    ·exact .inl (hF1 b d)
    ·exact .inr O
    ·exact .inr O
   ·have hz0:z<=U.size:=by have:=(d1 _ hC.fp);omega
    rcases d with(((d|d)|d)|d)|d
    ·exact(B b d).1
    ·omega
    ·omega
    ·exact(d1 b d).2.1
    ·exact(d2 b d).2.1
 have S0:∀{w:Hp},aF U w->bY w Y.p (kY Y):=λe=>e.bV (mC h).1 id;refine⟨nw (cs:=[.pointer (some ⟨cp,0,none⟩)]) λv21 z21 u af=>⟨S0 u,?_,?_⟩,nw (cs:=[.pointer (some ⟨tp,0,none⟩)]) λv32 z32 y b32=>⟨S0 y,nw (cs:=[.pointer (some ⟨cp,0,none⟩)]) λv33 z33 x b33=>⟨S0 (Ext.trans y x),?_⟩⟩⟩
 ·-- row,box,row
  have h21:=q8 G h u;refine Ld G h21 O O af (λg=>by have:=hF _ g;omega) λs1 v22 M W=>⟨(mC W).1,?_⟩;have V:Sep (gG A {Y with dV:=s1,fM:=Y.fM++[cp]} (cM A {Y with dV:=s1,fM:=Y.fM++[cp]}) (kY Y)) v22 (Grow F v21):=W;have c22:=Ip (λk=>cM.loc k) V;refine nw (cs:=[.pointer (some ⟨tp,0,none⟩)]) λv23 z23 J b23=>?_;have ac:=q8 (λk=>cM.loc k) c22 J;refine⟨(mC ac).1,IJ ac aC aC b23 (λg=>by have:=g.2;omega) λs2 v24 e24 L=>⟨(mC L).1,?_⟩⟩;have hs22:=M.1;have hs23:=J.1;have r:∀b,Cut (Grow F v21) v22 b->F b\/U.size<=b:=λb d=>by
   rcases d.1 with h|h
   ·exact .inl h
   ·exact .inr O
  have j:Ext F U v24:=((((aF.to u).trans M).gp J)).dW e24 r;have ae:=K.bS hC j λb _ d g=>(d1 b d).1 g;have X:=P.bS hTf j λb _ d g=>(d2 b d).1 g;refine ES (F:=Grow (Cut (Grow F v21) v22) v23) hpos L hlc hlt hc ae X (λb d g=>?_) (λb d g=>?_) d3 λw2 Y' e2 p1 p2 p3 p4 h2=>?_
  ·have:=d1 b d;rcases g with g|g
   ·rcases g.1 with g|g
    ·exact this.1 g
    ·omega
   ·omega
  ·have:=d2 b d;rcases g with g|g
   ·rcases g.1 with g|g
    ·exact this.1 g
    ·omega
   ·omega
  ·refine hK w2 Y' (j.dW e2 λb d=>?_) p1 p2 p3 p4 ((Sep.loc (gG.loc (λk=>cM.loc k))).mono h2 λb _ d=>?_)
   ·rcases d with d|d
    ·exact r b d
    ·exact .inr O
   ·have hz0:z<=U.size:=by have:=(d1 _ hC.fp);omega
    rcases d with((d|d)|d)|d
    ·rcases r b d with h|h
     ·exact(hF b h).1
     ·omega
    ·omega
    ·exact(d1 b d).2.1
    ·exact(d2 b d).2.1
 ·-- box,row,row
  refine nw (cs:=[.pointer (some ⟨tp,0,none⟩)]) λv27 z27 C b27=>⟨S0 (Ext.trans u C),?_⟩;exact D v27 F U.size v21.size (Ext.trans u C) (λb d=>d) (q8 G (q8 G h u) C) (C.bV af id) b27 (zD _) O
 ·exact D v33 F v32.size U.size (Ext.trans y x) (λb d=>d) (q8 G (q8 G h y) x) b33 (x.bV b32 id) O (zD _)
theorem A4 {P:Hp->Rg->Prop}(hl:dO P){a:Nat}(h:P U λb=>a<=b):P U λb=>a<=b/\b<U.size:=hl.mono h λb g d=>⟨d,g⟩
theorem Υ {n room:Nat}{tb:List cA}(h1:32<=n)(h2:n<=1024)(h3:n%16=0)(h4:room<=8)(h5:1<=tb.length)(h6:tb.length<=40)(h7:∀c∈tb,c.ok)(hc:Y.fM.length=tb.length)(ht:Y.gD.length=tb.length):eZ (fG n room tb) Y:=
 ⟨hc,ht,by simp[fG],by simp[fG],h5,h6,h1,h2,h3,by simp[fG],h4,h7⟩
theorem OA {s:Sl}{xs:List (Int×Int×Int)}(ha:ik U s xs)(hS:dQ U H hs sp)(room:Int){R:Option Addr->Int->Hp->Prop}
 (h0:lC xs sp.st.length room≠0->∀σ',aF U σ'->R none (lC xs sp.st.length room) σ')
 (h1:lC xs sp.st.length room=0->∀σ' Y,aF U σ'->Y.hs=hs->dK σ' (λb=>U.size<=b) Y (fG sp.st.length room.toNat (xs.map QJ)) (cM (fG sp.st.length room.toNat (xs.map QJ)) Y)->R (some ⟨Y.p,0,none⟩) 0 σ') :
 Ky.c s (some ⟨hs,0,none⟩) room U R:=by
 refine Ky.o ?_;unfold Ky.v;have hn2:sp.st.length<=1024:=by obtain⟨q,r,l,B,h⟩:=hS;exact h.n2
 refine yI ha λv e=>?_;cases hv:Q0 xs
 ·have e1:lC xs sp.st.length room=2:=by unfold lC;rw[hv];rfl
  have:=h0 (by rw[e1];decide) v e;rw[e1]at this;exact cF rfl this
 have eE:lC xs sp.st.length room=if 32<=sp.st.length/\sp.st.length%16=0/\0<=room/\room<=8 then 0 else 1:=by unfold lC;rw[hv,zC rfl]
 refine cD rfl (Jq (hS.bP e) ?_);have C:¬(32<=sp.st.length/\sp.st.length%16=0/\0<=room/\room<=8)->R none 1 v:=λhn=>by
  rw[zB hn]at eE;have:=h0 (by rw[eE];decide) v e;rw[eE]at this;exact this
 have tm:(((sp.st.length:Nat):Int).tmod 16)=((sp.st.length%16:Nat):Int):=by rw[Kh O];simp
 refine bX.intro (cN (λc1=>bX.intro (cF rfl (bX.intro (cF rfl (cF rfl (C O)))))) λc1=>nz aB ?_);rw[tm,LR];refine bX.intro (cR (λc2=>bX.intro (cF rfl (cF rfl (C (λh=>by have:=h.2.1;simp[this]at c2))))) λc2=>?_);have aa:sp.st.length%16=0:=by simpa using c2
 refine bX.intro (cN (λc3=>cF rfl (C O)) λc3=>cN (λc4=>C O) λc4=>?_);obtain⟨V,rfl⟩:=zc (show 0<=room by omega);rw[zC O]at eE;have h1:=h1 eE;simp only[dG]at h1;have hva:=(QW xs).1 hv;have N:=Qz ha e;have hn1:32<=sp.st.length:=by omega
 generalize sp.st.length=n at *;have hlen:s.len=(xs.map QJ).length:=by rw[zk];exact ha.1
 have hcl:∀{σ':Hp} {i:Nat} {c:cA},ik σ' s xs->(xs.map QJ)[i]?=some c->xs[i]?=some ((c.size:Int),(c.aG:Int),(c.batch:Int))/\c.ok:=λh Q=>H6 h hv Q;have J:1<=(xs.map QJ).length/\(xs.map QJ).length<=40:=by rw[zk];omega
 refine Ur N hv λdI v5 e5 htab=>WmI λW op e6 hop hP=>tG λA z7 e7 hm=>?_;generalize htbd:xs.map QJ=tb at *;refine nw (cs:=[.slice dI.a dI.len dI.cap,.pointer (some ⟨hs,0,none⟩),.pointer none,.pointer none,.pointer (some ⟨op,0,none⟩),.slice none 0 0,.slice none 0 0,.map (some W.size)]) λv8 z8 e8 b8=>?_;refine Go.Bu.uf _ (λg=>absurd ⟨O,O⟩ g) λn' hn' _ _ v9 sb ms e9 hB hfp=>?_;have hnn:n=n':=by omega
 subst hnn;have b9:=e9.bV b8 id;refine bL (b9.s1 aA λv10 gA b10=>S2 O O aa λL tp tq K htp htq hTk=>bL ((K.bV b10 id).s1 aA λv12 S b12=>?_));have s5:=e5.1;have s6:=e6.1;have s9:=e9.1;have s10:=gA.1;have s11:=K.1;have s12:=S.1;have hb8:=b8.lt;have x9:Ext (· = A.size) v9 v12:=(gA.ext.trans (aF.to K)).trans S.ext;have x5:Ext (· = A.size) v5 v12:=(aF.to (Ext.trans (Ext.trans (Ext.trans e6 e7) e8) e9)).trans x9;have x6:Ext (· = A.size) W v12:=(aF.to (Ext.trans (Ext.trans e7 e8) e9)).trans x9;have x7:Ext (· = A.size) A v12:=(aF.to (Ext.trans e8 e9)).trans x9;have x11:Ext (· = A.size) L v12:=S.ext;have p1:=aH.bS (A4 aH htab) x5 λb _ g d=>by omega
 have p2:=(jl.loc (p:=op) (ow:=λ_=>0)).bS (A4 jl.loc hP) x6 λb _ g d=>by omega
 have p3:dM v12 W.size .i64 bO []:=x7.fV (hm _ _) O;have p5:tL v8.size n Go.Bu.iB v12 (λb=>v8.size<=b/\b<v9.size):=(tL.loc _ _ _).bS (A4 (tL.loc _ _ _) ⟨sb,ms,hB,hfp⟩) x9 λb _ g d=>by omega
 have p6:mL tp (List.replicate n 0) v12 (λb=>v10.size<=b/\b<L.size):=(mL.loc _ _).bS (A4 (mL.loc _ _) ⟨tq,hTk,htp,htq⟩) x11 λb _ g d=>by omega
 let Y0:Lay:={p:=A.size,hs:=hs,fr:=v8.size,tr:=tp,op:=op,rn:=W.size,dI:=dI,dV:=⟨none,0,0⟩,cS:=⟨none,0,0⟩,fM:=[],gD:=[]}
 have b12':bY v12 A.size (kY Y0):=b12
 let Cf:=gG (jv n V tb 0) Y0 (cM (jv n V tb 0) Y0) (kY Y0)
 have u:∀i,dO (Cf i):=gG.loc λk=>cM.loc k;have q0:Sep (jG Cf S0) v12 λ_=>False:=jG.one S0 .hd λi hi=>by
  cases i<;>first|exact hi.elim|exact bT.nil _ _ _ _|exact trivial
 have q1:=jG.put u q0 .dI (G:=λb=>v.size<=b/\b<v5.size) (λb g d=>d) p1;have q2:=jG.put u q1 .own (G:=λb=>v5.size<=b/\b<W.size) (λb g d=>by
  rcases d with d|d
  ·exact d
  ·omega) p2
 have q3:=jG.put u q2 .runs (G:=λb=>b=W.size) (λb g d=>by
  rcases d with(d|d)|d
  ·exact d
  ·omega
  ·omega) ⟨rfl,p3⟩
 have q4:=jG.put u q3 .hd (G:=λb=>b=A.size) (λb g d=>by
  rcases d with((d|d)|d)|d
  ·exact d
  ·omega
  ·omega
  ·omega) ⟨rfl,b12'⟩
 have q5:=jG.put u q4 .free (G:=λb=>v8.size<=b/\b<v9.size) (λb g d=>by
  rcases d with(((d|d)|d)|d)|d
  ·exact d
  ·omega
  ·omega
  ·omega
  ·omega) p5
 have q6:=jG.put u q5 .oh (G:=λb=>v10.size<=b/\b<L.size) (λb g d=>by
  rcases d with((((d|d)|d)|d)|d)|d
  ·exact d
  ·omega
  ·omega
  ·omega
  ·omega
  ·omega) p6
 have q7:Sep Cf v12 λb=>v.size<=b:=by
  refine(Sep.loc u).mono (jG.all q6 λi=>?_) λb _ d=>?_
  ·cases i<;>simp[S0]
  ·rcases d with(((((d|d)|d)|d)|d)|d)|d
   ·exact d.elim
   ·omega
   ·omega
   ·omega
   ·omega
   ·omega
   ·omega
 have e12:aF v v12:=Ext.fresh e5 x5 λi hi=>by omega
 have szv:=e.1;refine Qj (a:=bO) (λ(t:Int) w=>∃(i:Nat) (Y:Lay),t=(i:Int)/\i<=tb.length/\Y.p=A.size/\Y.hs=hs/\Y.fM.length=i/\Y.gD.length=i/\aF v w/\Sep (gG (jv n V tb i) Y (cM (jv n V tb i) Y) (kY Y)) w (λb=>v.size<=b)) (λt _=>tb.length-t.toNat)
  ⟨0,Y0,rfl,O,rfl,rfl,rfl,rfl,e12,q7⟩ ?_
 rintro t w ⟨i,Y,rfl,hi,ab,ad,hYc,X,ew,y⟩;refine cN (λhlt=>?_) λhge=>?_
 ·have hi':i<tb.length:=by omega
  have Q:tb[i]?=some tb[i]:=cW hi';generalize tb[i]=c at Q;have ac:=Qz N ew;obtain⟨hxi,hok⟩:=hcl ac Q;refine Au ac hxi ?_;refine nw (cs:=[.int .i64 0,.int .i64 0,.int .i64 0]) λv14 hz14 e14 b14=>b14.s1 aA λv15 o15 b15=>b15.s1 aA λv16 o16 b16=>b16.s1 aA λv17 o17 b17=>?_;have M:aF w v17:=Ext.fresh (Ext.fresh (Ext.fresh e14 o15.ext λi hi=>O) o16.ext λi hi=>O) o17.ext λi hi=>by omega
  have x:bY v17 w.size [.int .i64 (c.size:Int),.int .i64 (c.aG:Int),.int .i64 (c.batch:Int)]:=b17;refine x.rI rfl (x.rI rfl (x.rI rfl (Wm4 hok λv18 cp E hcp1 hcp2 hCe=>?_)));have b18:=E.bV x id;obtain⟨_,_,_,_,_,_,Z,hbt2⟩:=id hok;refine b18.rI rfl (Pq Z hbt2 O λv19 tp2 D htp1 htp2 hTf=>Jn.intro ?_);have s14:=M.1;have s18:=E.1;have s19:=D.1;have sw:=ew.1;have hT:∀k,dO (cM (jv n V tb i) Y k):=λk=>cM.loc k;have h19:=q8 hT (q8 hT (q8 hT (Ip hT y) M) E) D;have P:=hCe.bP D;rw[←ab];refine WoL (F:=Cut (λb=>v.size<=b) w) (z:=v.size) (ss:=[]) (t:=⟨0,[]⟩) (λb g=>⟨g.1,by have:=g.2;omega⟩) ⟨hYc,X⟩ O h19 (by simp[jv]) (by simp[jv]) Q P hTf (λb g=>?_) (λb g=>?_) (λb g hb2=>O) λw2 Y' e2 y1 y2 y3 y4 h2=>?_
  ·subst g;exact⟨λd=>by have:=d.2;omega,O,O⟩
  ·subst g;exact⟨λd=>by have:=d.2;omega,O,O⟩
  ·rw[Ta]at h2;exact cT (m:=i+1) O O ⟨⟨i+1,Y',rfl,O,y1,y2.trans ad,y3,y4,Ext.fresh (Ext.trans (Ext.trans (Ext.trans ew M) E) D) e2 λb g=>g.1,h2⟩,O⟩
 ·have:i=tb.length:=by omega
  subst this;rw[Od,Γ]at y;have hl:eZ (fG n V tb) Y:=Υ hn1 hn2 aa O J.1 J.2 (λc Q=>by
   obtain⟨j,hj⟩:=zP Q;exact(hcl N hj).2) hYc X
  have:=h1 w Y (Ext.trans e ew) ad ⟨hl,λk=>cM.loc k,(Sep.loc (AC.loc λk=>cM.loc k)).mono y λb _ g=>ku szv g⟩;rw[ab]at this;exact this
end Go.Ar
namespace Go.Vc
open Go
variable {U:Hp}{F:Rg}{s:Sl}{sz:Nat}{xs:List Value}
def dL (s:Sl)(sz:Nat)(xs:List Value):Hp->Rg->Prop:=λh F=>xs.length=s.len*sz/\(s.len=0/\s.cap=0\/∃b o cs,F b/\s.a=some ⟨b,o,none⟩/\bY h b cs/\s.len<=s.cap/\cs.length=o+s.cap*sz/\(cs.drop o).take xs.length=xs)
theorem dL.loc (s:Sl)(sz:Nat)(xs:List Value):dO (dL s sz xs):=λU g F G h d a=>by
 refine⟨h.1,h.2.imp id ?_⟩;rintro⟨b,o,cs,hq,ha,⟨e,he⟩,r⟩;have:=a b (bY.lt ⟨e,he⟩) hq;exact⟨b,o,cs,this.1,ha,⟨e,this.2.trans he⟩,r⟩
theorem dL.nil (h:Hp)(F:Rg)(sz:Nat)(a:Option Addr):dL ⟨a,0,0⟩ sz [] h F:=⟨by simp,.inl ⟨rfl,rfl⟩⟩
theorem bT.o (h:bT s sz xs U F):dL s sz xs U F:=⟨h.1,h.2.imp id λ⟨b,p,i,m,g,a,j,d⟩=>⟨b,0,p,i,m,g,a,O,by simpa using d⟩⟩
theorem dL.fW (h:dL s sz xs U F):cV s sz xs U F:=by
 refine⟨h.1,?_⟩;rcases h.2 with⟨hl,_⟩|⟨b,o,cs,hq,ha,hb,_,_,ht⟩
 ·left;have:=h.1;rw[hl]at this;simpa using this
 ·refine .inr ⟨b,o,cs,hq,ha,hb.q,λj a=>?_⟩;rw[←ht,zm,lu,zC a]
theorem dL.cap (h:dL s sz xs U F):s.len<=s.cap:=by
 rcases h.2 with⟨q1,q2⟩|⟨_,_,_,_,_,_,q,_⟩
 ·omega
 ·exact q
theorem dL.app {x:Sl}{bytes e:Nat}{zs ys:List Value}{K:Sl->Hp->Prop}(ho:dL s sz xs U F)(hz:zs.length=sz)
 (hy:ys.length=x.len*sz) (hr:Rd U x.a ys) (h1:∀v∈ys,dX v=true) (hb:(s.len+x.len)*bytes<=2^46) (hc:s.len+x.len<=2^62)
 (hx:0<x.len) (hK:∀s' h',s'.len=s.len+x.len->Ext F U h'->dL s' sz (xs++ys) h' (Grow F U)->K s' h'):App s sz bytes e zs x U K:=by
 refine⟨xs,ys,ho.1,hy,ho.fW.rd,hr,h1,hb,hc,λg=>?_,λr c m=>?_⟩
 ·rcases ho.2 with⟨hl,hcap⟩|⟨b,o,cs,hQ,ha,hk,hle,hcl,ht⟩
  ·omega
  ·rw[ha];simp only;rw[add_lit];have u:(s.len+x.len)*sz<=s.cap*sz:=mA _ g;rw[zo]at u;have d:=ho.1;refine V8 hk O λh' p j=>hK _ h' rfl (Ext.eV p hQ) ⟨?_,.inr ⟨b,o,_,.inl hQ,rfl,j,g,?_,?_⟩⟩
   ·simp[d,hy,zo]
   ·simp;omega
   ·rw[zK,d,kA];have e1:(cs.take (o+s.len*sz)++ys++cs.drop (o+s.len*sz+ys.length)).drop o=(cs.drop o).take (s.len*sz)++(ys++cs.drop (o+s.len*sz+ys.length)):=by
     rw[zl,List.drop_append_of_le_length (by rw[zY];omega),List.drop_take]
     congr 2;omega
    have i:(cs.drop o).take (s.len*sz)=xs:=by rw[←d];exact ht
    rw[e1,i,←zl,oI aE,lH aE]
 ·refine hK _ _ rfl (Ext.push _ _ _) ⟨by simp[ho.1,hy,zo],.inr ⟨U.size,0,xs++ys++(List.replicate (c-(s.len+x.len)) zs).flatten,.inr (zD _),rfl,⟨e,by simp⟩,m,?_,?_⟩⟩
  ·simp only[zK,wu,wg,wy,ho.1,hy,hz,←zo];rw[zH];congr 1;omega
  ·rw[yO,oI aA,lH aA]
theorem dL.C7 {x:Sl}{bytes e:Nat}{zs:List Value}{K:Sl->Hp->Prop}(ho:dL s sz xs U F)(hx:x.len=0)(hb:s.len*bytes<=2^46)(hc:s.len<=2^62)(hK:dL ⟨s.a,s.len,s.cap⟩ sz xs U F->K ⟨s.a,s.len,s.cap⟩ U):App s sz bytes e zs x U K:=by
 have d:=ho.cap;refine⟨xs,[],ho.1,by simp[hx],ho.fW.rd,by cases x.a<;>simp[Rd],by simp,by rw[hx];exact hb,O,λg=>?_,λb=>absurd O b⟩
 rw[hx];have:=hK ho;cases ha:s.a<;>(rw[ha]at this;exact this)
theorem dL.from (h:dL s sz xs U F){lo:Nat}(h1:lo<=s.len):dL ⟨if s.cap=lo then s.a else s.a.map (·.add (lo*sz)),s.len-lo,s.cap-lo⟩ sz (xs.drop (lo*sz)) U F:=by
 have d:=h.1;refine⟨by rw[kg,d,Nat.sub_mul],?_⟩;rcases h.2 with⟨q1,q2⟩|⟨b,o,cs,hq,ha,hb,hle,hcl,ht⟩
 ·left;simp only;omega
 ·by_cases hm:s.cap=lo
  ·left;simp only;omega
  ·refine .inr ⟨b,o+lo*sz,cs,hq,by simp only[zB hm,ha,ze,add_lit],hb,by simp only;omega,?_,?_⟩
   ·have:lo*sz<=s.cap*sz:=mA _ O;rw[hcl,Nat.sub_mul];omega
   ·rw[kg]
    conv=>rhs;rw[←ht]
    rw[List.drop_take,List.drop_drop]
end Go.Vc
namespace Go.Ar
open Go Go.Vc Go.Proofs
variable {U:Hp}{F G:Rg}{Y:gU}{tb:List cA}{bud:Nat}{ls:List Li}{b k:Nat}{l:Li}{c:cA}
theorem T0 {s:Sl}{xs:List (Int×Int×Int)}(ha:ik U s xs)(dD:Int){R:Option Addr->Int->Hp->Prop}(h0:Q0 xs=false->∀σ',aF U σ'->R none 2 σ')
 (h1:Q0 xs=true->¬(0<=dD/\dD<=65536)->∀σ',aF U σ'->R none 1 σ')
 (h2:Q0 xs=true->0<=dD->dD<=65536->∀σ' Y,aF U σ'->eI σ' (λq=>U.size<=q) Y (xs.map QJ) dD.toNat (List.replicate (xs.map QJ).length iq)->R (some ⟨Y.p,0,none⟩) 0 σ') :
 KB.c s dD U R:=by
 refine KB.o ?_;unfold KB.v;refine yI ha λv e=>?_;cases hv:Q0 xs
 ·exact cF rfl (h0 hv v e)
 refine cD rfl (bX.intro (cN (λx=>cF rfl (h1 hv O v e)) λx=>cN (λA=>h1 hv O v e) λA=>?_));have g:=Qz ha e;have w:=(QW xs).1 hv;refine Ur g hv λdI b e1 d=>tG λj D e2 C=>nw (cs:=[.slice dI.a dI.len dI.cap,.int .i64 dD,.map (some b.size)]) λv3 E m u=>?_;have s1:=e1.1;have s0:=e.1;refine h2 hv O O v3 ⟨j.size,b.size,dI,[]⟩ (((e.trans e1).trans e2).trans m) ⟨by rw[zk];omega,λc z=>?_,by simp,by simp,?_⟩
 ·obtain⟨i,hi⟩:=zP z;exact(H6 g hv hi).2
 ·refine⟨λq=>if q=j.size then .hd else if q=b.size then .mp else .dI,λi=>?_⟩
  cases i with
  | hd=>
   refine⟨⟨by show U.size<=j.size;omega,by simp⟩,?_⟩;have:((dD.toNat:Nat):Int)=dD:=by omega
   simp only[Bo,this];exact u
  | mp=>
   refine⟨⟨by show U.size<=b.size;omega,?_⟩,m.fV (C .i64 .p) id⟩;show(if b.size=j.size then uv.hd else if b.size=b.size then uv.mp else uv.dI)=.mp
   rw[zB O,zC rfl]
  | dI=>
   have B:=aH.bP (aH.bP (aH.mono d (G:=λq=>v.size<=q/\q<b.size) λq r y=>⟨y,r⟩) e2) m;refine aH.mono B λq _ r=>⟨O,?_⟩;show(if q=j.size then uv.hd else if q=b.size then uv.mp else uv.dI)=.dI
   rw[zB O,zB O]
  | li k=>
   simp only[CC,pI,jf,List.find?_nil,Option.map_none];cases hk:(List.replicate (xs.map QJ).length iq)[k]? with
   | none=>trivial
   | some l=>simp only[mP]at hk;split at hk<;>simp_all
def kM (f:Nat->Nat)(l:List (Int×Option Addr)):Nat:=(l.map λx=>f x.1.toNat).sum
theorem FU (f:Nat->Nat):∀{l:List (Int×Option Addr)} {n:Int} {x:Option Addr},(l.map (·.1)).Nodup->(n,x)∈l->kM f l=f n.toNat+kM f (l.filter λy=>!(y.1==n))
 | [],_,_,_,h=>by simp at h
 | y::l,n,x,hn,h=>by
  simp only[zR,zr]at hn;rcases zW.1 h with h1|h1
  ·subst h1;have:l.filter (λy=>!(y.1==n))=l:=by
    rw[qH];intro z hz;have:z.1≠n:=λe=>hn.1 (zE.2 ⟨z,hz,e⟩);simpa using this
   rw[ve aA,this];simp[kM]
  ·have a:y.1≠n:=λe=>hn.1 (zE.2 ⟨_,h1,e.symm⟩);rw[uZ (by simpa using a)];have:=FU f hn.2 h1;simp only[kM,zR,oC]at *;omega
theorem T2 (n a v:Nat):((List.range n).map λj=>if j=a then v else 0).sum=if a<n then v else 0:=by
 induction n with
 | zero=>simp
 | succ n ih=>
  rw[oU,zj,List.sum_append,ih];by_cases h:a=n
  ·subst h;simp
  ·by_cases h2:a<n
   ·rw[zC h2,zC O];simp[Ne.symm h]
   ·rw[zB h2,zB O];simp[Ne.symm h]
theorem Px (l:List Nat)(f g:Nat->Nat):(l.map λj=>f j+g j).sum=(l.map f).sum+(l.map g).sum:=by
 induction l with
 | nil=>rfl
 | cons x l ih=>simp only[zR,oC,ih];omega
theorem Fj (f:Nat->Nat)(n:Nat):∀(ps:List (Nat×Nat)),(ps.map (·.1)).Nodup->(∀x∈ps,x.1<n)->(ps.map λx=>f x.1).sum=((List.range n).map λj=>if j∈ps.map (·.1)then f j else 0).sum
 | [],_,_=>by
  have:((List.range n).map λj=>if j∈([]:List (Nat×Nat)).map (·.1)then f j else 0)=(List.range n).map λ_=>0:=by simp
  rw[this]
  induction n with
  | zero=>rfl
  | succ n a=>rw[oU,zj,List.sum_append];simp at *;exact a
 | x::ps,hn,hl=>by
  simp only[zR,zr]at hn;have a:=Fj f n ps hn.2 λy b=>hl y (by simp[b]);rw[zR,oC,a];have e:((List.range n).map λj=>if j∈(x::ps).map (·.1)then f j else 0)=(List.range n).map λj=>(if j=x.1 then f x.1 else 0)+(if j∈ps.map (·.1)then f j else 0):=by
   apply kr;intro j _;by_cases hj:j=x.1
   ·subst hj;rw[zC aA,zC rfl,zB hn.1];rfl
   ·rw[zB hj,zH];by_cases hm:j∈ps.map (·.1)
    ·rw[zC hm,zC (by simp only[zR,zW];exact .inr hm)]
    ·rw[zB hm,zB (by simp only[zR,zW,not_or];exact⟨hj,hm⟩)]
  rw[e,Px,T2,zC (hl x aA)]
def qu (tb:List cA)(ls:List Li)(k:Nat):Nat:=match tb[k]?,ls[k]? with
 | some c,some l=>c.size*l.os.length
 | _,_=>0
theorem FX:∀(tb:List cA) (ls:List Li),ls.length=tb.length->KD tb ls=((List.range tb.length).map (qu tb ls)).sum
 | [],[],_=>rfl
 | c::tb,l::ls,h=>by
  have ih:=FX tb ls (by simpa using h);simp only[KD]at ih;simp only[KD,List.zip_cons_cons,zR,oC,zS,ih,List.range_succ_eq_map,lI];rfl
 | [],_::_,h=>by simp at h
 | _::_,[],h=>by simp at h
theorem eI.nil (h:eI U F Y tb bud ls)(hf:jf Y.ps k=none)(hl:ls[k]?=some l):l=iq:=by
 obtain⟨G,_,hi⟩:=h.sep.get (.li k);simp only[CC,pI,hf,hl]at hi;exact hi
theorem eI.xL (h:eI U F Y tb bud ls):(Y.ps.map (·.1)).Nodup:=by
 have:=h.map.nodup;have e:(jX Y.ps).map (·.1)=(Y.ps.map (·.1)).map λ(n:Nat)=>(n:Int):=by simp[jX]
 rw[e]at this;exact List.Pairwise.of_map (λ(n:Nat)=>(n:Int)) (λa b d e=>d (by rw[e])) this
theorem eI.bytes (h:eI U F Y tb bud ls):kM (qu tb ls) (jX Y.ps)=KD tb ls:=by
 have e1:kM (qu tb ls) (jX Y.ps)=(Y.ps.map λx=>qu tb ls x.1).sum:=by simp[kM,jX,Function.comp_def]
 rw[e1,Fj _ tb.length _ h.xL h.keys,FX _ _ h.len]
 congr 1
 apply kr;intro j hj;have a:=zg.1 hj;by_cases hm:j∈Y.ps.map (·.1)
 ·rw[zC hm]
 ·rw[zB hm];have g:jf Y.ps j=none:=by
   unfold jf;simp only[tj,oB,zU];exact λx d e=>hm (zE.2 ⟨x,d,e⟩)
  have b:ls[j]?=some (ls[j]'(by rw[h.len];exact a)):=cW _;have:=h.nil g b;unfold qu;rw[cW a,b,this];rfl
theorem Eg:∀(tb:List cA) (ls:List Li),(∀c∈tb,c.ok)->(∀l∈ls,fP l)->KD tb ls<=tb.length*131072
 | [],_,_,_=>by simp[KD]
 | _::_,[],_,_=>by simp[KD]
 | c::tb,l::ls,h1,h2=>by
  have ih:=Eg tb ls (λc a=>h1 c (by simp[a])) (λl d=>h2 l (by simp[d]));simp only[KD]at ih;simp only[KD,List.zip_cons_cons,zR,oC,zS];have a:=h1 c aA;unfold cA.ok at a;have b:=(h2 l aA).many;have g:c.size*l.os.length<=512*256:=my O b;omega
theorem TF (h:eI U F Y tb bud ls)(hok:∀l∈ls,fP l):KD tb ls<=5242880:=by
 have b:=Eg tb ls h.ok hok;have a:=h.nD;omega
theorem eI.Κ (h:eI U F Y tb bud ls):∀l∈ls,fP l:=by
 intro l hl;obtain⟨k,a⟩:=zP hl;cases hf:jf Y.ps k with
 | none=>rw[h.nil hf a];exact fP.nil
 | some b=>
  obtain⟨G,_,d,_⟩:=h.xf hf a;exact d.2.1
theorem JB (h:eI U F Y tb bud ls){R:aN}(hR:∀σ',aF U σ'->R ((KD tb ls:Nat):Int) σ'):X2.c (aW Y.p) U R:=by
 refine X2.o ?_;unfold X2.v;have hle:=TF h h.Κ;have hT:=h.bytes;refine HP h (cD rfl (bL (h.hd.rM rfl ?_)));refine xk (a:=bO) h.map (λg (z:Int) v=>∃n:Nat,z=(n:Int)/\n+kM (qu tb ls) g=KD tb ls/\(∀e∈g,e∈jX Y.ps)/\(g.map (·.1)).Nodup/\aF U v) ?_ ?_ ?_
 ·intro v hz e;exact⟨0,rfl,by rw[hT];omega,λe he=>he,h.map.nodup,e⟩
 ·rintro z v ⟨n,rfl,H,_,_,e⟩;simp only[kM,oW,List.sum_nil,kA]at H;rw[H];exact hR v e
 ·rintro g n x z v v' J ⟨m,rfl,H,j,C,e⟩ X ho hlt hJ;have W:aF U v':=e.only ho (.inr (zD _));have P:=h.bP W;have u:=j _ X;simp only[jX,zE,Prod.mk.injEq]at u;obtain⟨⟨k,b⟩,B,A,w⟩:=u;simp only at A w;subst A;subst w;have E:=h.keys _ B;simp only at E;have Q:tb[k]?=some tb[k]:=cW E;have S:ls[k]?=some (ls[k]'(by rw[h.len];exact E)):=cW _;generalize tb[k]=c at Q;generalize (ls[k]'(by rw[h.len];exact E))=l at S;have L:jf Y.ps k=some b:=Jx h.map.nodup B;obtain⟨G,hG,hL,_⟩:=P.xf L S;obtain⟨_,hok,s,K,M,V⟩:=hL;have N:s.len=l.os.length:=by have:=M.1;simp[Wu]at this;omega
  have hb:qu tb ls k=c.size*l.os.length:=by unfold qu;rw[Q,S]
  have r:=FU (qu tb ls) C X;simp only[dG]at r;refine bL (P.hd.rS rfl (ux P.jK Q (d:=0) O ?_));simp only[zT];refine bL (K.rS rfl ?_);have D:m+c.size*l.os.length+kM (qu tb ls) (List.filter (λy=>!(y.1==(k:Int))) g)=KD tb ls:=by
   have Z:=r;rw[hb]at Z;rw[←H,Z,xT]
  refine cT (m:=c.size*l.os.length) (by simp only[N];simp) O (cT (m:=m+c.size*l.os.length) O O (hJ _ v' rfl rfl ⟨_,rfl,D,λy hy=>j y (zJ.1 hy).1,C.sublist (List.filter_sublist.map _),W⟩))
theorem SX (h:eI U F Y tb bud ls){R:aO}(hR:∀σ',aF U σ'->R (decide (bud<KD tb ls)) σ'):YA.c (aW Y.p) U R:=by
 refine YA.o ?_;unfold YA.v;have e:decide (((KD tb ls:Nat):Int)>(bud:Int))=decide (bud<KD tb ls):=by rw[decide_eq_decide];omega
 refine Jn.intro (HP h (cF rfl (bL ⟨JB h λσ' a=>(a.bV h.hd id).rI rfl ?_,h.hd.rI rfl (JB h λσ' a=>?_)⟩)))
 ·rw[e];exact hR σ' a
 ·rw[e];exact hR σ' a
def B6 (f:cA->Li->List Int×Li)(fn:Nat):Prop:=∀{U:Hp} {G:Rg} {b:Nat} {l:Li} {c:cA},je b l U G->c.ok->∀{R:Sl->Hp->Prop},
 (∀s z σ',Ext (· = b) U σ'->U.size<=z->bT s 1 (Wu (f c l).1) σ' (λq=>U.size<=q/\q<z)->je b (f c l).2 σ' (λq=>q=b\/z<=q)->R s σ') →
 VQ Tryz.prog ⟨fn,#[],#[]⟩ [.pointer (some ⟨b,0,none⟩),.int .i64 (c.batch:Int)] [.one .s] U R
theorem Ε:B6 Qd 243:=by
 intro U G b l c h hc R hR;refine Gy (all := #[.pointer (some ⟨b,0,none⟩),.int .i64 (c.batch:Int)]) (by kernel_rfl) aA ?_;refine YQ.o ?_;unfold YQ.v;have j:=h;obtain⟨_,m,s,a,g,i⟩:=h;have d:s.len=l.os.length:=by have:=g.1;simp[Wu]at this;omega
 refine bL (a.rS rfl ?_);simp only[d];exact GK j (zD _) hR
theorem RL:B6 Vw 241:=by
 intro U G b l c h hc R hR;refine Gy (all := #[.pointer (some ⟨b,0,none⟩),.int .i64 (c.batch:Int)]) (by kernel_rfl) aA ?_;refine XM.o ?_;unfold XM.v;have P:=h;obtain⟨_,g,s,r,M,L⟩:=h;have o1:=g.low;have o2:=g.many;have o3:=g.lim;have w:=Fy hc g;unfold cA.ok at hc;refine bL (r.rI rfl (cT (m:=l.low+1) O O (nz aB (cT (m:=(l.low+1)/2) (by rw[Yj O];omega) O ?_))));refine GK P O λout z v e Q N A=>?_;have H:=A;obtain⟨_,V,s1,d,x,F⟩:=A;have y:s1.len=(gM ((l.low+1)/2) l).2.os.length:=by have:=x.1;simp[Wu]at this;omega
 refine Jn.intro ?_;have i:∀(p:Hp) (lim:Nat),Ext (· = b) v p->lim=(if l.lim>c.batch then max (l.lim-c.batch) c.batch else l.lim)->bY p b (m4 s1 {(gM ((l.low+1)/2) l).2 with lim:=lim}) →
  bW (some ⟨b,0,none⟩) λC=>jH (C.add 0) p λB=>bW (some ⟨b,0,none⟩) λE=>dF (E.add 2) (.int .i64 ((B.len:Nat):Int)) p λv2=>R out v2:=by
  intro p lim e1 hlim a;refine bL (a.rS rfl (bL (a.s1 (by simp[m4]) λv2 o2 u=>?_)));have e2:=e1.trans o2.ext;have S:=d.lt;refine hR out z v2 (e.trans e2) Q (aI.bS N e2 λq _ K J=>?_) ?_
  ·have:=r.lt;omega
  ·refine⟨.inl rfl,w,s1,?_,aH.bS x e2 λq _ K J=>K.2 J,F⟩;simp only[y]at u;subst hlim;exact u
 refine bL (d.rI rfl ?_);refine cN (λD=>?_) λD=>?_
 ·have j:l.lim>c.batch:=by simp only[gM]at D;omega
  refine bL (d.rI rfl (cT (m:=l.lim-c.batch) (by simp only[gM];omega) O (bL (d.s1 (by simp[m4]) λp o1 a=>i p (max (l.lim-c.batch) c.batch) o1.ext (by rw[zC j]) ?_))));have:(if(c.batch:Int)>((l.lim-c.batch:Nat):Int)then(c.batch:Int)else((l.lim-c.batch:Nat):Int))=((max (l.lim-c.batch) c.batch:Nat):Int):=by split<;>omega
  rw[this]at a;exact a
 ·have j:¬l.lim>c.batch:=by simp only[gM]at D;omega
  exact i v l.lim (Ext.refl _ _) (by rw[zB j]) d
def oc (x:Nat×Sl):List Value:=[.int .i64 (x.1:Int),.slice x.2.a x.2.len x.2.cap]
def fL (l:List (Nat×Sl)):List Value:=l.flatMap oc
theorem Vr (l:List (Nat×Sl)):(fL l).length=l.length*2:=by
 induction l with
 | nil=>rfl
 | cons x l ih=>
  have e:fL (x::l)=oc x++fL l:=rfl;have e2:(oc x).length=2:=rfl;rw[e,zK,ih,e2,zS];omega
theorem HB (a b:List (Nat×Sl)):fL (a++b)=fL a++fL b:=by simp[fL]
theorem HM {l:List (Nat×Sl)}:∀v∈fL l,dX v=true:=by
 intro v hv;obtain⟨p,_,a⟩:=List.mem_flatMap.1 hv;simp only[oc,zW,Ay,or_false]at a;rcases a with rfl|rfl<;>rfl
theorem Sd {l:List (Nat×Sl)}{i:Nat}{p:Nat×Sl}(h:l[i]?=some p){d:Nat}(hd:d<2):(fL l)[2*i+d]?=(oc p)[d]? := by
 induction l generalizing i with
 | nil=>simp at h
 | cons x l ih=>
  have e:fL (x::l)=oc x++fL l:=rfl;have e2:(oc x).length=2:=rfl;rw[e];cases i with
  | zero=>
   simp at h;subst h;rw[zd O];congr 1;omega
  | succ i=>
   rw[zp O,e2,show 2*(i+1)+d-2=2*i+d by omega];exact ih (by simpa using h)
def kJ (ps:List (Nat×Sl))(bs:List Bt)(U:Hp)(D:Rg):Prop:=ps.length=bs.length/\∀(i:Nat) p x,ps[i]?=some p->bs[i]?=some x->p.1=x.1/\cV p.2 1 (Wu x.2) U D/\p.2.len<=p.2.cap
theorem kJ.loc (ps:List (Nat×Sl))(bs:List Bt):dO (kJ ps bs):=λU j F G h d g=>⟨h.1,λi p x b a=>⟨(h.2 i p x b a).1,cV.loc _ _ _ _ _ _ _ (h.2 i p x b a).2.1 d g,(h.2 i p x b a).2.2⟩⟩
def wk (ps:List (Nat×Sl)):Prop:=ps.Pairwise λp q=>∀a a',p.2.a=some a->q.2.a=some a'->a.block≠a'.block
theorem wk.snoc {ps:List (Nat×Sl)}{bs:List Bt}{U v:Hp}{D X:Rg}{s:Sl}{xs:List Int}(h:wk ps)(hB:kJ ps bs U D)(hne:∀x∈bs,x.2≠[])(hs:cV s 1 (Wu xs) v X)(hx:xs≠[])(hd:∀b,b<U.size->D b->¬X b)(k:Nat):wk (ps++[(k,s)]):=by
 refine qE.2 ⟨h,List.pairwise_singleton _ _,λp w q r=>?_⟩;rw[zN]at r;subst r;intro a a' h1 h2 e;obtain⟨i,hi⟩:=zP w;have d:=(cX.1 hi).1;have g:bs[i]?=some (bs[i]'(by rw[←hB.1];exact d)):=cW _;generalize (bs[i]'(by rw[←hB.1];exact d))=y at g;obtain⟨_,j,_⟩:=hB.2 i p y hi g;have m:=j.bV (by simpa[Wu]using hne y (zG g)) ⟨a,h1,rfl⟩;have u:=hs.bV (by simpa[Wu]using hx) ⟨a',h2,rfl⟩;rw[e]at m;exact hd _ m.2 m.1 u.1
def iD (s:Sl)(bs:List Bt):Hp->Rg->Prop:=λU F=>∃(ps:List (Nat×Sl)) (D:Rg),dL s 2 (fL ps) U (λq=>F q/\¬D q)/\kJ ps bs U D/\(∀q,D q->F q)/\wk ps/\∀x∈bs,x.2≠[]
theorem iD.loc (s:Sl)(bs:List Bt):dO (iD s bs):=λU u F G ⟨p,D,r,m,i,j⟩ g b=>
 ⟨p,λq=>D q/\q<U.size,dL.loc _ _ _ _ _ _ _ r g λq a d=>⟨⟨(b q a d.1).1,λhd=>d.2 hd.1⟩,(b q a d.1).2⟩,kJ.loc _ _ _ _ _ _ m g λq a hd=>⟨⟨hd,a⟩,(b q a (i q hd)).2⟩,λq a=>(b q a.2 (i q a.1)).1,j⟩
theorem iD.nil (U:Hp)(F:Rg)(a:Option Addr):iD ⟨a,0,0⟩ [] U F:=⟨[],λ_=>False,dL.nil _ _ _ _,⟨rfl,λi p x h=>by simp at h⟩,λq h=>h.elim,List.Pairwise.nil,by simp⟩
theorem iD.len {s:Sl}{bs:List Bt}(h:iD s bs U F):s.len=bs.length:=by
 obtain⟨d,D,a,b,_⟩:=h;have:=a.1;rw[Vr]at this;have:=b.1;omega
theorem iD.cap {s:Sl}{bs:List Bt}(h:iD s bs U F):s.len<=s.cap:=by
 obtain⟨b,D,a,_⟩:=h;exact a.cap
def n4:Prop:=∀{U:Hp} {F:Rg} {s:Sl} {xs:List (Nat×Sl)},bT s 2 (fL xs) U F->(∀x∈xs,x.1<64)->xs.length<=1000->∀{R:aP},
 (∀xs' σ',xs'.Perm xs->xs'.Pairwise (λa b=>a.1<=b.1)->Ext F U σ'->bT s 2 (fL xs') σ' F->R σ')->QA.c s ⟨298,#[],#[]⟩ U R
theorem FQ:∀{a b:List Nat},a.Pairwise (· < ·)->b.Pairwise (· < ·)->(∀x,x∈a↔x∈b)->a=b
 | [],[],_,_,_=>rfl
 | [],y::b,_,_,h=>by have:=(h y).2 aA;simp at this
 | x::a,[],_,_,h=>by have:=(h x).1 aA;simp at this
 | x::a,y::b,ha,hb,h=>by
  rw[sF]at ha hb;have e:x=y:=by
   rcases zW.1 ((h x).1 aA)with h1|h1
   ·exact h1
   ·rcases zW.1 ((h y).2 aA)with h2|h2
    ·exact h2.symm
    ·have:=ha.1 y h2;have:=hb.1 x h1;omega
  subst e
  congr 1
  refine FQ ha.2 hb.2 λz=>?_;have d:=h z;simp only[zW]at d;constructor
  ·intro hza;have:=ha.1 z hza;rcases d.1 (.inr hza)with h1|h1
   ·omega
   ·exact h1
  ·intro hzb;have:=hb.1 z hzb;rcases d.2 (.inr hzb)with h1|h1
   ·omega
   ·exact h1
theorem HL {f:cA->Li->List Int×Li}{x:Bt}:x∈KM f tb ls↔∃c l,tb[x.1]?=some c/\ls[x.1]?=some l/\x.2=(f c l).1/\x.2≠[]:=by
 unfold KM;rw[xC];constructor
 ·rintro⟨k,hk,h⟩;split at h
  ·rename_i c l hc hl;split at h
   ·cases h
   ·rename_i hne;cases h;exact⟨c,l,hc,hl,rfl,hne⟩
  ·cases h
 ·rintro⟨c,l,hc,hl,e,hne⟩;refine⟨x.1,zg.2 (cX.1 hc).1,?_⟩;rw[hc,hl];simp only;rw[zB (by rw[←e];exact hne),←e]
theorem ND {f:cA->Li->List Int×Li}:((KM f tb ls).map (·.1)).Pairwise (· < ·):=by
 unfold KM;have key:∀(n:Nat),(((List.range n).filterMap λk=>match tb[k]?,ls[k]? with
  | some c,some l=>if(f c l).1=[]then none else some ((k,(f c l).1):Bt)
  | _,_=>none).map (·.1)).Pairwise (· < ·)/\∀x∈((List.range n).filterMap λk=>match tb[k]?,ls[k]? with
  | some c,some l=>if(f c l).1=[]then none else some ((k,(f c l).1):Bt)
  | _,_=>none),x.1<n:=by
  intro n
  induction n with
  | zero=>simp
  | succ n ih=>
   rw[oU,xq,zj];refine⟨qE.2 ⟨ih.1,?_,?_⟩,?_⟩
   ·simp only[C6,List.filterMap_nil];split<;>simp
   ·intro a ha b hb;obtain⟨x,i,rfl⟩:=zE.1 ha;obtain⟨y,g,rfl⟩:=zE.1 hb;have p:=ih.2 x i;obtain⟨m,j,d⟩:=xC.1 g;clear g hb ha;simp only[zN]at j;subst j;split at d
    ·split at d
     ·cases d
     ·cases d;exact p
    ·cases d
   ·intro x i;rcases zM.1 i with i|i
    ·have:=ih.2 x i;omega
    ·obtain⟨m,j,g⟩:=xC.1 i;simp only[zN]at j;subst j;split at g
     ·split at g
      ·cases g
      ·cases g;omega
     ·cases g
 exact(key tb.length).1
def na (todo:List (Int×Option Addr))(k:Nat):Prop:=((k:Nat):Int)∈todo.map (·.1)
instance (todo:List (Int×Option Addr)) (k:Nat):Decidable (na todo k):=by unfold na;infer_instance
theorem Gz {todo:List (Int×Option Addr)}{m k:Nat}:na (todo.filter λy=>!(y.1==(m:Int))) k↔na todo k/\k≠m:=by
 unfold na;simp only[zE,zJ,mS,mI];constructor
 ·rintro⟨y,⟨h1,h2⟩,h3⟩;exact⟨⟨y,h1,h3⟩,λe=>h2 O⟩
 ·rintro⟨⟨y,h1,h3⟩,h2⟩;exact⟨y,⟨h1,λe=>h2 O⟩,h3⟩
structure yA (f:cA->Li->List Int×Li) (tb:List cA) (ls:List Li) (todo:List (Int×Option Addr)) (ls':List Li) (outs:List Bt):Prop where
 l:∀k c l,tb[k]?=some c->ls[k]?=some l->ls'[k]?=some (if na todo k then l else(f c l).2)
 n:(outs.map (·.1)).Nodup
 o:∀x:Bt,x∈outs↔∃c l,tb[x.1]?=some c/\ls[x.1]?=some l/\¬na todo x.1/\x.2=(f c l).1/\x.2≠[]
theorem yA.step {f:cA->Li->List Int×Li}{todo:List (Int×Option Addr)}{ls':List Li}{outs:List Bt}(h:yA f tb ls todo ls' outs)(hc:tb[k]?=some c)(hl:ls[k]?=some l)(hk:na todo k) :
 yA f tb ls (todo.filter λy=>!(y.1==(k:Int))) (ls'.set k (f c l).2) (if(f c l).1=[]then outs else outs++[(k,(f c l).1)]):=by
 have w:=h.l k c l hc hl;have u:=(cX.1 w).1;have s:∀x∈outs,x.1≠k:=λx g e=>by
  obtain⟨_,_,_,_,B,_⟩:=(h.o x).1 g;rw[e]at B;exact B hk
 refine⟨λj d m hd p=>?_,?_,λx=>?_⟩
 ·by_cases hj:j=k
  ·subst hj;rw[hc]at hd;cases hd;rw[hl]at p;cases p;rw[zO u,zB (by rw[Gz];exact λg=>g.2 rfl)]
  ·rw[zh (Ne.symm hj),h.l j d m hd p]
   congr 1
   by_cases hi:na todo j
   ·rw[zC hi,zC (Gz.2 ⟨hi,hj⟩)]
   ·rw[zB hi,zB λg=>hi (Gz.1 g).1]
 ·split
  ·exact h.n
  ·rw[zj,nb];refine⟨h.n,by simp,λa C b A e=>?_⟩;simp only[zR,oW,zN]at A;subst A;obtain⟨x,g,e2⟩:=zE.1 C;exact s x g (e2.trans e)
 ·have z:(∃d m,tb[x.1]?=some d/\ls[x.1]?=some m/\¬na (todo.filter λy=>!(y.1==(k:Int))) x.1/\x.2=(f d m).1/\x.2≠[])↔x∈outs\/(x=(k,(f c l).1)/\(f c l).1≠[]):=by
   constructor
   ·rintro⟨d,m,hd,p,hi,e,i⟩;by_cases hj:x.1=k
    ·right;rw[hj]at hd p;rw[hc]at hd;cases hd;rw[hl]at p;cases p;exact⟨Prod.ext hj e,by rw[←e];exact i⟩
    ·left;exact(h.o x).2 ⟨d,m,hd,p,λg=>hi (Gz.2 ⟨g,hj⟩),e,i⟩
   ·rintro(g|⟨rfl,i⟩)
    ·obtain⟨d,m,hd,p,hi,e,i⟩:=(h.o x).1 g;exact⟨d,m,hd,p,λr=>hi (Gz.1 r).1,e,i⟩
    ·exact⟨c,l,hc,hl,λr=>(Gz.1 r).2 rfl,rfl,i⟩
  rw[z];split
  ·rename_i he;constructor
   ·exact .inl
   ·rintro(g|⟨_,i⟩)
    ·exact g
    ·exact absurd he i
  ·rename_i he;rw[zM,zN];constructor
   ·rintro(g|g)
    ·exact .inl g
    ·exact .inr ⟨g,he⟩
   ·rintro(g|g)
    ·exact .inl g
    ·exact .inr g.1
set_option maxRecDepth 4000 in
theorem Lz (hso:n4){f:cA->Li->List Int×Li}{fn:Nat}(hf:B6 f fn)(hnil:∀c,c.ok->f c iq=([],iq))(h:eI U F Y tb bud ls){R:Sl->Hp->Prop}
 (hR:∀σ' s (Q:Rg),Ext F U σ'->(∀q,Q q->U.size<=q)->eI σ' (λq=>Grow F U q/\¬Q q) Y tb bud (KG f tb ls)->iD s (KM f tb ls) σ' Q->R s σ') :
 XC.c (aW Y.p) ⟨fn,#[],#[]⟩ U R:=by
 refine XC.o ?_;unfold XC.v;refine HP h (cD rfl (bL (h.hd.rM rfl ?_)));have htb:=h.nD;refine xk (a:=.s) h.map (λC (out:Sl) v=>∃(ls':List Li) (w:List Bt) (Q D:Rg) (ps:List (Nat×Sl)),Ext F U v/\(∀q,Q q->U.size<q)/\eI v (λq=>(Cut F U q\/U.size<q)/\¬Q q) Y tb bud ls' ∧
  bT out 2 (fL ps) v (λq=>Q q/\¬D q)/\kJ ps w v D/\(∀q,D q->Q q)/\yA f tb ls C ls' w/\(∀e∈C,e∈jX Y.ps)/\(C.map (·.1)).Nodup/\wk ps) ?_ ?_ ?_
 ·intro v hz e;refine⟨ls,[],λ_=>False,λ_=>False,[],aF.to e,λq g=>g.elim,((eI.loc.bP h.cut e).mono λq _ g=>⟨.inl g,id⟩),bT.nil _ _ _ _,⟨rfl,λi p x K=>by simp at K⟩,λq g=>g.elim,⟨λk c l E N=>?_,by simp,λx=>?_⟩,λe P=>P,h.map.nodup,List.Pairwise.nil⟩
  ·by_cases hi:na (jX Y.ps) k
   ·rw[zC hi,N]
   ·rw[zB hi];have hf0:jf Y.ps k=none:=by
     unfold jf;simp only[tj,oB,zU];exact λx r e=>hi (zE.2 ⟨((x.1:Int),some ⟨x.2,0,none⟩),zE.2 ⟨x,r,rfl⟩,by rw[e]⟩)
    have:=h.nil hf0 N;rw[N,this,hnil c (h.ok c (zG E))]
  ·simp only[Ay,false_iff];rintro⟨c,l,E,N,hi,e,hne⟩;have hf0:jf Y.ps x.1=none:=by
    unfold jf;simp only[tj,oB,zU];exact λy Z e=>hi (zE.2 ⟨((y.1:Int),some ⟨y.2,0,none⟩),zE.2 ⟨y,Z,rfl⟩,by rw[e]⟩)
   have:=h.nil hf0 N;rw[this,hnil c (h.ok c (zG E))]at e;exact hne e
 ·rintro out v ⟨ls',w,Q,D,ps,e,hQ,hC,X,hB,hD,hI,_,_,S⟩;have hno:∀k,¬na [] k:=λk hk=>by simp[na]at hk
  have hls:ls'=KG f tb ls:=by
   apply zt;intro k;by_cases hk:k<tb.length
   ·have E:tb[k]?=some tb[k]:=cW hk;have N:ls[k]?=some (ls[k]'(by rw[h.len];exact hk)):=cW _;rw[hI.l k _ _ E N,zB (hno k)];simp[KG,BR,E,N]
   ·rw[zX (by rw[hC.len];omega),zX (by simp[KG,h.len];omega)]
  subst hls;have hk1:∀(i:Nat) p,ps[i]?=some p->∃x,w[i]?=some x/\p.1=x.1/\cV p.2 1 (Wu x.2) v D/\p.2.len<=p.2.cap:=λi p K=>by
   have hi:=(cX.1 K).1;have r:w[i]?=some (w[i]'(by rw[←hB.1];exact hi)):=cW _;exact⟨_,r,hB.2 i p _ K r⟩
  have B:ps.map (·.1)=w.map (·.1):=by
   apply zt;intro i;simp only[zZ];cases K:ps[i]? with
   | none=>
    have:w[i]?=none:=by
     rw[List.getElem?_eq_none_iff]at K ⊢;rw[←hB.1];exact K
    rw[this];rfl
   | some p=>
    obtain⟨x,r,e1,_⟩:=hk1 i p K;rw[r];simp[e1]
  have W:∀x∈w,x.1<40:=λx r=>by
   obtain⟨c,l,E,_⟩:=(hI.o x).1 r;have:=(cX.1 E).1;omega
  have hlen:ps.length<=40:=by
   have hn:=hI.n;rw[←B]at hn;have:=hn.length_le_of_subset (l₂:=List.range 40) λj S=>by
    rw[B]at S;obtain⟨x,r,rfl⟩:=zE.1 S;exact zg.2 (W x r)
   simpa using this
  refine hso X (λp K=>?_) O λps' v' M hsort e' hrow'=>?_
  ·have:p.1∈w.map (·.1):=by rw[←B];exact zE.2 ⟨p,K,rfl⟩
   obtain⟨x,r,e1⟩:=zE.1 this;have:=W x r;omega
  ·have hnd:(ps'.map (·.1)).Nodup:=(M.map _).nodup_iff.2 (by rw[B];exact hI.n);have hinc:(ps'.map (·.1)).Pairwise (· < ·):=by
    refine List.Pairwise.map (R:=λa b:Nat×Sl=>a.1<b.1) _ (λa b aa=>aa) ?_;have A:ps'.Pairwise λa b=>a.1≠b.1:=se.1 hnd;exact(hsort.and A).imp λ{a b} aa=>by have:=aa.1;have:=aa.2;omega
   have hkk:ps'.map (·.1)=(KM f tb ls).map (·.1):=by
    refine FQ hinc ND λj=>?_;rw[(M.map _).mem_iff,B];constructor
    ·intro S;obtain⟨x,r,rfl⟩:=zE.1 S;obtain⟨c,l,E,N,_,e1,e2⟩:=(hI.o x).1 r;exact zE.2 ⟨x,HL.2 ⟨c,l,E,N,e1,e2⟩,rfl⟩
    ·intro S;obtain⟨x,r,rfl⟩:=zE.1 S;obtain⟨c,l,E,N,e1,e2⟩:=HL.1 r;exact zE.2 ⟨x,(hI.o x).2 ⟨c,l,E,N,hno _,e1,e2⟩,rfl⟩
   have eQ:Ext F U v':=e.dW e' λq g=>.inr (sO (hQ q g.1));refine hR v' out Q eQ (λq g=>sO (hQ q g)) ?_ ⟨ps',D,hrow'.o,⟨?_,λi p x K r=>?_⟩,hD,(M.pairwise_iff λ{a b} aa x y A h2 e=>aa y x h2 A e.symm).2 S,λx r=>by
    obtain⟨_,_,_,_,_,h2⟩:=HL.1 r;exact h2⟩
   ·refine(eI.loc.bS hC e' λq _ g hq2=>g.2 hq2.1).mono λq _ g=>⟨?_,g.2⟩;rcases g.1 with r|r
    ·exact .inl r.1
    ·exact .inr (sO r)
   ·have:=congrArg List.length hkk;simpa using this
   ·have e1:p.1=x.1:=by
     have:=congrArg (λl=>l[i]?) hkk;simp only[zZ,K,r,ze,Option.some.injEq]at this;exact this
    obtain⟨j,S⟩:=zP (M.mem_iff.1 (zG K));obtain⟨y,Z,e2,hs,hcap⟩:=hk1 j p S;have e3:x.2=y.2:=by
     obtain⟨c,l,E,N,_,A,_⟩:=(hI.o y).1 (zG Z);obtain⟨c',l',hc',hl',h2,_⟩:=HL.1 (zG r);rw[←e1,e2,E]at hc';cases hc';rw[←e1,e2,N]at hl';cases hl';rw[A,h2]
    rw[e3];exact⟨e1,aH.bS hs e' λq _ g hq2=>hq2.2 g,hcap⟩
 ·rintro C n x out v v' J ⟨ls',w,Q,D,ps,e,hQ,hC,X,hB,hD,hI,hsub,hnd,S⟩ r ho hlt hJ;have e1:Ext F U v':=e.only ho (.inr (zD _));have V:eI v' (λq=>(Cut F U q\/U.size<q)/\¬Q q) Y tb bud ls':=eI.loc.bS hC ho.ext λq _ g P=>by
   rcases g.1 with A|A
   ·have:=A.2;omega
   ·omega
  have hrow1:bT out 2 (fL ps) v' (λq=>(Q q/\¬D q)/\q<v'.size):=aI.cut (aI.bS X ho.ext λq _ g P=>by have:=hQ q g.1;omega);have hB1:kJ ps w v' (λq=>D q/\q<v'.size):=(kJ.loc _ _).cut ((kJ.loc _ _).bS hB ho.ext λq _ g P=>by have:=hQ q (hD q g);omega);have hmem:=hsub _ r;simp only[jX,zE,Prod.mk.injEq]at hmem;obtain⟨⟨k,b⟩,hkb,hk1,hx1⟩:=hmem;simp only at hk1 hx1;subst hk1;subst hx1;have hk:=h.keys _ hkb;simp only at hk;have E:tb[k]?=some tb[k]:=cW hk;have N:ls[k]?=some (ls[k]'(by rw[h.len];exact hk)):=cW _;generalize tb[k]=c at E;generalize (ls[k]'(by rw[h.len];exact hk))=l at N;have hcok:=h.ok c (zG E);have hlk:jf Y.ps k=some b:=Jx h.map.nodup hkb;have hin:na C k:=zE.2 ⟨_,r,rfl⟩;have hl':ls'[k]?=some l:=by rw[hI.l k c l E N,zC hin]
  have L:=hI.step E N hin;have hmF:(λq=>(Cut F U q\/U.size<q)/\¬Q q) Y.m:=by
   obtain⟨H,hH,hm⟩:=V.sep.get .mp;exact hH _ hm.1
  obtain⟨G,hG,hL,hGm,hput⟩:=V.xf hlk hl';have hbF:=hG b hL.1;have hbm:b≠Y.m:=λe=>hGm (e▸hL.1);have hbs:b≠U.size:=λe=>by
   subst e;rcases hbF.1 with A|A
   ·have:=A.2;omega
   ·omega
  have hblt:b<v'.size:=by obtain⟨_,_,s,hbk,_⟩:=hL;exact hbk.lt
  have hsz1:=ho.1;refine bL (V.hd.rS rfl (ux V.jK E (d:=2) O ?_));simp only[zB (show ¬(2=0) by omega),zB (show ¬(2=1) by omega)];refine hf hL hcok λs z v5 e5 hz hr hL5=>?_;have hs5:=e5.1;obtain⟨eF,h5⟩:=hput v5 _ (λq=>q=b\/z<=q) (e5.sub λq g=>by rw[g];exact hL.1) (λq g=>g.imp (λ(r:q=b)=>by rw[r];exact hL.1) λ(r:z<=q)=>O) hL5;have h5:=h5.cut;have eF5:Ext F U v5:=e1.dW eF λq g=>by
   rcases g.1 with A|A
   ·exact .inl A.1
   ·exact .inr (sO A)
  have hnb:∀q,Q q->q≠b:=λq g hqb=>hbF.2 (hqb▸g);have hrow5:=aI.bS hrow1 e5 λq _ g P=>hnb q g.1.1 P;have hB5:=(kJ.loc _ _).bS hB1 e5 λq _ g P=>hnb q (hD q g.1) P;have hsl:s.len=(f c l).1.length:=by have:=hr.1;simp[Wu]at this;omega
  have hsub':∀y∈C.filter (λy=>!(y.1==(k:Int))),y∈jX Y.ps:=λy Z=>hsub y (zJ.1 Z).1;have hnd':((C.filter λy=>!(y.1==(k:Int))).map (·.1)).Nodup:=hnd.sublist (List.filter_sublist.map _);by_cases hemp:(f c l).1=[]
  ·rw[zC hemp]at L;refine gg (by rw[hsl,hemp];simp) (hJ out v5 (e5.2 _ O λP=>hbs P.symm) (e5.2 _ V.map.lt λP=>hbm P.symm) ?_);refine⟨_,w,λq=>Q q/\q<v'.size,λq=>D q/\q<v'.size,ps,eF5,λq g=>hQ q g.1,h5.mono λq _ g=>?_,aI.mono hrow5 λq _ g=>⟨⟨g.1.1,g.2⟩,λhd=>g.1.2 hd.1⟩,hB5,λq g=>⟨hD q g.1,g.2⟩,L,hsub',hnd',S⟩;rcases g.1 with A|A|A
   ·exact⟨A.1.1,λr=>A.1.2 r.1⟩
   ·subst A;exact⟨hbF.1,λr=>hbF.2 r.1⟩
   ·exact⟨.inr O,λr=>O⟩
  ·rw[zB hemp]at L;have hpos:=pM.2 hemp;refine l6 (by rw[hsl];omega) (nw (cs:=oc (k,s)) λv6 hz6 e6 hb6=>?_);have hrow6:=aI.bP hrow5 e6;have hB6:=(kJ.loc _ _).bP hB5 e6;have hr6:=aI.bP (aI.cut hr) e6;have hpl:out.len=ps.length:=by have:=X.1;rw[Vr]at this;omega
   have hol:ps.length<=40:=by
    have B:w.map (·.1)⊆List.range 40:=λj S=>by
     obtain⟨x,r,rfl⟩:=zE.1 S;obtain⟨c,l,E,_⟩:=(hI.o x).1 r;have:=(cX.1 E).1;exact zg.2 O
    have:=hI.n.length_le_of_subset B;rw[hB.1];simpa using this
   refine hrow6.app (ys:=oc (k,s)) rfl rfl ?_ (λv hv=>HM (l:=[(k,s)]) v (by simpa[fL]using hv)) ?_ ?_ nr λs' v7 hl7 e7 hr7=>?_
   ·intro j u hu;rw[add_lit,zH,hb6.cell];exact hu
   ·simp only;have:(out.len+1)*32<=41*32:=my O O;omega
   ·simp only;omega
   have hs7:=e7.1;have e57:Ext (λq=>(Q q/\¬D q)/\q<v'.size) v5 v7:=(aF.to e6).trans e7;refine hJ s' v7 ?_ ?_ ?_
   ·rw[e57.2 _ O λr=>by have:=hQ _ r.1.1;omega];exact e5.2 _ O λP=>hbs P.symm
   ·rw[e57.2 _ (by have:=V.map.lt;omega) λr=>hmF.2 r.1.1];exact e5.2 _ V.map.lt λP=>hbm P.symm
   refine⟨_,_,λq=>Q q/\q<v'.size\/(v'.size<=q/\q<z)\/v5.size<=q,λq=>D q/\q<v'.size\/(v'.size<=q/\q<z)/\q<v5.size,ps++[(k,s)],eF5.dW e57 λq g=>.inr (sO (hQ q g.1.1)),λq g=>?_,(eI.loc.bS h5 e57 λq hq5 g r=>?_).mono λq _ g=>?_,?_,⟨?_,λi p y K Z=>?_⟩,λq g=>?_,L,hsub',hnd',S.snoc hB1 (λx r=>by
    obtain⟨_,_,_,_,_,_,h2⟩:=(hI.o x).1 r;exact h2) hr.fW hemp (λb hb r Z=>by have:=r.2;have:=Z.1;omega) k⟩
   ·rcases g with g|g|g
    ·exact hQ q g.1
    ·omega
    ·omega
   ·rcases g.1 with A|A|A
    ·exact A.1.2 r.1.1
    ·exact hnb q r.1.1 A
    ·have:=r.2;omega
   ·have hq5:=g.2;rcases g.1 with A|A|A
    ·exact⟨A.1.1,λr=>by
      rcases r with r|r|r
      ·exact A.1.2 r.1
      ·have:=A.2.1;omega
      ·omega⟩
    ·subst A;exact⟨hbF.1,λr=>by
      rcases r with r|r|r
      ·exact hbF.2 r.1
      ·omega
      ·omega⟩
    ·exact⟨.inr O,λr=>by
      rcases r with r|r|r<;>omega⟩
   ·rw[HB];have:fL [(k,s)]=oc (k,s):=by simp[fL]
    rw[this];refine aI.mono hr7 λq _ g=>?_;rcases g with g|g
    ·exact⟨.inl ⟨g.1.1,g.2⟩,λhd=>by
      rcases hd with hd|hd
      ·exact g.1.2 hd.1
      ·omega⟩
    ·exact⟨.inr (.inr O),λhd=>by
      rcases hd with hd|hd<;>omega⟩
   ·rw[zK,zK,hB.1];rfl
   ·rcases ko i ps.length with hi|hi
    ·rw[zd hi]at K;rw[zd (by rw[←hB.1];exact hi)]at Z;obtain⟨a1,a2,a3⟩:=hB6.2 i p y K Z;exact⟨a1,aH.mono (aH.bS a2 e7 λq _ g r=>r.1.2 g.1) λq _ g=>.inl g,a3⟩
    ·rw[zp hi]at K;rw[zp (by rw[←hB.1];exact hi)]at Z;have hi0:i-ps.length=0:=by
      have:=(cX.1 K).1;simp at this;omega
     rw[hi0]at K;rw[show i-w.length=0 by rw[←hB.1];exact hi0]at Z;simp at K Z;subst K;subst Z;exact⟨rfl,aH.mono (aH.bS hr6.fW e7 λq _ g r=>by have:=r.2;have:=g.1;omega) λq _ g=>.inr g,bT.px hr⟩
   ·rcases g with g|g
    ·exact .inl ⟨hD q g.1,g.2⟩
    ·exact .inr (.inl g.1)
theorem MT (hso:n4)(h:eI U F Y tb bud ls){R:Sl->Hp->Prop}
 (hR:∀σ' s (Q:Rg),Ext F U σ'->(∀q,Q q->U.size<=q)->eI σ' (λq=>Grow F U q/\¬Q q) Y tb bud (KG Qd tb ls)->iD s (KM Qd tb ls) σ' Q->R s σ'):X5.c (aW Y.p) U R:=by
 refine X5.o ?_;unfold X5.v;exact Lz hso Ε (λc _=>Sa c) h hR
theorem Oa (hso:n4)(h:eI U F Y tb bud ls){R:Sl->Hp->Prop}
 (hR:∀σ' s (Q:Rg),Ext F U σ'->(∀q,Q q->U.size<=q)->eI σ' (λq=>Grow F U q/\¬Q q) Y tb bud (KG Vw tb ls)->iD s (KM Vw tb ls) σ' Q->R s σ'):Xo.c (aW Y.p) U R:=by
 refine Xo.o ?_;unfold Xo.v;exact Lz hso RL Whw h hR
end Go.Ar