/- Texts joined. -/
import Derived.Test.YteihenagckcobaaGreatDoorE3
set_option linter.unusedVariables false
set_option linter.unusedSimpArgs false
namespace Go.Vc
open Go
def u6 (h:Hp)(it r:Nat):Nat:=
 match h[it]?,h[r]? with
 | some (.mapIter _ _ seen _),some (.map es _)=>(es.toList.filter λe=>!seen.contains e.born).length
 | _,_=>0
variable {U:Hp}{k:IntKind}{c:CK}{l todo:List (Int×c.T)}{cur:Option (Int×c.T)}{r it:Nat}
theorem It.num {h:Hp}(hi:It h it k c (some r) l todo cur):u6 h it r=todo.length:=by
 obtain⟨j,g,a,d,b,u,i,s,m,e,p⟩:=hi;unfold u6;rw[d,b];have:=congrArg List.length e;simpa using this
theorem It.bS {h h':Hp}(hi:It h it k c (some r) l todo cur)(h1:h'[it]?=h[it]?)(h2:h'[r]?=h[r]?):It h' it k c (some r) l todo cur:=by
 obtain⟨i,d,a,g,e,b⟩:=hi;exact⟨i,d,a,h1.trans g,h2.trans e,b⟩
theorem A6 {A:aP}{body:Int->c.T->Hp->(Hp->Prop)->Prop}(hm:dI U r k c l)(I:List (Int×c.T)->Hp->Prop)
 (h0:∀v,v.size=U.size+1->bK U v->I l v)
 (hend:∀v,I [] v->A v)
 (hstep:∀todo n x v v' (J:aP),I todo v->(n,x)∈todo->Qo v v' U.size->U.size<v.size->(∀w,w[U.size]?=v'[U.size]?->w[r]?=v'[r]?->I (todo.filter λy=>!(y.1==n)) w->J w)->body n x v' J) :
 nN k c (some r) U λit v3=>Ys [] (λI=>I v3) λJ1 v4=>nQ k c it v4 (A v4) λ_ _ v5=>nT k c it v5 λkey1 val1=>body key1 val1 v5 J1:=by
 refine⟨l,hm,λv N K H=>?_⟩;have F:bK U v:=⟨O,λb s _=>K b s⟩;refine Dk (λw=>∃todo a,It w U.size k c (some r) l todo a/\I todo w/\U.size<w.size) (λw=>u6 w U.size r) ⟨l,none,H,h0 v N F,O⟩ ?_;rintro w ⟨todo,a,g,B,p⟩;refine⟨rfl,some r,l,todo,a,g,λE=>?_,λn x C M L e=>?_⟩
 ·subst E;exact hend w B
 ·refine⟨rfl,some r,l,_,n,x,e,hstep todo n x w M _ B C L p λu j i m=>?_⟩;have d:=e.bS j i;refine⟨⟨_,_,d,m,?_⟩,?_⟩
  ·obtain⟨P,G,z,D,_⟩:=d;exact(zt.1 D).1
  ·rw[d.num,g.num];exact BO.2 ⟨(n,x),C,by simp⟩
theorem r5 {a:CK}{x0:a.T}{A:a.T->Hp->Prop}{body:Int->c.T->a.T->Hp->(a.T->Hp->Prop)->Prop}(hm:dI U r k c l)(I:List (Int×c.T)->a.T->Hp->Prop)
 (h0:∀v,v.size=U.size+1->bK U v->I l x0 v)
 (hend:∀z v,I [] z v->A z v)
 (hstep:∀todo n x z v v' (J:a.T->Hp->Prop),I todo z v->(n,x)∈todo->Qo v v' U.size->U.size<v.size->(∀z' w,w[U.size]?=v'[U.size]?->w[r]?=v'[r]?->I (todo.filter λy=>!(y.1==n)) z' w->J z' w)->body n x z v' J) :
 nN k c (some r) U λit v3=>Ys [a] (λI=>I x0 v3) λJ1 z v4=>nQ k c it v4 (A z v4) λ_ _ v5=>nT k c it v5 λkey1 val1=>body key1 val1 z v5 J1:=by
 refine⟨l,hm,λv Q M L=>?_⟩;have H:bK U v:=⟨O,λb B _=>M b B⟩;refine Z6 (a:=a) (λz w=>∃todo d,It w U.size k c (some r) l todo d/\I todo z w/\U.size<w.size) (λ_ w=>u6 w U.size r) ⟨l,none,L,h0 v Q H,O⟩ ?_;rintro z w ⟨todo,d,i,D,s⟩;refine⟨rfl,some r,l,todo,d,i,λG=>?_,λn x E P N g=>?_⟩
 ·subst G;exact hend z w D
 ·refine⟨rfl,some r,l,_,n,x,g,hstep todo n x z w P _ D E N s λz' u m j p=>?_⟩;have e:=g.bS m j;refine⟨⟨_,_,e,p,?_⟩,?_⟩
  ·obtain⟨R,K,C,F,_⟩:=e;exact(zt.1 F).1
  ·rw[e.num,i.num];exact BO.2 ⟨(n,x),E,by simp⟩
end Go.Vc
namespace Go.Ar
open Go Go.Vc Go.Proofs
open Go.Bu (Zb)
variable {U:Hp}{F:Rg}{p q r:Nat}{sp:Sp}{l:List (Int×Sl)}{B:Nat->Nat}
theorem QA {α:Type}{l:List (Int×α)}(hn:(l.map (·.1)).Nodup){n:Int}{x:α}(h:(n,x)∈l):bW l n=some x:=by
 induction l with
 | nil=>simp at h
 | cons y l ih=>
  rw[Ka];simp only[zS,zr]at hn;rcases zW.1 h with h1|h1
  ·subst h1;rw[zC rfl]
  ·have:¬y.1=n:=λe=>hn.1 (zE.2 ⟨_,h1,e.symm⟩);rw[zB this];exact ih hn.2 h1
end Go.Ar
namespace Go.Bu
open Go Go.Vc Go.Proofs
variable {U:Hp}{p n sb:Nat}{S:Nat->Bool}{ms:List Nat}
def kr (ms:List Nat):List Value:=ms.map λm=>Value.map (some m)
structure Part (B:Nat) (h:Hp) (p n:Nat) (j:Nat) (s:Sl) (ms:List Nat):Prop where
 len:ms.length=j
 sl:s.len=j
 hd:bX h p [.int .i64 n,.slice s.a s.len s.cap]
 own:Go.Vc.Own (λb=>B<=b/\b≠p/\b∉ms) h s 1 (kr ms)
 new:∀m∈ms,B<=m/\m≠p/\m<h.size
 nd:ms.Nodup
theorem Part.done {B:Nat}{h:Hp}{j:Nat}{s:Sl}(hp:Part B h p n j s ms)(hB:B<=p)(hj:0<j)(n1:1<=n)(n2:n<=1024)(lo:2^j<=2*n)(hi:n<2^j)(jo:Bounded S n)
 (maps:∀k m,ms[k]?=some m->∃B:List (Int×Bool),dI h m .i64 .b B/\Keys S k B):∃sb,BH h p n S sb ms/\∀b,fp p sb ms b->B<=b:=by
 rcases hp.own.2 with⟨_,hl,_⟩|⟨sb,cs,⟨hq,hqp,hqm⟩,ha,hb,hle,hcl,ht⟩
 ·have:=hp.sl;omega
 ·refine⟨sb,⟨?_,?_,maps,?_,n1,n2,?_,?_,jo⟩,?_⟩
  ·refine⟨s.cap,?_⟩;have:=hp.hd;rw[ha,hp.sl,←hp.len]at this;exact this
  ·refine⟨cs.drop (kr ms).length,?_⟩;have:kr ms++cs.drop (kr ms).length=cs:=by
    conv=>lhs;lhs;rw[←ht]
    exact nJ _ _
   show bX h sb (kr ms++_);rw[this];exact hb
  ·simp only[zr,zW,not_or];exact⟨⟨λe=>hqp e.symm,λa=>(hp.new p a).2.1 rfl⟩,hqm,hp.nd⟩
  ·rw[hp.len];exact lo
  ·rw[hp.len];exact hi
  ·intro b hb;simp only[fp,zW]at hb;rcases hb with rfl|rfl|h
   ·exact hB
   ·exact hq
   ·exact(hp.new b h).1
theorem Part.SQ {B:Nat}{h:Hp}{j:Nat}{s:Sl}(hp:Part B h p n j s ms):cell h ⟨p,1,none⟩=some (.slice s.a s.len s.cap):=by rw[hp.hd.cell];rfl
theorem Part.bO {B:Nat}{h h':Hp}{j:Nat}{s:Sl}(hp:Part B h p n j s ms)(e:bK h h'):Part B h' p n j s ms:=
 ⟨hp.len,hp.sl,e.bT hp.hd id,hp.own.bO e,λm a=>⟨(hp.new m a).1,(hp.new m a).2.1,tW (hp.new m a).2.2 e.1⟩,hp.nd⟩
theorem Part.step {B:Nat}{h:Hp}{j m e t bytes:Nat}{s:Sl}{zs:List Value}{K:Sl->Hp->Prop}(hp:Part B h p n j s ms)(hj:j<=1000)(hbt:bytes<=1000)(hz:zs.length=1)(hm:B<=m)(hmp:m≠p)(hml:m<h.size)(hmn:m∉ms)(hms:¬U8 s m)
 (hpB:p<h.size) (hBh:B<=h.size)
 (hgo:∀s' h',Ext (U8 s) h h'->s'.len=j+1->bX h' p [.int .i64 n,.slice s.a s.len s.cap] →
  (∀h2,Qo h' h2 p->bX h2 p [.int .i64 n,.slice s'.a s'.len s'.cap]->Part B h2 p n (j+1) s' (ms++[m]))->K s' h') :
 App s 1 bytes e zs ⟨some ⟨h.size,0,none⟩,1,1⟩ (h.push (.cells #[.map (some m)] t (0,0))) K:=by
 have E:=hp.sl;have y:Go.Vc.Own (λb=>B<=b/\b≠p/\b∉ms++[m]) (h.push (.cells #[.map (some m)] t (0,0))) s 1 (kr ms):=by
  have d:=hp.own;have h2:Go.Vc.Own (λb=>B<=b/\b≠p/\b∉ms++[m]) h s 1 (kr ms):=by
   refine⟨d.1,d.2.imp id ?_⟩;rintro⟨b,cs,⟨q1,q2,q3⟩,ha,r⟩;refine⟨b,cs,⟨q1,q2,?_⟩,ha,r⟩;simp only[zK,zN,not_or];exact⟨q3,λe=>hms ⟨0,by rw[ha,e]⟩⟩
  exact h2.bO (UV _ _)
 have C:(h.push (.cells #[.map (some m)] t (0,0))).size=h.size+1:=by simp
 refine y.app (ys:=[.map (some m)]) ?_ hz rfl Nt (by simp[dQ]) ?_ ?_ mT λs' h' D L G N=>?_
 ·intro b i;rw[C]at i;refine⟨O,O,?_⟩;simp only[zK,zN,not_or];exact⟨λw=>by have:=(hp.new b w).2.2;omega,O⟩
 ·simp only;have:(s.len+1)*bytes<=1001*1000:=lV O hbt;omega
 ·simp only;omega
 ·simp only at D;have g:Ext (U8 s) h h':=(UV h _).to.trans L;have z:¬U8 s p:=λi=>(hp.own.jf i).1.2.1 rfl;refine hgo s' h' g O (g.bT hp.hd z) λh2 u A=>⟨by simp[hp.len],O,A,?_,?_,?_⟩
  ·have:kr (ms++[m])=kr ms++[.map (some m)]:=by simp[kr]
   rw[this];exact G.bS (Ext.eJ (F:=(· = p)) u rfl) (λb J _ M=>J.2.1 M)
  ·intro x hx;have H:h2.size=h'.size:=u.1;have:=g.1;rcases zK.1 hx with d|d
   ·have:=hp.new x d;exact⟨this.1,this.2.1,O⟩
   ·simp at d;subst d;exact⟨hm,hmp,O⟩
  ·rw[nK];refine⟨hp.nd,by simp,?_⟩;intro a ha b i;simp at i;subst i;rintro rfl;exact hmn ha
def iq:Nat->Bool:=λ_=>false
theorem Il (k:Nat):Keys iq k []:=by
 refine⟨by simp,λq a=>?_⟩;have:=VG a (Ku k q);simp[iq]at this
theorem sE (aF:Int){R:Option Addr->Int->Hp->Prop}(hbad:¬(1<=aF/\aF<=1024)->R none 1 U)
 (hR:∀(n:Nat),aF=(n:Int)->1<=n->n<=1024->∀σ' sb ms,bK U σ'->BH σ' U.size n iq sb ms->(∀b,fp U.size sb ms b->U.size<=b)->R (some ⟨U.size,0,none⟩) 0 σ'):QK.c aF U R:=by
 refine QK.o ?_;unfold QK.v;refine bV.intro (cQ (λg=>cD rfl (hbad O)) λg=>?_);refine cQ (λh2=>hbad O) λh2=>?_;obtain⟨n,rfl⟩:=za (show 0<=aF by omega);have L:1<=n:=by omega
 have N:n<=1024:=by omega
 unfold Nw;have e0:=UV U (.cells #[.int .i64 (n:Int),.slice none 0 0] 52 (0,0));refine Z6 (a:=bN) (λt h=>∃(j:Nat) (s:Sl) (ms:List Nat),t=((2^j:Nat):Int)/\2^j<=2*n/\bK U h/\U.size<h.size/\Part U.size h U.size n j s ms/\∀m∈ms,dI h m .i64 .b []) (λt _=>2*n+1-t.toNat)
  ⟨0,⟨none,0,0⟩,[],rfl,by simp;omega,Ext.push _ _ _,by simp,⟨rfl,rfl,bX.push _ _ _,Own.nil _ _ _,by simp,by simp⟩,by simp⟩ ?_
 rintro t h ⟨j,s,ms,rfl,E,M,hsz,d,w⟩;have hj:j<=11:=by
  apply Classical.byContradiction;intro hc;have:2^12<=2^j:=om aB O;omega
 have Z:=kE j;refine cQ (λY=>?_) (λJ=>?_)
 ·refine aG ?_;rw[add_lit,zH];refine nC d.SQ ?_;have e1:=UV h (.map #[] 0);have hs1:(h.push (.map #[] 0)).size=h.size+1:=by simp
  have B:=d.bO e1;refine B.step (m:=h.size) O O rfl O O O (λy=>by have:=(d.new _ y).2.2;omega) (λr=>by have:=(d.own.jf r).2;omega) O O λP h' H hl r p=>?_;refine aG (r.N4 aA λh2 z C=>?_);have A:=p h2 z C;have G:bK U h2:=by
   refine Ext.fresh (Ext.fresh (M.trans e1) H λi D=>(d.own.jf D).1.1) (Ext.eJ (F:=(· = U.size)) z rfl) λi D=>?_;rw[D];exact zD _
  refine cP (m:=2^(j+1)) (by rw[mj];omega) (by rw[mj];omega) ⟨⟨j+1,P,ms++[h.size],rfl,by rw[mj];omega,G,?_,A,?_⟩,by rw[mj];omega⟩
  ·have:=z.1;have:=H.1;omega
  ·intro m y;have GU:∀{m:Nat},dI (h.push (.map #[] 0)) m .i64 .b []->¬U8 s m->m≠U.size->dI h2 m .i64 .b []:=λhM V K=>U1 z (H.fO hM V) K;rcases zK.1 y with g|g
   ·exact GU (e1.fO (w m g) id) (λr=>(d.own.jf r).1.2.2 g) (d.new m g).2.1
   ·simp at g;subst g;exact GU (dI.push _ _ _) (λr=>by have:=(d.own.jf r).2;omega) O
 ·have u:0<j:=by
   rcases Ao j with e|e
   ·subst e;simp at J;omega
   ·exact e
  obtain⟨sb,W,X⟩:=d.done (S:=iq) (zD _) u L N E O (λx Q=>by simp[iq]at Q) λk m y=>⟨[],w m (zG y),Il k⟩;exact hR n rfl L N h sb ms M W X
end Go.Bu
namespace Go.Proofs
open Go.Vc
set_option maxRecDepth 100000
def W6.h:Hn:=.q .o1 (.q (.cR (.seq [.op,.op,.op,.cX true 5 (RI.ops 5),.op])) .l)
def W6.v (a:R2)(b:Hp)(c:aO):Prop:=bV (λd e=>c d e) λf=>If (!a.isNone) (bF a 1 b λh=>f (!h.isNone) b) (f false b)
theorem W6.o {a b c}(d:W6.v a b c):W6.c a b c:=Wa Tryz.func111 (x:=W6.h) (R0 d)
def QN.h:Hn:=.q .o2 (.q (.q .o3 .aJ) (.q .o3 (.q (.q (.cR (.seq [.op,.op,.op,.cX false 3 (RI.ops 3),.op,.cX false 2 [.op,.op],.op,.cX false 2 [.op,.op]])) .aJ) (.q .o8 (.q .o9 (.q .o9 (.q (.q .o3 (.k (.loop [(61,.I)] (.q .o1 (.q (.c .l .l) (.q (.k (.q .o4 (.q .o7 (.q .o9 (.cR (.gA true [18,21] [] (.tk [0,1,2,3,4,5,6,9,10,11,12,13] (.all [(7,.all [(8,.all [(14,.all [(15,.take 16 (.take 17 (.all [(18,.take 19 (.take 20 (.all [(21,.done)])))])))])]),(14,.all [(8,.all [(15,.take 16 (.take 17 (.all [(18,.take 19 (.take 20 (.all [(21,.done)])))])))])])]),(14,.all [(7,.all [(8,.all [(15,.take 16 (.take 17 (.all [(18,.take 19 (.take 20 (.all [(21,.done)])))])))])])])])))))))) .o2)))))) (.q .o3 .l))))))))
def QN.v (a:Sl)(b:R2)(c:Int)(d:Hp)(e:Option Addr->Int->Hp->Prop):Prop:=Zu.c a d λf g=>If (!f) (e none 2 g) (XC.c b g λh i=>bV (λj k=>bV (λl m=>bV (λn o=>If n (e none 1 o) (Wi.c a o λp q=>Z5.c q λr s=>Nw (.map #[] 0) s λt u=>aV #[.slice p.a p.len p.cap,.pointer b,.pointer none,.pointer none,.pointer r,.slice none 0 0,.slice none 0 0,.map (some t.block)] 179 u λv w=>QK.c h w λx y z=>bU (some v) λaa=>aR aa 2 (.pointer x) z λab=>Km.c h ab λac ad ae=>bU (some v) λaf=>aR af 3 (.pointer ac) ae λag=>Ys [bN] (λah=>ah 0 ag) λai (aj:Int) ak=>If (aj<((a.len:Nat):Int)) (Ix a.a a.len aj 3 λal=>aQ al 0 ak λam=>aQ al 1 ak λan=>aQ al 2 ak λao=>aV #[.I 0,.I 0,.I 0] 137 ak λap aq=>aR ap 0 (.I am) aq λar=>aR ap 1 (.I an) ar λau=>aR ap 2 (.I ao) au λav=>aQ ap 0 av λaw=>aQ ap 1 av λax=>aQ ap 2 av λay=>Z4.c aw ax ay av λaz a0 a1=>aQ ap 2 a1 λa2=>ZI.c a2 c a1 λa3 a4 a5=>Jn [] (λa6=>bL (aj+1) λa7=>ai a7 a6) λa8=>eI a5 λa9=>bU (some v) λba=>aT a9 ba 5 λbb=>bU (some v) λbc=>aT a9 bc 6 λbd=>(aV #[.pointer az] 182 a5 λbe bf=>And (a9 bf) <| (App bb 1 8 182 [.pointer none] ⟨some be,1,1⟩ bf λbg bh=>And (a9 bh) <| aV #[.pointer a3] 184 bh λbi bj=>And (a9 bj) <| App bd 1 8 184 [.pointer none] ⟨some bi,1,1⟩ bj λbk bl=>And (a9 bl) <|
 bU (some v) λbm=>aR bm 5 (.slice bg.a bg.len bg.cap) bl λbn=>bU (some v) λbo=>aR bo 6 (.slice bk.a bk.len bk.cap) bn λbp=>a8 bp) ∧ (aV #[.pointer a3] 184 bf λbq br=>And (a9 br) <| App bb 1 8 182 [.pointer none] ⟨some be,1,1⟩ br λbs bt=>And (a9 bt) <| App bd 1 8 184 [.pointer none] ⟨some bq,1,1⟩ bt λbu bv=>And (a9 bv) <| bU (some v) λbw=>aR bw 5 (.slice bs.a bs.len bs.cap) bv λbx=>bU (some v) λbz=>aR bz 6 (.slice bu.a bu.len bu.cap) bx λb0=>a8 b0)) ∧ (aV #[.pointer a3] 184 a5 λb1 b2=>And (a9 b2) <| aV #[.pointer az] 182 b2 λb3 b4=>And (a9 b4) <| App bb 1 8 182 [.pointer none] ⟨some b3,1,1⟩ b4 λb5 b6=>And (a9 b6) <| App bd 1 8 184 [.pointer none] ⟨some b1,1,1⟩ b6 λb7 b8=>And (a9 b8) <| bU (some v) λb9=>aR b9 5 (.slice b5.a b5.len b5.cap) b8 λca=>bU (some v) λcb=>aR cb 6 (.slice b7.a b7.len b7.cap) ca λcc=>a8 cc)) (e (some v) 0 ak))) λcd=>If l (cd true m) (cd (decide (c>8)) m)) λce=>If j (ce true k) (ce (decide (c<0)) k)) λcf=>If (h<32) (cf true i) (Nz 16 <| cf ((h.tmod 16) != 0) i))
theorem QN.o {a b c d e}(f:QN.v a b c d e):QN.c a b c d e:=Wa Tryz.func143 (x:=QN.h) (R0 f)
def WA.h:Hn:=.q .o2 (.q (.q .o4 (.q .o2 (.c (.q .o3 .l) .l))) (.q (.o 12) .l))
def WA.v (a:R2)(b:Int)(c:Hp)(d:Sl->Int->Hp->Prop):Prop:=WO.c a b c λe f=>If (e != 0) (d ⟨none,0,0⟩ e f) (bE a 6 f λh=>Ix h.a h.len b 1 λi=>fT i f λj=>Wz.c j f λk l m=>d k l m)
theorem WA.o {a b c d}(e:WA.v a b c d):WA.c a b c d:=Wa Tryz.func150 (x:=WA.h) (R0 e)
def WB.h:Hn:=.q .o2 (.q (.q .o4 (.q .o2 (.c (.q .o3 .l) .l))) (.q (.o 13) .l))
def WB.v (a:R2)(b c:Int)(d:Hp)(e:Sl->Int->Hp->Prop):Prop:=WO.c a b d λf g=>If (f != 0) (e ⟨none,0,0⟩ f g) (bE a 5 g λi=>Ix i.a i.len b 1 λj=>fT j g λk=>W4.c k c g λl m n=>e l m n)
theorem WB.o {a b c d e}(f:WB.v a b c d e):WB.c a b c d e:=Wa Tryz.func152 (x:=WB.h) (R0 f)
def XQ.h:Hn:=.q .o1 (.q (.q .o4 (.q .o2 .aJ)) (.q (.o 17) (.q (.q .o2 .aJ) (.q .gH .l))))
def XQ.v (a:R2)(b:Int)(c:Hp)(d:aN):Prop:=WO.c a b c λe f=>If (e != 0) (d e f) (bE a 0 f λh=>Ix h.a h.len b 3 λi=>aQ i 1 f λj=>bL (b+1) λk=>Yw.c a j 1 k f λl m n=>If (m != 0) (d m n) (bE a 5 n λp=>Ix p.a p.len b 1 λq=>fT q n λr=>YH.c r l n λs t=>d s t))
theorem XQ.o {a b c d}(e:XQ.v a b c d):XQ.c a b c d:=Wa Tryz.func153 (x:=XQ.h) (R0 e)
def WK.h:Hn:=.q .o2 (.q (.k (.q .o4 (.c .aL (.q (.cR (.seq [.op,.op,.op,.cX false 2 [.op,.op],.op,.cX false 2 [.op,.op],.op,.cX false 2 [.op,.op],.op,.cX false 5 (RI.ops 5),.op])) .aJ)))) (.q .o9 (.q (.q .o2 (.c (.q .o3 .l) .l)) (.q .o7 (.q .o3 .l)))))
def WK.v (a:R2)(b c:Int)(d:Hp)(e:Int->Int->Hp->Prop):Prop:=W6.c a d λf g=>If (!f) (e 0 5 g) (bV (λh i=>bV (λj k=>bV (λl m=>bV (λn o=>If n (e 0 1 o) (Yw.c a b c 41 o λp q r=>If (q != 0) (e 0 q r) (bI a 7 r λt=>kq .i64 bN t p b r λu=>e p 0 u))) λv=>If l (v true m) (bL (c-1) λw=>v ((bits .and .i64 c w) != 0) m)) λx=>If j (x true k) (x (decide (c>16)) k)) λy=>If h (y true i) (y (decide (c<1)) i)) λz=>If (b<1) (z true g) (z (decide (b>64)) g))
theorem WK.o {a b c d e}(f:WK.v a b c d e):WK.c a b c d e:=Wa Tryz.func155 (x:=WK.h) (R0 f)
def WM.h:Hn:=.q .o1 (.q (.q .o3 .aK) (.q (.o 11) (.q (.q .o2 .aK) (.q .o6 (.q .o6 .aM)))))
def WM.v (a:R2)(b:Int)(c:Hp)(d:aN):Prop:=W6.c a c λe f=>If (!e) (d 5 f) (bI a 7 f λh=>Lk .i64 bN h b f λi=>If (!i.isSome) (d 8 f) (bI a 7 f λk=>lx .i64 bN k b f λl=>aV #[.I b,.I (i.getD 0)] 251 l λm n=>X1.c a ⟨some m,1,1⟩ n λo=>d 0 o))
theorem WM.o {a b c d}(e:WM.v a b c d):WM.c a b c d:=Wa Tryz.func163 (x:=WM.h) (R0 e)
def X1.h:Hn:=.q .o3 (.k (.loop [(8,.I)] (.q .o1 (.q (.c .l .l) (.q (.k (.q .o4 (.q (.cR (.tail 8 (RI.ops 8) [.op])) (.q (.cR (.tail 8 (RI.ops 8) [.op])) (.cR (.tail 8 (RI.ops 8) [.op])))))) .o2)))))
def X1.v (a:R2)(b:Sl)(c:Hp)(d:aP):Prop:=Ys [bN] (λe=>e 0 c) λf (g:Int) h=>If (g<((b.len:Nat):Int)) (Ix b.a b.len g 2 λi=>aQ i 0 h λj=>aQ i 1 h λk=>aV #[.I 0,.I 0] 251 h λl m=>aR l 0 (.I j) m λn=>aR l 1 (.I k) n λo=>bF a 4 o λq=>aQ l 0 o λr=>aQ l 1 o λs=>XD.c q r s o λt u=>bF a 3 u λw=>aQ l 0 u λx=>aQ l 1 u λy=>Xl.c w x y u λz aa=>bF a 2 aa λac=>aQ l 0 aa λad=>aQ l 1 aa λae=>XY.c ac ad ae aa λaf ag=>bL (g+1) λah=>f ah ag) (d h)
theorem X1.o {a b c d}(e:X1.v a b c d):X1.c a b c d:=Wa Tryz.func165 (x:=X1.h) (R0 e)
def WN.h:Hn:=.q .o1 (.q (.q .o4 (.q .o2 .aJ)) (.q (.o 14) (.q (.q .o2 .aJ) (.q .o3 .aM))))
def WN.v (a:R2)(b:Int)(c:Sl)(d:Hp)(e:aN):Prop:=WO.c a b d λf g=>If (f != 0) (e f g) (bE a 5 g λi=>Ix i.a i.len b 1 λj=>fT j g λk=>YG.c k c g λl m n=>If (m != 0) (e m n) (X1.c a l n λo=>e 0 o))
theorem WN.o {a b c d e}(f:WN.v a b c d e):WN.c a b c d e:=Wa Tryz.func175 (x:=WN.h) (R0 f)
def WO.h:Hn:=.q .o1 (.q (.k (.q .o4 (.c .aM (.q (.cR (.seq [.op,.op,.op,.cX false 7 (RI.ops 7),.op])) .aK)))) .aM)
def WO.v (a:R2)(b:Int)(c:Hp)(d:aN):Prop:=W6.c a c λe f=>If (!e) (d 5 f) (bV (λg h=>If g (d 1 h) (d 0 h)) λi=>If (b<0) (i true f) (bE a 0 f λk=>i (decide (b≥((k.len:Nat):Int))) f))
theorem WO.o {a b c d}(e:WO.v a b c d):WO.c a b c d:=Wa Tryz.func206 (x:=WO.h) (R0 e)
def Yw.h:Hn:=.q .o2 (.q (.o 12) (.kh [(10,.I),(11,.I)] (.q .o2 (.c (.q .o1 (.q (.k (.loop [(12,.I)] (.q (.q .o5 (.c .l .l)) (.k .o3)))) (.q (.q .o4 .aJ) (.o 12)))) .l)) (.q (.q .o2 (.c (.q .o3 .l) .l)) (.q .o7 (.q .o8 (.q .o3 .l))))))
def Yw.v (a:R2)(b c d:Int)(e:Hp)(f:Int->Int->Hp->Prop):Prop:=bF a 2 e λh=>Xy.c h b c e λi j k=>Jn [bN,bN] (λ(l:Int) (m:Int) n=>If (m != 0) (f 0 m n) (bF a 3 n λp=>Xu.c p l b n λq r=>bF a 4 r λt=>XU.c t l b d r λu v=>f l 0 v)) λw=>If (j==6) (Ys [bN] (λx=>x 16 k) λy (z:Int) aa=>If (z<(if c>b then c else b)) (bL (z*2) λab=>y ab aa) (YO.c a z aa λac ad=>If (!ac) (f 0 6 ad) (bF a 2 ad λaf=>Xy.c af b c ad λag ah ai=>w ag ah ai))) (w i j k)
theorem Yw.o {a b c d e f}(g:Yw.v a b c d e f):Yw.c a b c d e f:=Wa Tryz.func209 (x:=Yw.h) (R0 g)
def YI.h:Hn:=.q .o3 (.q (.q .o3 (.c (.q .o3 .l) .l)) (.q (.q .o2 (.c (.q .o3 .l) .l)) (.q .o8 (.q (.q .o2 (.c (.q .o3 .l) .l)) (.kh [] (.q .o2 (.c (.q .o5 (.k (.loop [] (.q (.cR (.seq [.it .i64 bN,.op])) (.q (.c .l .l) (.k (.q (.cR (.seq [.it .i64 bN,.op,.op,.op,.op])) (.q .o3 (.q (.cR (.seq [.op,.op,.op,.op,.cX true 5 (RI.ops 5)])) (.c (.q .o5 .l) .l)))))))))) .l)) (.q (.o 15) (.q (.q .o2 (.c (.q .o4 .l) .l)) (.q .o6 .l))))))))
def YI.v (a:R2)(b:Int)(c:Hp)(d:Int->Int->Int->Hp->Prop):Prop:=W6.c a c λe f=>If (!e) (d 0 0 5 f) (If (b<0) (d 0 0 8 f) (bF a 4 f λh=>Nz 256<|bL (b.tdiv 256) λi=>Y5.c h i f λj k=>If (j==0) (d 0 0 8 k) (Jn [] (λl=>bE a 5 l λn=>bL (j-1) λo=>Ix n.a n.len o 1 λp=>fT p l λq=>Ym.c q b l λr s t=>If (s != 0) (d 0 0 s t) (bL (j-1) λu=>d u r 0 t)) λv=>If (j==41) (bI a 7 k λx=>nN .i64 bN x k λy z=>Ys [] (λaa=>aa z) λab ac=>nQ .i64 bN y ac (v ac) (λad ae af=>nT .i64 bN y af λag ah=>Nz 256<|bL (b.tdiv 256) λai=>bV (λaj ak=>If aj (bL (ag*256) λal=>d (-1) al 0 ak) (ab ak)) λam=>If (ag<=ai) (bL (ag+ah) λan=>am (decide (ai<an)) af) (am false af))) (v k))))
theorem YI.o {a b c d}(e:YI.v a b c d):YI.c a b c d:=Wa Tryz.func213 (x:=YI.h) (R0 e)
def WF.h:Hn:=.q .o2 (.q (.q .o4 (.q .o2 (.c (.q .o3 .l) .l))) (.q (.q (.o 11) .aJ) (.q (.q .o3 (.k (.loop [(32,.I)] (.q .o1 (.q (.c .l .l) (.q (.k (.q .o3 (.q (.o 14) (.q (.cR (.seq [.op,.op,.op,.cX false 2 [.op,.op]])) .aJ)))) .o2)))))) (.q (.o 13) .l))))
def WF.v (a:R2)(b:Int)(c:Sl)(d:Hp)(e:Bool->Int->Hp->Prop):Prop:=WO.c a b d λf g=>If (f != 0) (e false f g) (bE a 0 g λi=>Ix i.a i.len b 3 λj=>aQ j 2 g λk=>If (((c.len:Nat):Int) != k) (e false 1 g) (Ys [bN] (λl=>l 0 g) λm (n:Int) o=>If (n<((c.len:Nat):Int)) (Ix c.a c.len n 1 λp=>bM p o λq=>bE a 5 o λs=>Ix s.a s.len b 1 λt=>fT t o λu=>WZ.c u q o λv w x=>bV (λy z=>If y (e false 8 z) (bL (n+1) λaa=>m aa z)) λab=>If (w != 0) (ab true x) (ab (!v) x)) (bE a 6 o λad=>Ix ad.a ad.len b 1 λae=>fT ae o λaf=>W0.c af c o λag ah ai=>e ag ah ai)))
theorem WF.o {a b c d e}(f:WF.v a b c d e):WF.c a b c d e:=Wa Tryz.func217 (x:=WF.h) (R0 f)
def YN.h:Hn:=.q .o1 (.q (.cR (.seq [.op,.op,.op,.cX true 7 (RI.ops 7),.op])) .l)
def YN.v (a:R2)(b:Int)(c:Hp)(d:aO):Prop:=W6.c a c λe f=>bV (λg h=>d g h) λi=>If e (bF a 3 f λk=>XL.c k b f λl m=>i (decide (l>0)) m) (i false f)
theorem YN.o {a b c d}(e:YN.v a b c d):YN.c a b c d:=Wa Tryz.func251 (x:=YN.h) (R0 e)
def YO.h:Hn:=.q .o1 (.q (.q .o2 (.k (.loop [(5,.I)] (.q (.q .o9 (.c .l .l)) (.q (.k (.q (.q .o8 (.c .l .l)) (.q (.q .o3 (.k (.loop [(6,.I)] (.q (.q .o6 (.c .l .l)) (.q (.k .o6) .o3))))) (.q .o7 .aM)))) .o4))))) .aM)
def YO.v (a:R2)(b:Int)(c:Hp)(d:aO):Prop:=Ys [bN] (λe=>e b c) λf (g:Int) h=>bL (g+b) λi=>bF a 1 h λk=>XC.c k h λl m=>If (i<=l) (bF a 1 m λo=>Y1.c o g b m λp q=>If (p != 0) (bL (g+b) λr=>f r q) (Nz 16<|bL (g.tdiv 16) λs=>Ys [bN] (λt=>t s q) λu (v:Int) w=>bL (g+b) λx=>Nz 16<|bL (x.tdiv 16) λy=>If (v<y) (bF a 3 w λaa=>X0.c aa v w λab ac=>bL (v+1) λad=>u ad ac) (bF a 2 w λaf=>XY.c af g b w λag ah=>d true ah))) (d false m)
theorem YO.o {a b c d}(e:YO.v a b c d):YO.c a b c d:=Wa Tryz.func254 (x:=YO.h) (R0 e)
end Go.Proofs
namespace Go.Ar
open Go Go.Vc Go.Proofs
open Go.Bu (Zb Qz Y8)
inductive Lb where
 | hd|dD|free|nL|own|dR|cN|runs
 | cE (k:Nat)
 | cM (k:Nat)
 deriving DecidableEq
structure Lay where
 p:Nat
 hs:Nat
 fr:Nat
 tr:Nat
 op:Nat
 rn:Nat
 dD:Sl
 dR:Sl
 cN:Sl
 fF:List Nat
 fU:List Nat
def kH (Y:Lay):List Value:=[.slice Y.dD.a Y.dD.len Y.dD.cap,.pointer (some ⟨Y.hs,0,none⟩),.pointer (some ⟨Y.fr,0,none⟩),.pointer (some ⟨Y.tr,0,none⟩),.pointer (some ⟨Y.op,0,none⟩),.slice Y.dR.a Y.dR.len Y.dR.cap,.slice Y.cN.a Y.cN.len Y.cN.cap,.map (some Y.rn)]
def fY (tb:List bZ):List Value:=tb.flatMap λc=>[.int .i64 (c.size:Int),.int .i64 (c.aF:Int),.int .i64 (c.batch:Int)]
def fK (l:List Nat):List Value:=l.map λb=>.pointer (some ⟨b,0,none⟩)
def iJ (l:List (Nat×Nat)):List (Int×Int):=l.map λr=>((r.1:Int),(r.2:Int))
def sd (p n:Nat)(S:Nat->Bool):Hp->Rg->Prop:=λU F=>∃sb ms,Go.Bu.BH U p n S sb ms/\∀b,Go.Bu.fp p sb ms b->F b
def l4 (p:Nat)(st:List Nat):Hp->Rg->Prop:=λU F=>∃q,ib U p q st/\F p/\F q
def jP (p:Option Nat)(c:Option bZ)(ss:Option (List cF)):Hp->Rg->Prop:=λU F=>match p,c,ss with
 | some p,some c,some ss=>∃ps,fA U F p c ps ss
 | _,_,_=>True
def kL (p:Option Nat)(c:Option bZ)(room:Nat)(t:Option gC):Hp->Rg->Prop:=λU F=>match p,c,t with
 | some p,some c,some t=>jl U F p c.batch room t
 | _,_,_=>True
def AC (A:AR)(Y:Lay)(T:Nat->Hp->Rg->Prop):Lb->Hp->Rg->Prop
 | .hd=>iu Y.p (kH Y)
 | .dD=>cU Y.dD 3 (fY A.tb)
 | .free=>sd Y.fr A.n A.S
 | .nL=>l4 Y.tr A.st
 | .own=>λU F=>iZ U F Y.op A.ow
 | .dR=>bR Y.dR 1 (fK Y.fF)
 | .cN=>bR Y.cN 1 (fK Y.fU)
 | .runs=>jx Y.rn .i64 bN (iJ A.runs)
 | .cE k=>jP Y.fF[k]? A.tb[k]? A.cE[k]?
 | .cM k=>T k
def cK (A:AR)(Y:Lay)(k:Nat):Hp->Rg->Prop:=kL Y.fU[k]? A.tb[k]? A.room A.cM[k]?
theorem sd.loc (p n:Nat)(S:Nat->Bool):dM (sd p n S):=by
 rintro U σ' F G ⟨m,j,h,s⟩ w r;have i:∀b,Go.Bu.fp p m j b->b<U.size:=λb a=>by
  unfold Go.Bu.fp at a;rcases zW.1 a with h1|h1
  ·obtain⟨c,d⟩:=h.hd;rw[h1];exact d.lt
  rcases zW.1 h1 with h2|h2
  ·obtain⟨c,d⟩:=h.row;rw[h2];exact d.lt
  ·obtain⟨k,u⟩:=zQ h2;obtain⟨B,y,_⟩:=h.maps k b u;exact y.lt
 have e:Ext (λb=>¬Go.Bu.fp p m j b) U σ':=⟨w,λb a g=>(r b a (s b (Classical.not_not.1 g))).2⟩;exact⟨m,j,h.bS e λb a x=>x a,λb a=>(r b (i b a) (s b a)).1⟩
theorem l4.loc (p:Nat)(st:List Nat):dM (l4 p st):=by
 rintro U σ' F G ⟨q,h,j,i⟩ s a;have e:Ext (λb=>b≠p/\b≠q) U σ':=⟨s,λb m r=>by
  by_cases h1:b=p
  ·subst h1;exact(a b m j).2
  ·have d:b=q:=Classical.byContradiction λd=>r ⟨h1,d⟩;subst d;exact(a b m i).2⟩
 exact⟨q,h.bS e (λg=>g.1 rfl) (λg=>g.2 rfl),(a p h.lt.1 j).1,(a q h.lt.2 i).1⟩
theorem jP.loc (p:Option Nat)(c:Option bZ)(ss:Option (List cF)):dM (jP p c ss):=by
 rintro U e F G h d b;unfold jP at *;split
 ·simp only at h;obtain⟨a,h⟩:=h;exact⟨a,fA.loc _ _ _ _ h d b⟩
 ·trivial
theorem kL.loc (p:Option Nat)(c:Option bZ)(room:Nat)(t:Option gC):dM (kL p c room t):=by
 rintro U d F G h b a;unfold kL at *;split
 ·exact jl.loc _ _ _ _ h b a
 ·trivial
theorem AC.loc {A:AR}{Y:Lay}{T:Nat->Hp->Rg->Prop}(hT:∀k,dM (T k)):∀i,dM (AC A Y T i)
 | .hd=>iu.loc _ _
 | .dD=>cU.loc _ _ _
 | .free=>sd.loc _ _ _
 | .nL=>l4.loc _ _
 | .own=>iZ.loc
 | .dR=>bR.loc _ _ _
 | .cN=>bR.loc _ _ _
 | .runs=>jx.loc _ _ _ _
 | .cE k=>jP.loc _ _ _
 | .cM k=>hT k
theorem cK.loc {A:AR}{Y:Lay}(k:Nat):dM (cK A Y k):=kL.loc _ _ _ _
structure eV (A:AR) (Y:Lay):Prop where
 c:Y.fF.length=A.tb.length
 t:Y.fU.length=A.tb.length
 cE:A.cE.length=A.tb.length
 cM:A.cM.length=A.tb.length
 m6:1<=A.tb.length
 pO:A.tb.length<=40
 n1:32<=A.n
 n2:A.n<=1024
 n3:A.n%16=0
 st:A.st.length=A.n
 room:A.room<=8
 ok:∀c∈A.tb,c.ok
structure dG (U:Hp) (F:Rg) (Y:Lay) (A:AR) (T:Nat->Hp->Rg->Prop):Prop where
 lay:eV A Y
 tl:∀k,dM (T k)
 sep:Sep (AC A Y T) U F
def AH (U:Hp)(F:Rg)(p hs:Nat)(A:AR):Prop:=∃Y:Lay,Y.p=p/\Y.hs=hs/\dG U F Y A (cK A Y)
variable {U:Hp}{F:Rg}{p hs:Nat}{A:AR}{Y:Lay}{T:Nat->Hp->Rg->Prop}
theorem dG.loc:dM λU F=>dG U F Y A T:=λU d F G h b a=>⟨h.lay,h.tl,Sep.loc (AC.loc h.tl) _ _ _ _ h.sep b a⟩
theorem AH.loc:dM λU F=>AH U F p hs A:=λU e F G ⟨Y,d,a,h⟩ b hs=>⟨Y,d,a,dG.loc _ _ _ _ h b hs⟩
theorem dG.bO {σ':Hp}(h:dG U F Y A T)(e:bK U σ'):dG σ' F Y A T:=dM.bO dG.loc h e
theorem dG.hd (h:dG U F Y A T):bX U Y.p (kH Y):=by
 obtain⟨G,b,d,a⟩:=h.sep.get .hd;exact a
theorem VE (tb:List bZ):(fY tb).length=tb.length*3:=by
 induction tb with
 | nil=>rfl
 | cons x l ih=>simp only[fY,oS,zO,zY,lK]at *;omega
theorem Gk {tb:List bZ}{i:Nat}{c:bZ}(h:tb[i]?=some c):(fY tb)[3*i]?=some (.int .i64 (c.size:Int))/\(fY tb)[3*i+1]?=some (.int .i64 (c.aF:Int))/\(fY tb)[3*i+2]?=some (.int .i64 (c.batch:Int)):=by
 induction tb generalizing i with
 | nil=>simp at h
 | cons x l ih=>
  have e:fY (x::l)=[.int .i64 (x.size:Int),.int .i64 (x.aF:Int),.int .i64 (x.batch:Int)]++fY l:=by simp[fY]
  rw[e];cases i with
  | zero=>simp at h;subst h;simp
  | succ i=>
   have:=ih (i:=i) (by simpa using h);rw[show 3*(i+1)=3*i+3 by omega];simpa using this
theorem dG.oe (h:dG U F Y A T):Y.dD.len=A.tb.length:=by
 obtain⟨G,b,a⟩:=h.sep.get .dD;have:=a.1;rw[VE]at this;omega
theorem GE {s:Sl}{tb:List bZ}(h:cU s 3 (fY tb) U F){k d:Nat}{c:bZ}(hc:tb[k]?=some c)(hd:d<3){K:Int->Prop}(hK:K (if d=0 then c.size else if d=1 then c.aF else c.batch:Nat)) :
 Ix s.a s.len (k:Int) 3 λa=>gp .i64 (a.add d) U K:=by
 have g:=Gk hc;have m:(fY tb)[3*k+d]?=some (.int .i64 ((if d=0 then c.size else if d=1 then c.aF else c.batch:Nat):Int)):=by
  match d,hd with
  | 0,_=>exact g.1
  | 1,_=>exact g.2.1
  | 2,_=>exact g.2.2
 have p:=(cW.1 hc).1;obtain⟨b,o,i,e⟩:=h.cell m;have j:=h.1;rw[VE]at j;rw[i];refine ix O O ?_;rw[add_lit,add_lit];refine nB ?_ hK;rw[show o+(k:Int).toNat*3+d=o+(3*k+d) by omega];exact e
theorem dG.wM (h:dG U F Y A T){k d:Nat}{c:bZ}(hc:A.tb[k]?=some c)(hd:d<3){K:Int->Prop}(hK:K (if d=0 then c.size else if d=1 then c.aF else c.batch:Nat)) :
 Ix Y.dD.a Y.dD.len (k:Int) 3 λa=>gp .i64 (a.add d) U K:=by
 obtain⟨G,e,b⟩:=h.sep.get .dD;exact GE b hc hd hK
theorem BI {s:Sl}{l:List Nat}(h:cU s 1 (fK l) U F){k q:Nat}(hq:l[k]?=some q){K:Option Addr->Prop}(hK:K (some ⟨q,0,none⟩)):Ix s.a s.len (k:Int) 1 λa=>fT a U K:=by
 have i:=(cW.1 hq).1;obtain⟨b,o,e,d⟩:=h.cell (j:=k) (v:=.pointer (some ⟨q,0,none⟩)) (by simp[fK,hq]);have g:=h.1;simp[fK]at g;rw[e];refine ix O O ?_;rw[add_lit];exact uu (by rw[show o+(k:Int).toNat*1=o+k by omega];exact d) hK
theorem dG.lr (h:dG U F Y A T){k q:Nat}(hq:Y.fF[k]?=some q){K:Option Addr->Prop}(hK:K (some ⟨q,0,none⟩)):Ix Y.dR.a Y.dR.len (k:Int) 1 λa=>fT a U K:=by
 obtain⟨G,d,b⟩:=h.sep.get .dR;exact BI (bR.gY b) hq hK
theorem dG.qZ (h:dG U F Y A T){k q:Nat}(hq:Y.fU[k]?=some q){K:Option Addr->Prop}(hK:K (some ⟨q,0,none⟩)):Ix Y.cN.a Y.cN.len (k:Int) 1 λa=>fT a U K:=by
 obtain⟨G,d,b⟩:=h.sep.get .cN;exact BI (bR.gY b) hq hK
theorem dG.at_ (h:dG U F Y A T){k:Nat}(hk:k<A.tb.length):∃c ss q t r,A.tb[k]?=some c/\A.cE[k]?=some ss/\Y.fF[k]?=some q/\A.cM[k]?=some t/\Y.fU[k]?=some r/\c.ok:=by
 have b:=h.lay.c;have d:=h.lay.t;have e:=h.lay.cE;have a:=h.lay.cM;exact⟨A.tb[k],A.cE[k],Y.fF[k],A.cM[k],Y.fU[k],by simp,by simp,by simp,by simp,by simp,h.lay.ok _ (j7 hk)⟩
theorem Cv {k q:Nat}{c:bZ}{ss:List cF}{G:Rg}(h1:Y.fF[k]?=some q)(h2:A.tb[k]?=some c)(h3:A.cE[k]?=some ss)(h:AC A Y T (.cE k) U G):∃ps,fA U G q c ps ss:=by
 simp only[AC]at h;rw[h1,h2,h3]at h;exact h
theorem dG.cE (h:dG U F Y A T){k q:Nat}{c:bZ}{ss:List cF}(h1:Y.fF[k]?=some q)(h2:A.tb[k]?=some c)(h3:A.cE[k]?=some ss):∃G ps,(∀b,G b->F b)/\fA U G q c ps ss:=by
 obtain⟨G,e,d⟩:=h.sep.get (.cE k);obtain⟨ps,a⟩:=Cv h1 h2 h3 d;exact⟨G,ps,e,a⟩
theorem UN (h:dG U F Y A T){R:aO}(hR:R true U):W6.c (aW Y.p) U R:=by
 refine W6.o ?_;unfold W6.v;exact bV.intro (cD rfl (aG (h.hd.rP rfl hR)))
theorem Ud (h:dG U F Y A T)(k:Int){R:aN}(h1:A.ck k=false->R 1 U)(h0:∀x:Nat,k=x->x<A.tb.length->R 0 U):WO.c (aW Y.p) k U R:=by
 refine WO.o ?_;unfold WO.v;have g:=h.oe;have a:¬(0<=k/\k<A.tb.length)->R 1 U:=λe=>h1 (by unfold AR.ck;rw[←uw];exact zM e);refine UN h (cB rfl (bV.intro (cQ (λd=>cD rfl (a O)) λd=>aG (h.hd.rS rfl (cQ (λb=>?_) λb=>?_)))))
 ·simp only at b;exact a O
 ·simp only at b;exact h0 k.toNat O O
theorem ME (h:dG U F Y A T)(x:Int){R:aO}(hR:R (GG A x) U):YN.c (aW Y.p) x U R:=by
 refine YN.o ?_;unfold YN.v;obtain⟨G,b,q,a,_⟩:=h.sep.get .nL;refine UN h (bV.intro (cD rfl (aG (h.hd.rP rfl (RS a x ?_)))));have:decide (yE A.st x>0)=GG A x:=by
  unfold yE GG;by_cases hx:0<=x
  ·by_cases hl:x<A.st.length
   ·rw[zC ⟨hx,hl⟩,zJ hx,qE,decide_eq_decide];omega
   ·rw[zB O,zJ hx,qE,zP,zV O];rfl
  ·rw[zB O,zM hx];rfl
 rw[this];exact hR
structure iI (A:AR):Prop where
 sZ:∀r∈A.runs,∀s∈A.runs,∀x,r.1<=x->x<r.1+r.2->s.1<=x->x<s.1+s.2->r=s
 xH:∀x,x<1024->A.ow x=41->(qP A x).isSome=true
 cls:∀x,x<1024->A.ow x≠0->A.ow x≠41->A.ow x<=A.tb.length
 fit:∀r∈A.runs,r.1+r.2<=1024
theorem Bh (h:iI A){x:Nat}{r:Nat×Nat}(hr:r∈A.runs)(h1:r.1<=x)(h2:x<r.1+r.2):qP A x=some r:=by
 cases hf:qP A x with
 | none=>
  unfold qP at hf;rw[nS]at hf;have:=hf r hr;simp[h1,h2]at this
 | some s=>
  unfold qP at hf;have b:=sT hf;have a:=tv hf;simp at a;rw[h.sZ r hr s b x h1 h2 a.1 a.2]
theorem OH (h:dG U F Y A T)(hr:iI A)(x:Int)(hx:iE x){R:Int->Int->Int->Hp->Prop}(h1:∀σ' k a,bK U σ'->UE A x=some (k,a)->R k (a:Int) 0 σ')(h0:∀σ',bK U σ'->UE A x=none->R 0 0 8 σ') :
 YI.c (aW Y.p) x U R:=by
 refine YI.o ?_;unfold YI.v;refine UN h (cB rfl (cQ (λc1=>h0 U (Ext.refl _ _) (by unfold UE;rw[zC c1])) λc1=>aG (h.hd.rP rfl (nz aB ?_))));obtain⟨y,rfl⟩:=za (show 0<=x by omega);have hy:y<=9223372036854775807:=by unfold iE at hx;omega
 have Z:((y:Int).tdiv 256)=((y/256:Nat):Int):=by rw[XP O];simp
 refine ar (by rw[Z];omega) (by rw[Z];omega) ?_;rw[Z];obtain⟨G,hG,hP⟩:=h.sep.get .own;refine JN hP _ ?_;have eo:qp A.ow ((y/256:Nat):Int)=if y/256<1024 then A.ow (y/256)else 0:=by
  unfold qp;by_cases hl:y/256<1024
  ·rw[zC O,zC hl];rfl
  ·rw[zB O,zB hl]
 have g:UE A (y:Int)=(let no:=if y/256<1024 then A.ow (y/256)else 0
  if no=0 then none else if no=41 then(qP A (y/256)).map λr=>(-1,r.1*256)else
  match A.tb[no-1]?,A.cE[no-1]? with
  | some c,some ss=>(qJ c ss (y:Int)).map λa=>(((no-1:Nat):Int),a)
  | _,_=>none):=by
  unfold UE;rw[zB c1];rfl
 rw[eo];generalize hno:(if y/256<1024 then A.ow (y/256)else 0)=no at *
 simp only at g;rw[tz];refine cO (λV=>h0 U (Ext.refl _ _) (by rw[g,zC (by simpa using V)])) λV=>?_;have E:no≠0:=by simpa using V
 rw[zB E]at g;have D:y/256<1024:=by
  rcases ke (y/256) 1024 with h|h
  ·exact h
  ·rw[zB O]at hno;exact absurd hno.symm E
 rw[zC D]at hno;refine Jn.intro ?_;have X:(((no:Nat):Int)==41)=(no==41):=lR no 41;rw[X];refine cO (λc2=>?_) λc2=>?_
 ·have w:no=41:=by simpa using c2
  subst w;rw[zC rfl]at g;obtain⟨r,H⟩:=pJ.1 (hr.xH _ D hno);have j:=sT H;have C:=tv H;simp at C;obtain⟨G,hG,L⟩:=h.sep.get .runs;refine aG (h.hd.rM rfl ?_);refine A6 L.2 (λd v=>bK U v/\(∀z∈d,z∈iJ A.runs)/\((r.1:Int),(r.2:Int))∈d) (λv hz e=>⟨e,λz hz=>hz,zE.2 ⟨r,j,rfl⟩⟩) (λv hv=>absurd hv.2.2 aA) ?_;rintro d n z v v' J ⟨e,b,B⟩ hm ho hlt2 hJ;have e':bK U v':=Ext.fresh e ho.ext λi hi=>by omega
  obtain⟨s,P,hse⟩:=zE.1 (b _ hm);cases hse;have hfit:=hr.fit s P;refine nz aB (ar O O ?_);refine bV.intro (cQ (λc3=>ar O O (cQ (λc4=>?_) λc4=>?_)) λc3=>cB rfl ?_)
  ·have W:=Bh hr P (x:=y/256) O O;refine ar O O ?_;have:=h1 v' (-1) (s.1*256) e' (by rw[g,W];rfl);simpa using this
  ·refine hJ v' rfl rfl ⟨e',λu S=>b u (zI.1 S).1,zI.2 ⟨B,?_⟩⟩;have:¬(r.1:Int)=(s.1:Int):=λe=>by
    have:=Bh hr j C.1 C.2;have e1:r.1=s.1:=by omega
    by_cases h2:r.2=0
    ·omega
    by_cases h3:s.2=0
    ·have:=L.2.nodup;have M:=QA this (zE.2 ⟨r,j,rfl⟩);have N:=QA this (zE.2 ⟨s,P,rfl⟩);rw[e1,N]at M;have:s.2=r.2:=by
      have:(s.2:Int)=(r.2:Int):=Option.some.inj M;omega
     omega
    ·have:=hr.sZ r j s P r.1 O O O O;subst this;omega
   simpa using this
  ·refine hJ v' rfl rfl ⟨e',λu S=>b u (zI.1 S).1,zI.2 ⟨B,?_⟩⟩;have:¬(r.1:Int)=(s.1:Int):=λe=>by omega
   simpa using this
 ·have w:no≠41:=by simpa using c2
  rw[zB w]at g;have hcl:=hr.cls _ D (by rw[hno];exact E) (by rw[hno];exact w);rw[hno]at hcl;obtain⟨c,ss,q,t,r,hc,K,hq,_,_,hok⟩:=h.at_ (k:=no-1) O;obtain⟨G,ps,hG,hC⟩:=h.cE hq hc K;rw[hc,K]at g;simp only at g;refine aG (h.hd.rS rfl (cP (m:=no-1) O (by have:=h.lay.pO;omega) (h.lr hq (NL hC _ hx (λa Q=>?_) λQ=>?_))))
  ·refine cB rfl (cP (m:=no-1) O (by have:=h.lay.pO;omega) (h1 U _ a (Ext.refl _ _) ?_));rw[g,Q];rfl
  ·refine cD rfl (h0 U (Ext.refl _ _) ?_);rw[g,Q];rfl
end Go.Ar
namespace Go.Ar
open Go Go.Vc Go.Proofs
open Go.Bu (Zb Qz Y8)
open Classical in
theorem _root_.Go.Vc.Sep.jK {L:Type}{C:L->Hp->Rg->Prop}{U:Hp}{F:Rg}(hC:∀i,dM (C i))(h:Sep C U F)(i:L):∃G:Rg,(∀b,G b->F b)/\C i U G/\(∀j,j≠i->∃H:Rg,(∀b,H b->F b)/\(∀b,H b->¬G b)/\C j U H)/\∀(σ':Hp) (C':L->Hp->Rg->Prop) (G':Rg),
 (∀j,j≠i->C' j=C j)->Ext G U σ'->(∀b,G' b->G b\/U.size<=b)->C' i σ' G'->dM (C' i)->Sep C' σ' λb=>F b/\b<U.size/\¬G b\/G' b:=by
 obtain⟨ρ,h⟩:=h;refine⟨_,λb a=>a.1,h i,λj p=>⟨_,λb a=>a.1,λb m u=>p (m.2.symm.trans u.2),h j⟩,λσ' C' G' p e w x y=>⟨λb=>if G' b then i else ρ b,λj=>?_⟩⟩
 by_cases hji:j=i
 ·subst hji;exact y.mono x λb _ a=>⟨.inr a,zC a⟩
 ·rw[p j hji];refine hC j _ _ _ _ (h j) e.1 λb a r=>?_;have d:¬(F b/\ρ b=i):=λs=>hji (r.2.symm.trans s.2);have g:¬G' b:=λs=>by
   rcases w b s with m|m
   ·exact d m
   ·omega
  exact⟨⟨.inl ⟨r.1,a,d⟩,(zB g).trans r.2⟩,e.2 b a d⟩
variable {U:Hp}{F:Rg}{p hs:Nat}{A:AR}{Y:Lay}{T:Nat->Hp->Rg->Prop}
theorem dG.step (h:dG U F Y A T)(i:Lb):∃G:Rg,(∀b,G b->F b)/\AC A Y T i U G/\(∀j,j≠i->∃H:Rg,(∀b,H b->F b)/\(∀b,H b->¬G b)/\AC A Y T j U H)/\∀(σ':Hp) (A':AR) (Y':Lay) (T':Nat->Hp->Rg->Prop) (G' H:Rg),
 eV A' Y'->(∀k,dM (T' k))->(∀j,j≠i->AC A' Y' T' j=AC A Y T j)->Ext G U σ'->(∀b,G' b->G b\/U.size<=b)->AC A' Y' T' i σ' G'->(∀b,(F b/\b<U.size/\¬G b\/G' b)->H b)->dG σ' H Y' A' T':=by
 obtain⟨G,w,r,hd,a⟩:=h.sep.jK (AC.loc h.tl) i;refine⟨G,w,r,hd,λσ' A' Y' T' G' H x d p e m g u=>⟨x,d,?_⟩⟩;exact(Sep.loc (AC.loc d)).mono (a σ' _ G' p e m g (AC.loc d i)) λb _ s=>u b s
theorem HN {U:Hp}{F G G':Rg}(hG:∀b,G b->F b)(hg:∀b,G' b->G b\/U.size<=b):∀b,(F b/\b<U.size/\¬G b\/G' b)->Grow F U b:=λb a=>by
 rcases a with a|a
 ·exact .inl a.1
 ·exact(hg b a).imp (hG b) id
theorem xX {U:Hp}{F G G':Rg}(hG:∀b,G b->F b)(hg:∀b,G' b->G b):∀b,(F b/\b<U.size/\¬G b\/G' b)->F b:=λb a=>by
 rcases a with a|a
 ·exact a.1
 ·exact hG b (hg b a)
theorem E0 {U:Hp}{F G:Rg}(hG:∀b,G b->F b):∀b,(F b/\b<U.size/\¬G b\/Cut G U b)->Cut F U b:=λb a=>by
 rcases a with a|a
 ·exact⟨a.1,a.2.1⟩
 ·exact⟨hG b a.1,a.2⟩
theorem FC {ow:Nat->Nat}:∀j,j≠Lb.own->AC {A with ow:=ow} Y T j=AC A Y T j:=by
 intro j hj;cases j<;>first|rfl|exact absurd rfl hj
theorem JW {st:List Nat}:∀j,j≠Lb.nL->AC {A with st:=st} Y T j=AC A Y T j:=by
 intro j hj;cases j<;>first|rfl|exact absurd rfl hj
theorem Af {S:Nat->Bool}:∀j,j≠Lb.free->AC {A with S:=S} Y T j=AC A Y T j:=by
 intro j hj;cases j<;>first|rfl|exact absurd rfl hj
theorem SG {rs:List (Nat×Nat)}:∀j,j≠Lb.runs->AC {A with runs:=rs} Y T j=AC A Y T j:=by
 intro j hj;cases j<;>first|rfl|exact absurd rfl hj
theorem OQ {k:Nat}{ss:List cF}:∀j,j≠Lb.cE k->AC {A with cE:=A.cE.set k ss} Y T j=AC A Y T j:=by
 intro j hj;cases j<;>first|rfl|skip
 rename_i k';have a:k≠k':=λe=>hj (by rw[e]);simp only[AC];rw[zk a]
theorem eV.ow {ow:Nat->Nat}(h:eV A Y):eV {A with ow:=ow} Y:=⟨h.c,h.t,h.cE,h.cM,h.m6,h.pO,h.n1,h.n2,h.n3,h.st,h.room,h.ok⟩
theorem eV.Ae {S:Nat->Bool}(h:eV A Y):eV {A with S:=S} Y:=⟨h.c,h.t,h.cE,h.cM,h.m6,h.pO,h.n1,h.n2,h.n3,h.st,h.room,h.ok⟩
theorem eV.pR {rs:List (Nat×Nat)}(h:eV A Y):eV {A with runs:=rs} Y:=⟨h.c,h.t,h.cE,h.cM,h.m6,h.pO,h.n1,h.n2,h.n3,h.st,h.room,h.ok⟩
theorem eV.vM {st:List Nat}(h:eV A Y)(hl:st.length=A.st.length):eV {A with st:=st} Y:=⟨h.c,h.t,h.cE,h.cM,h.m6,h.pO,h.n1,h.n2,h.n3,hl.trans h.st,h.room,h.ok⟩
theorem eV.kO {k:Nat}{ss:List cF}(h:eV A Y):eV {A with cE:=A.cE.set k ss} Y:=⟨h.c,h.t,by simpa using h.cE,h.cM,h.m6,h.pO,h.n1,h.n2,h.n3,h.st,h.room,h.ok⟩
theorem Dc (st:List Nat)(a m:Int)(v:Nat)(fr:List Nat):(V6 st a m v fr).length=st.length:=by
 unfold V6;split<;>simp[Kq]
theorem NQ (st:List Nat)(k:Int):(iY st k).length=st.length:=by
 unfold iY;split<;>simp[Kq]
theorem dG.Clear (h:dG U F Y A T)(a m:Nat)(ha:a<=1000000){R:aN}(hR:∀σ' t,Ext F U σ'->dG σ' (Grow F U) Y {A with ow:=jz A.ow a m 0} T->R t σ'):XD.c (aW Y.op) a m U R:=by
 obtain⟨G,i,j,_,d⟩:=h.step .own;refine L3 j a m ha λσ' e p=>hR σ' _ (e.sub i) ?_;exact d σ' _ _ T (Grow G U) _ h.lay.ow h.tl FC e (λb g=>g) p (HN i λb g=>g)
theorem dG.Set (h:dG U F Y A T)(a m:Nat)(ha:a<=1000000){no:Nat}(h1:1<=no)(h2:no<=1000){R:aN}(hR:∀σ' t,Ext F U σ'->dG σ' (Grow F U) Y {A with ow:=jz A.ow a m no} T->R t σ'):XU.c (aW Y.op) a m no U R:=by
 obtain⟨G,i,j,_,d⟩:=h.step .own;refine Ir j a m ha h1 h2 λσ' e p=>hR σ' _ (e.sub i) ?_;exact d σ' _ _ T (Grow G U) _ h.lay.ow h.tl FC e (λb g=>g) p (HN i λb g=>g)
theorem dG.nL (h:dG U F Y A T):∃G:Rg,(∀b,G b->F b)/\∃q,ib U Y.tr q A.st/\F q/\∀(σ':Hp) (st:List Nat),st.length=A.st.length->Ext (· = q) U σ'->ib σ' Y.tr q st->Ext F U σ'/\dG σ' F Y {A with st:=st} T:=by
 obtain⟨G,i,⟨q,r,m,g⟩,_,d⟩:=h.step .nL;refine⟨G,i,q,r,i _ g,λσ' st j e p=>⟨e.sub λb a=>by subst a;exact i _ g,?_⟩⟩;exact d σ' _ _ T G _ (h.lay.vM j) h.tl JW (e.sub λb a=>by subst a;exact g) (λb a=>.inl a) ⟨q,p,m,g⟩ (xX i λb a=>a)
theorem dG.wJ (h:dG U F Y A T)(a m:Int){R:aN}(hR:∀σ' t,Ext F U σ'->dG σ' F Y {A with st:=V6 A.st a m 2 [1]} T->R t σ'):Xl.c (aW Y.tr) a m U R:=by
 obtain⟨G,i,q,g,_,b⟩:=h.nL;refine MM g a m λσ' e d=>?_;have:=b σ' _ (Dc _ _ _ _ _) e d;exact hR σ' _ this.1 this.2
theorem dG.Jj (h:dG U F Y A T)(a m:Int){R:aN}(hR:∀σ' t,Ext F U σ'->dG σ' F Y {A with st:=V6 A.st a m 1 [2,3]} T->R t σ'):Xu.c (aW Y.tr) a m U R:=by
 obtain⟨G,i,q,g,_,b⟩:=h.nL;refine LW g a m λσ' e d=>?_;have:=b σ' _ (Dc _ _ _ _ _) e d;exact hR σ' _ this.1 this.2
theorem dG.Bi (h:dG U F Y A T)(k:Int){R:aN}(hR:∀σ' t,Ext F U σ'->dG σ' F Y {A with st:=iY A.st k} T->R t σ'):X0.c (aW Y.tr) k U R:=by
 obtain⟨G,g,q,d,_,a⟩:=h.nL;refine Ns d k λσ' e b=>?_;have:=a σ' _ (NQ _ _) e b;exact hR σ' _ this.1 this.2
theorem dG.free (h:dG U F Y A T):∃sb ms,Go.Bu.BH U Y.fr A.n A.S sb ms/\∀(σ':Hp) (S:Nat->Bool),Ext (· ∈ ms) U σ'->Go.Bu.BH σ' Y.fr A.n S sb ms->Ext F U σ'/\dG σ' F Y {A with S:=S} T:=by
 obtain⟨G,j,⟨sb,ms,p,i⟩,_,d⟩:=h.step .free;have g:∀b,b∈ms->G b:=λb a=>i b (by unfold Go.Bu.fp;simp[a]);refine⟨sb,ms,p,λσ' S e m=>⟨e.sub λb a=>j b (g b a),?_⟩⟩;exact d σ' _ _ T G _ h.lay.Ae h.tl Af (e.sub g) (λb a=>.inl a) ⟨sb,ms,m,i⟩ (xX j λb a=>a)
theorem dG.wX (h:dG U F Y A T)(a m:Int){R:aN}(hR:∀σ' t,Ext F U σ'->dG σ' F Y {A with S:=Qz A.n A.S a m} T->R t σ'):XY.c (aW Y.fr) a m U R:=by
 obtain⟨j,i,g,b⟩:=h.free;refine Go.Bu.qe g a m λσ' e d=>?_;have:=b σ' _ e d;exact hR σ' _ this.1 this.2
theorem dG.u7 (h:dG U F Y A T)(a m:Int){R:Int->Int->Hp->Prop}(hR:∀σ',Ext F U σ'->dG σ' F Y {A with S:=Go.Bu.iM A.n A.S a m} T->R ((Go.Bu.iQ A.n A.S a m:Nat):Int) (Go.Bu.iL A.n A.S a m) σ'):Xy.c (aW Y.fr) a m U R:=by
 obtain⟨j,i,g,b⟩:=h.free;refine Go.Bu.kT g a m λσ' e d=>?_;have:=b σ' _ e d;exact hR σ' this.1 this.2
def rV (rs:List (Nat×Nat)):List Value:=rs.flatMap λr=>[.int .i64 (r.1:Int),.int .i64 (r.2:Int)]
theorem Ee (rs:List (Nat×Nat)):(rV rs).length=rs.length*2:=by
 induction rs with
 | nil=>rfl
 | cons x l ih=>simp only[rV,oS,zO,zY,lK]at *;omega
theorem Sm {l:List (Nat×Nat)}{i:Nat}{r:Nat×Nat}(h:l[i]?=some r):(rV l)[2*i]?=some (.int .i64 (r.1:Int))/\(rV l)[2*i+1]?=some (.int .i64 (r.2:Int)):=by
 induction l generalizing i with
 | nil=>simp at h
 | cons x l ih=>
  have e:rV (x::l)=[.int .i64 (x.1:Int),.int .i64 (x.2:Int)]++rV l:=by simp[rV]
  rw[e];cases i with
  | zero=>simp at h;subst h;simp
  | succ i=>
   have:=ih (i:=i) (by simpa using h);rw[show 2*(i+1)=2*i+2 by omega];simpa using this
theorem Po (c:bZ)(l:List Nat):iG c l=rV (l.map λs=>(s,c.aF)):=by
 simp[iG,rV,List.flatMap_map]
theorem Nh {s:Sl}{rs:List (Nat×Nat)}(h:cU s 2 (rV rs) U F){i:Nat}{r:Nat×Nat}(hr:rs[i]?=some r){K:Int->Int->Prop}(hK:K (r.1:Int) (r.2:Int)) :
 Ix s.a s.len (i:Int) 2 λa=>gp .i64 (a.add 0) U λu=>gp .i64 (a.add 1) U λw=>K u w:=by
 have j:=Sm hr;have x:=(cW.1 hr).1;obtain⟨b,o,g,p⟩:=h.cell j.1;obtain⟨y,o1,d,e⟩:=h.cell j.2;rw[g]at d;cases d;have m:=h.1;rw[Ee]at m;rw[g];refine ix O O ?_;rw[add_lit];refine nB ?_ (nB ?_ hK)<;>rw[add_lit]
 ·rw[show o+(i:Int).toNat*2+0=o+2*i by omega];exact p
 ·rw[show o+(i:Int).toNat*2+1=o+(2*i+1) by omega];exact e
theorem dG.mono {G:Rg}(h:dG U F Y A T)(hs:∀b,b<U.size->F b->G b):dG U G Y A T:=dM.mono dG.loc h hs
theorem dG.cut (h:dG U F Y A T):dG U (Cut F U) Y A T:=dM.cut dG.loc h
theorem OE (A:AR)(rs:List (Nat×Nat))(r:Nat×Nat):VW A (rs++[r])=VB (VW A rs) r:=by simp[VW]
theorem DV (h:dG U F Y A T){sl:Sl}{rs:List (Nat×Nat)}{X:Rg}(hs:cU sl 2 (rV rs) U X)(hX:∀b,b<U.size->X b->¬F b)(hl:rs.length<=1000000)(hb:∀r∈rs,r.1<=1000000){R:aP}
 (hR:∀σ',Ext F U σ'->dG σ' (Grow F U) Y (VW A rs) T->R σ'):X1.c (aW Y.p) sl U R:=by
 refine X1.o ?_;unfold X1.v;have V:sl.len=rs.length:=by have:=hs.1;rw[Ee]at this;omega
 have z:cU sl 2 (rV rs) U (Cut X U):=aH.cut hs;refine Z6 (a:=bN) (λ(t:Int) v=>∃i:Nat,t=(i:Int)/\i<=rs.length/\Ext F U v/\dG v (Grow F U) Y (VW A (rs.take i)) T) (λt _=>rs.length-t.toNat) ⟨0,rfl,O,Ext.refl _ _,by simpa[VW]using h.mono λb _ hb=>.inl hb⟩ ?_;rintro t v ⟨i,rfl,P,e,C⟩;refine cQ (λhlt=>?_) λhge=>?_
 ·have j:i<rs.length:=by omega
  have y:rs[i]?=some rs[i]:=cV j;have M:=hb _ (j7 j);have L:=aH.bS z e λb J y w=>hX b J y.1 w;refine Nh L y ?_;have K:rs.take (i+1)=rs.take i++[rs[i]]:=by rw[k6,y];rfl
  generalize rs[i]=r at *;refine nw (cs:=[.int .i64 0,.int .i64 0]) λv4 hz4 e4 B=>B.s1 aA λv5 o5 b5=>b5.s1 aA λv6 o6 W=>?_;have s:bK v v6:=Ext.fresh (Ext.fresh e4 o5.ext λi P=>O) o6.ext λi P=>by omega
  have u:=C.cut.bO s;have S:¬Cut (Grow F U) v v.size:=λw=>by have:=w.2;omega
  have g:bX v6 v.size [.int .i64 (r.1:Int),.int .i64 (r.2:Int)]:=W;have z6:v.size<v6.size:=W.lt;refine aG (u.hd.rP rfl (g.rI rfl (g.rI rfl (u.Clear r.1 r.2 M λv7 t7 e7 D=>?_))));have E:=e7.bT g S;have d:=D.mono (G:=λb=>Cut (Grow F U) v b\/v.size<b) λb _ hb=>by
   rcases hb with hb|hb
   ·exact .inl hb
   ·exact .inr O
  have N:¬(Cut (Grow F U) v v.size\/v.size<v.size):=λw=>by
   rcases w with h|h
   ·exact S h
   ·omega
  refine aG (d.hd.rP rfl (E.rI rfl (E.rI rfl (d.wJ _ _ λv8 t8 Z x=>?_))));have Q:=Z.bT E N;refine aG (x.hd.rP rfl (Q.rI rfl (Q.rI rfl (x.wX _ _ λv9 t9 e9 H=>?_))));have sub:∀b,(Cut (Grow F U) v b\/v.size<b)->Grow F U b:=λb hb=>by
   rcases hb with hb|hb
   ·exact hb.1
   ·exact .inr (by have:=e.1;omega)
  have ee:Ext F U v9:=((((e.trans (bK.to s)).jt (e7.sub λb hb=>hb.1))).jt (Z.sub sub)).jt (e9.sub sub);refine cP (m:=i+1) O O ⟨⟨i+1,rfl,O,ee,?_⟩,O⟩;rw[K,OE];exact H.mono λb _ hb=>sub b hb
 ·have:i=rs.length:=by omega
  subst this;rw[mK]at C;exact hR v e C
end Go.Ar
namespace Go.Proofs
open Go.Vc
set_option maxRecDepth 100000
def XE.h:Hn:=.q .o1 (.q (.q .o3 .aK) (.q .o1 (.q (.q .o5 (.k (.loop [(3,.I)] (.q (.cR (.seq [.it .i64 .p,.op])) (.q (.c .l .l) (.k (.q (.cR (.seq [.it .i64 .p,.op,.op,.op,.op])) (.oq 17)))))))) .aL)))
def XE.v (a:R2)(b:Hp)(c:aN):Prop:=W5.c a b λd e=>If (!d) (c 0 e) (bI a 2 e λg=>nN .i64 .p g e λh i=>Ys [bN] (λj=>j 0 i) λk (l:Int) m=>nQ .i64 .p h m (c l m) (λn o p=>nT .i64 .p h p λq r=>bE a 0 p λt=>Ix t.a t.len q 3 λu=>aQ u 0 p λv=>bE r 0 p λx=>bL (v*((x.len:Nat):Int)) λy=>bL (l+y) λz=>k z p))
theorem XE.o {a b c}(d:XE.v a b c):XE.c a b c:=Wa Tryz.func79 (x:=XE.h) (R0 d)
def W5.h:Hn:=.q .o1 (.q (.cR (.seq [.op,.op,.op,.cX true 5 (RI.ops 5),.op])) .l)
def W5.v (a:R2)(b:Hp)(c:aO):Prop:=bV (λd e=>c d e) λf=>If (!a.isNone) (bI a 2 b λh=>f (!h.isNone) b) (f false b)
theorem W5.o {a b c}(d:W5.v a b c):W5.c a b c:=Wa Tryz.func110 (x:=W5.h) (R0 d)
def QL.h:Hn:=.q .o2 (.q (.k (.q .o4 (.c .aL (.q (.cR (.seq [.op,.op,.op,.cX false 2 [.op,.op],.op])) .aJ)))) (.q .o8 .l))
def QL.v (a:Sl)(b:Int)(c:Hp)(d:Option Addr->Int->Hp->Prop):Prop:=Zu.c a c λe f=>If (!e) (d none 2 f) (bV (λg h=>If g (d none 1 h) (Wi.c a h λi j=>Nw (.map #[] 0) j λk l=>aV #[.slice i.a i.len i.cap,.I b,.map (some k.block)] 168 l λm n=>d (some m) 0 n)) λo=>If (b<0) (o true f) (o (decide (b>65536)) f))
theorem QL.o {a b c d}(e:QL.v a b c d):QL.c a b c d:=Wa Tryz.func144 (x:=QL.h) (R0 e)
def X2.h:Hn:=.q .o2 (.q .o8 (.q (.q .o2 (.c (.q .o3 .l) .l)) (.q (.q .o6 (.c (.q (.q .o9 (.q .o6 (.c .o8 (.o 11)))) .aL) .l)) (.q .o7 (.q .o8 (.q .gH (.q .gH (.q .o3 .l))))))))
def X2.v (a:R2)(b:Int)(c:Hp)(d:Int->Int->Hp->Prop):Prop:=Xi.c a b c λe f g=>If (f != 0) (d 0 f g) (bE e 0 g λi=>If (((i.len:Nat):Int)==0) (bE a 0 g λk=>Ix k.a k.len b 3 λl=>aQ l 2 g λm=>bD e 1 g λo=>If (o<m) (bD e 1 g λq=>bL (q+1) λr=>bU e λs=>aR s 1 (.I r) g λt=>d 0 4 t) (bD e 1 g λv=>bL (v+m) λw=>bU e λx=>aR x 1 (.I (if 128<w then 128 else w)) g λy=>d 0 4 y)) (bE e 0 g λaa=>bL (((aa.len:Nat):Int)-1) λab=>bE e 0 g λad=>Ix ad.a ad.len ab 1 λae=>bM ae g λaf=>bE e 0 g λah=>eX ah 1 0 ab (ah.cap:Nat) λai=>bU e λaj=>aR aj 0 (.slice ai.a ai.len ai.cap) g λak=>bD e 2 ak λam=>bU e λan=>aR an 2 (.I (if ab<am then ab else am)) ak λao=>d af 0 ao))
theorem X2.o {a b c d}(e:X2.v a b c d):X2.c a b c d:=Wa Tryz.func147 (x:=X2.h) (R0 e)
def Ya.h:Hn:=.q .o2 (.q .o8 (.q (.q .o2 (.c (.q .o3 .l) .l)) (.q (.oq 15) .l)))
def Ya.v (a:R2)(b:Int)(c:Hp)(d:Int->Int->Hp->Prop):Prop:=Xi.c a b c λe f g=>If (f != 0) (d 0 f g) (bD e 1 g λi=>bE a 0 g λk=>Ix k.a k.len b 3 λl=>aQ l 2 g λm=>d (if m<i then m else i) 0 g)
theorem Ya.o {a b c d}(e:Ya.v a b c d):Ya.c a b c d:=Wa Tryz.func149 (x:=Ya.h) (R0 e)
def XZ.h:Hn:=.q .o1 (.q .o8 (.q (.q .o2 .aJ) (.q .o3 (.q .o2 (.q .o4 .l)))))
def XZ.v (a:R2)(b:Int)(c:Sl)(d:Hp)(e:aN):Prop:=Xi.c a b d λf g h=>If (g != 0) (e g h) (WC.c c h λi j=>WT.c i j λk=>WU.c f i k λl m=>e l m)
theorem XZ.o {a b c d e}(f:XZ.v a b c d e):XZ.c a b c d e:=Wa Tryz.func154 (x:=XZ.h) (R0 f)
def Yz.h:Hn:=.q .o2 (.q .o8 (.q (.q .o2 (.c (.q .o3 .l) .l)) (.q (.q .o5 (.q .o2 (.c (.q .o3 .l) .l))) (.q (.q (.oq 10) .aJ) (.q .o9 (.kh [] (.q .o6 (.c .o8 .l)) (.q (.o 11) .l)))))))
def Yz.v (a:R2)(b c:Int)(d:Hp)(e:Sl->Int->Hp->Prop):Prop:=Xi.c a b d λf g h=>If (g != 0) (e ⟨none,0,0⟩ g h) (aV #[.I c] 3 h λi j=>WU.c f ⟨some i,1,1⟩ j λk l=>If (k != 0) (e ⟨none,0,0⟩ k l) (bE f 0 l λn=>bD f 1 l λp=>If (((n.len:Nat):Int)<=p) (e ⟨none,0,0⟩ 0 l) (bE a 0 l λr=>Ix r.a r.len b 3 λs=>aQ s 2 l λt=>Jn [] (λu=>bE f 0 u λw=>W3.c f (if((w.len:Nat):Int)<t then((w.len:Nat):Int)else t) u λx y=>e x 0 y) λz=>bD f 1 l λab=>If (ab<t) (bD f 1 l λad=>bL (ad+1) λae=>bU f λaf=>aR af 1 (.I ae) l λag=>z ag) (z l))))
theorem Yz.o {a b c d e}(f:Yz.v a b c d e):Yz.c a b c d e:=Wa Tryz.func157 (x:=Yz.h) (R0 f)
def XW.h:Hn:=.q .o1 (.q (.cR (.gA false [] [(2,.one .b)] (.take 0 (.all [(1,.take 2 (.split 5 (.tk [3,5,6,7] (.all [(4,.all [(8,.tk [9,10,11] (.done))]),(8,.all [(4,.tk [9,10,11] (.done))])])) (.tk [3,4,5,6,7,8,9,10,11] (.done))))])))) .l)
def XW.v (a:R2)(b:Hp)(c:aO):Prop:=Jn [.b] (λ(d:Bool) e=>c d e) λf=>W5.c a b λg h=>If g (bU a λi=>(XE.c a h λj k=>aQ i 1 k λl=>f (decide (j>l)) k) ∧ (aQ i 1 h λm=>XE.c a h λn o=>f (decide (n>m)) o)) (f false h)
theorem XW.o {a b c}(d:XW.v a b c):XW.c a b c:=Wa Tryz.func158 (x:=XW.h) (R0 d)
def WY.h:Hn:=.q .o1 (.q .o3 .l)
def WY.v (a:R2)(b:Hp)(c:Sl->Hp->Prop):Prop:=Xc.c a ⟨216,#[],#[]⟩ b λd e=>c d e
theorem WY.o {a b c}(d:WY.v a b c):WY.c a b c:=Wa Tryz.func159 (x:=WY.h) (R0 d)
def Xx.h:Hn:=.q .o1 (.q .o3 .l)
def Xx.v (a:R2)(b:Hp)(c:Sl->Hp->Prop):Prop:=Xc.c a ⟨218,#[],#[]⟩ b λd e=>c d e
theorem Xx.o {a b c}(d:Xx.v a b c):Xx.c a b c:=Wa Tryz.func164 (x:=Xx.h) (R0 d)
def Xi.h:Hn:=.q .o2 (.q (.q .o3 .aJ) (.q .o4 (.q (.q .o2 .aJ) (.q .o3 .l))))
def Xi.v (a:R2)(b:Int)(c:Hp)(d:Option Addr->Int->Hp->Prop):Prop:=W5.c a c λe f=>If (!e) (d none 5 f) (Zl.c a b f λg h=>If g.isNone (d none 1 h) (d g 0 h))
theorem Xi.o {a b c d}(e:Xi.v a b c d):Xi.c a b c d:=Wa Tryz.func204 (x:=Xi.h) (R0 e)
def WU.h:Hn:=.q .o1 (.q (.q .o9 .aK) (.q (.o 11) .aM))
def WU.v (a:R2)(b:Sl)(c:Hp)(d:aN):Prop:=bE a 0 c λf=>bL (((f.len:Nat):Int)+((b.len:Nat):Int)) λg=>If (g>256) (d 6 c) (bE a 0 c λi=>Xb.c i c λj k=>App j 1 8 3 [.I 0] b k λl m=>bU a λn=>aR n 0 (.slice l.a l.len l.cap) m λo=>d 0 o)
theorem WU.o {a b c d}(e:WU.v a b c d):WU.c a b c d:=Wa Tryz.func212 (x:=WU.h) (R0 e)
def W3.h:Hn:=.q .o1 (.q .o8 (.q (.o 11) (.q (.cR (.tail 13 (RI.ops 13) [.op])) .aL)))
def W3.v (a:R2)(b:Int)(c:Hp)(d:Sl->Hp->Prop):Prop:=bE a 0 c λf=>eX f 1 0 b (f.cap:Nat) λg=>WC.c g c λh i=>bE a 0 i λk=>eX k 1 b (k.len:Nat) (k.cap:Nat) λl=>WC.c l i λm n=>bU a λo=>aR o 0 (.slice m.a m.len m.cap) n λp=>bD a 2 p λr=>bE a 0 p λt=>bU a λu=>aR u 2 (.I (if((t.len:Nat):Int)<r then((t.len:Nat):Int)else r)) p λv=>d h v
theorem W3.o {a b c d}(e:W3.v a b c d):W3.c a b c d:=Wa Tryz.func214 (x:=W3.h) (R0 e)
def Xc.h:Hn:=.q .o1 (.q (.q .o3 .aK) (.q .o1 (.q (.q .o5 (.k (.loop [(5,.one .s)] (.q (.cR (.seq [.it .i64 .p,.op])) (.q (.c .l .l) (.k (.q (.cR (.seq [.it .i64 .p,.op,.op,.op,.op])) (.q (.o 12) (.q .o3 (.c .o7 .l)))))))))) (.q .o2 .aL))))
def Xc.v (a:R2)(b:Fv)(c:Hp)(d:Sl->Hp->Prop):Prop:=W5.c a c λe f=>If (!e) (d ⟨none,0,0⟩ f) (bI a 2 f λh=>nN .i64 .p h f λi j=>Ys [.s] (λk=>k ⟨none,0,0⟩ j) λl (m:Sl) n=>nQ .i64 .p i n (ZQ.c m ⟨264,#[],#[]⟩ n λo=>d m o) (λp q r=>nT .i64 .p i r λs t=>bE a 0 r λv=>Ix v.a v.len s 3 λw=>aQ w 2 r λx=>VP Tryz.prog b [.pointer t,.I x] [.one .s] r λy z=>If (((y.len:Nat):Int)>0) (aV #[.I s,.slice y.a y.len y.cap] 135 z λaa ab=>App m 2 32 135 [.I 0,.slice none 0 0] ⟨some aa,1,1⟩ ab λac ad=>l ac ad) (l m z)))
theorem Xc.o {a b c d}(e:Xc.v a b c d):Xc.c a b c d:=Wa Tryz.func215 (x:=Xc.h) (R0 e)
def Xm.h:Hn:=.q .o1 (.q .o9 (.kh [] (.q .o6 (.c (.o 12) .l)) (.q .o9 .aL)))
def Xm.v (a:R2)(b:Int)(c:Hp)(d:Sl->Hp->Prop):Prop:=bD a 2 c λf=>bL (f+1) λg=>Nz 2<|bL (g.tdiv 2) λh=>W3.c a h c λi j=>Jn [] (λk=>bE a 0 k λm=>bU a λn=>aR n 2 (.I ((m.len:Nat):Int)) k λo=>d i o) λp=>bD a 1 j λr=>If (r>b) (bD a 1 j λt=>bL (t-b) λu=>bU a λv=>aR v 1 (.I (if b>u then b else u)) j λw=>p w) (p j)
theorem Xm.o {a b c d}(e:Xm.v a b c d):Xm.c a b c d:=Wa Tryz.func216 (x:=Xm.h) (R0 e)
def Yp.h:Hn:=.q .o1 (.q .o8 .l)
def Yp.v (a:R2)(b:Int)(c:Hp)(d:Sl->Hp->Prop):Prop:=bE a 0 c λf=>W3.c a ((f.len:Nat):Int) c λg h=>d g h
theorem Yp.o {a b c d}(e:Yp.v a b c d):Yp.c a b c d:=Wa Tryz.func218 (x:=Yp.h) (R0 e)
def Zl.h:Hn:=.q .o1 (.q (.q (.cR (.seq [.op,.op,.op,.op,.cX false 2 [.op,.op],.op,.cX false 7 (RI.ops 7)])) .aK) (.kh [] (.q .o7 (.c .o8 .l)) (.q .o7 .l)))
def Zl.v (a:R2)(b:Int)(c:Hp)(d:Option Addr->Hp->Prop):Prop:=W5.c a c λe f=>bV (λg h=>bV (λi j=>If i (d none j) (Jn [] (λk=>bI a 2 k λm=>Lk .i64 .p m b k λn=>d (n.getD none) k) λo=>bU a λp=>bB p 2 j λq=>Lk .i64 .p q b j λr=>If ((r.getD none).isNone) (bI a 2 j λt=>aV #[.slice none 0 0,.I 1,.I 0] 171 j λu v=>kq .i64 .p t b (some u) v λw=>o w) (o j))) λx=>If g (x true h) (bE a 0 h λz=>x (decide (b≥((z.len:Nat):Int))) h)) λaa=>If (!e) (aa true f) (aa (decide (b<0)) f)
theorem Zl.o {a b c d}(e:Zl.v a b c d):Zl.c a b c d:=Wa Tryz.func248 (x:=Zl.h) (R0 e)
end Go.Proofs
namespace Go.Ar
open Go Go.Vc Go.Proofs
theorem cU.sub {U:Hp}{F:Rg}{s:Sl}{sz:Nat}{xs:List Value}(h:cU s sz xs U F){lo hi mx:Nat}(h1:lo<=hi)(h2:hi<=s.len)(h3:hi<=mx) :
 cU ⟨if mx=lo then s.a else s.a.map (·.add (lo*sz)),hi-lo,mx-lo⟩ sz ((xs.drop (lo*sz)).take ((hi-lo)*sz)) U F:=by
 have e:=h.1;have e1:hi*sz<=s.len*sz:=lW _ h2;have e2:(hi-lo)*sz=hi*sz-lo*sz:=Nat.sub_mul _ _ _;have g:lo*sz<=hi*sz:=lW _ h1;refine⟨by rw[zZ,j3];simp only;omega,?_⟩;by_cases hm:mx=lo
 ·left;have:hi-lo=0:=by omega
  rw[this,uR,yl]
 ·rcases h.2 with h0|⟨b,o,cs,hb,ha,hq,hc⟩
  ·left;subst h0;simp
  ·refine .inr ⟨b,o+lo*sz,cs,hb,?_,hq,λj d=>?_⟩
   ·simp only[zB hm,ha,zX,add_lit]
   ·rw[zZ,j3]at d;rw[vN,hc _ O,zj,kR,zC O]
inductive sF where
 | hd|dD|mp
 | li (k:Nat)
 deriving DecidableEq
structure gN where
 p:Nat
 m:Nat
 dD:Sl
 ps:List (Nat×Nat)
def iX (ps:List (Nat×Nat))(k:Nat):Option Nat:=(ps.find? λx=>x.1==k).map (·.2)
def jG (ps:List (Nat×Nat)):List (Int×Option Addr):=ps.map λx=>((x.1:Int),some ⟨x.2,0,none⟩)
def mR (s:Sl)(l:Li):List Value:=[.slice s.a s.len s.cap,.int .i64 (l.lim:Int),.int .i64 (l.low:Int)]
def iV (b:Nat)(l:Li):Hp->Rg->Prop:=λU F=>F b/\fJ l/\∃s:Sl,bX U b (mR s l)/\cU s 1 (Wo l.os) U (λq=>F q/\q≠b)/\s.len<=s.cap
def oC (b:Option Nat)(l:Option Li):Hp->Rg->Prop:=λU F=>match b,l with
 | some b,some l=>iV b l U F
 | none,some l=>l=ia
 | _,none=>True
def A5 (Y:gN)(bud:Nat):List Value:=[.slice Y.dD.a Y.dD.len Y.dD.cap,.int .i64 (bud:Int),.map (some Y.m)]
def CC (tb:List bZ)(bud:Nat)(ls:List Li)(Y:gN):sF->Hp->Rg->Prop
 | .hd=>iu Y.p (A5 Y bud)
 | .dD=>cU Y.dD 3 (fY tb)
 | .mp=>jx Y.m .i64 .p (jG Y.ps)
 | .li k=>oC (iX Y.ps k) ls[k]?
theorem iV.loc (b:Nat)(l:Li):dM (iV b l):=by
 rintro U y F G ⟨u,m,s,j,p,r⟩ x a;have i:=a b j.lt u;obtain⟨e,w⟩:=j;exact⟨i.1,m,s,⟨e,i.2.trans w⟩,cU.loc _ _ _ _ _ _ _ p x λq g d=>⟨⟨(a q g d.1).1,d.2⟩,(a q g d.1).2⟩,r⟩
theorem oC.loc (b:Option Nat)(l:Option Li):dM (oC b l):=by
 intro U σ' F G h hz hs;unfold oC at *;split at h
 ·exact iV.loc _ _ _ _ _ _ h hz hs
 ·exact h
 ·trivial
theorem CC.loc {tb:List bZ}{bud:Nat}{ls:List Li}{Y:gN}:∀i,dM (CC tb bud ls Y i)
 | .hd=>iu.loc _ _
 | .dD=>cU.loc _ _ _
 | .mp=>jx.loc _ _ _ _
 | .li k=>oC.loc _ _
structure dZ (U:Hp) (F:Rg) (Y:gN) (tb:List bZ) (bud:Nat) (ls:List Li):Prop where
 m6:tb.length<=40
 ok:∀c∈tb,c.ok
 len:ls.length=tb.length
 keys:∀x∈Y.ps,x.1<tb.length
 sep:Sep (CC tb bud ls Y) U F
variable {U:Hp}{F G:Rg}{Y:gN}{tb:List bZ}{bud:Nat}{ls:List Li}{b k:Nat}{l:Li}
theorem dZ.loc:dM λU F=>dZ U F Y tb bud ls:=λU d F G h b a=>⟨h.m6,h.ok,h.len,h.keys,Sep.loc CC.loc _ _ _ _ h.sep b a⟩
theorem dZ.bO {σ':Hp}(h:dZ U F Y tb bud ls)(e:bK U σ'):dZ σ' F Y tb bud ls:=dM.bO dZ.loc h e
theorem dZ.hd (h:dZ U F Y tb bud ls):bX U Y.p (A5 Y bud):=by
 obtain⟨G,b,a⟩:=h.sep.get .hd;exact a.2
theorem dZ.jA (h:dZ U F Y tb bud ls):cU Y.dD 3 (fY tb) U F:=by
 obtain⟨G,d,a⟩:=h.sep.get .dD;exact aH.mono a λb _ a=>d b a
theorem dZ.oe (h:dZ U F Y tb bud ls):Y.dD.len=tb.length:=by
 have:=h.jA.1;rw[VE]at this;omega
theorem dZ.map (h:dZ U F Y tb bud ls):dI U Y.m .i64 .p (jG Y.ps):=by
 obtain⟨G,b,a⟩:=h.sep.get .mp;exact a.2
theorem A7 (ps:List (Nat×Nat))(k:Nat):bW (α:=Option Addr) (jG ps) (k:Int)=(iX ps k).map λb=>some ⟨b,0,none⟩:=by
 induction ps with
 | nil=>rfl
 | cons x l ih=>
  simp only[bW,jG,iX,zS,uC]at *;have e:(((x.1:Nat):Int)==(k:Int))=(x.1==k):=lR _ _;rw[e];cases x.1==k
  ·exact ih
  ·rfl
theorem C0 {ps:List (Nat×Nat)}(h:iX ps k=none):∀x∈ps,x.1≠k:=by
 unfold iX at h;simp only[qR,nS,zT]at h;exact h
theorem JJ {ps:List (Nat×Nat)}(h:iX ps k=none)(b:Nat):dB (α:=Option Addr) (jG ps) (k:Int) (some ⟨b,0,none⟩)=jG (ps++[(k,b)]):=by
 unfold dB;rw[zB]
 ·simp[jG]
 ·simp only[jG,List.any_map,ko,Function.comp,zT,not_exists,not_and];intro x hx e;exact C0 h x hx O
theorem Uo {ps:List (Nat×Nat)}(h:iX ps k=none)(b j:Nat):iX (ps++[(k,b)]) j=if j=k then some b else iX ps j:=by
 have a:=C0 h;unfold iX at *;rw[List.find?_append];by_cases hj:j=k
 ·subst hj;have:ps.find? (λx=>x.1==j)=none:=by simpa using h
  rw[this];simp
 ·rw[zB hj];cases hf:ps.find? (λx=>x.1==j)with
  | none=>
   have:(k==j)=false:=by simpa using λe=>hj e.symm
   simp[this]
  | some x=>simp
theorem C2 {ps:List (Nat×Nat)}(hn:((jG ps).map (·.1)).Nodup)(h:(k,b)∈ps):iX ps k=some b:=by
 induction ps with
 | nil=>simp at h
 | cons x l ih=>
  simp only[jG,zS,zr]at hn;unfold iX;rw[uC];rcases zW.1 h with rfl|h
  ·simp
  ·have:(x.1==k)=false:=by
    have:x.1≠k:=λe=>hn.1 (zE.2 ⟨(((k:Nat):Int),some ⟨b,0,none⟩),zE.2 ⟨(k,b),h,rfl⟩,by rw[e]⟩);simpa using this
   rw[this];exact ih hn.2 h
theorem UY (h:dZ U F Y tb bud ls){R:aO}(hR:R true U):W5.c (aW Y.p) U R:=by
 refine W5.o ?_;unfold W5.v;exact bV.intro (cD rfl (aG (h.hd.rM rfl hR)))
theorem dZ.vn (h:dZ U F Y tb bud ls)(hb:iX Y.ps k=some b)(hl:ls[k]?=some l):∃G:Rg,(∀q,G q->F q)/\iV b l U G/\¬G Y.m ∧
 ∀(σ':Hp) (l':Li) (G':Rg),Ext G U σ'->(∀q,G' q->Grow G U q)->iV b l' σ' G'->Ext F U σ'/\dZ σ' (λq=>F q/\q<U.size/\¬G q\/G' q) Y tb bud (ls.set k l'):=by
 have r:=(cW.1 hl).1;obtain⟨G,s,g,a,d⟩:=h.sep.jK CC.loc (.li k);have g:iV b l U G:=by
  simp only[CC,oC,hb,hl]at g;exact g
 have i:¬G Y.m:=by
  obtain⟨H,_,hd,p⟩:=a .mp (by intro e;cases e);exact hd _ p.1
 refine⟨G,s,g,i,λσ' l' G' e u x=>⟨e.sub s,h.m6,h.ok,by rw[nG];exact h.len,h.keys,?_⟩⟩;refine d σ' (CC tb bud (ls.set k l') Y) G' (λj w=>?_) e u ?_ (CC.loc _)
 ·cases j<;>try rfl
  rename_i m;have i:m≠k:=λe=>w (by rw[e]);simp only[CC,zk (Ne.symm i)]
 ·simp only[CC,oC,hb,zL r];exact x
theorem dZ.mono (h:dZ U F Y tb bud ls)(hs:∀q,q<U.size->F q->G q):dZ U G Y tb bud ls:=dM.mono dZ.loc h hs
theorem dZ.cut (h:dZ U F Y tb bud ls):dZ U (Cut F U) Y tb bud ls:=dM.cut dZ.loc h
theorem dZ.fB {v:Hp}(h:dZ v (Grow F U) Y tb bud ls)(e0:Ext F U v)(hb:iX Y.ps k=some b)(hl:ls[k]?=some l):∃G:Rg,iV b l v G ∧
 ∀(σ':Hp) (l':Li) (G':Rg),Ext G v σ'->(∀q,G' q->Grow G v q)->iV b l' σ' G'->Ext F U σ'/\dZ σ' (Grow F U) Y tb bud (ls.set k l'):=by
 obtain⟨G,m,p,_,d⟩:=h.vn hb hl;refine⟨G,p,λσ' l' G' e i g=>?_⟩;obtain⟨e1,j⟩:=d σ' l' G' e i g;refine⟨e0.jt e1,j.mono λq _ a=>?_⟩;have:=e0.1;rcases a with a|a
 ·exact a.1
 ·rcases i q a with h2|h2
  ·exact m q h2
  ·exact .inr O
theorem Ld (h:dZ U F Y tb bud ls)(hk:k<tb.length){R:Option Addr->Hp->Prop}(hR:∀σ' Y' b,Ext F U σ'->Y'.p=Y.p->iX Y'.ps k=some b->dZ σ' (Grow F U) Y' tb bud ls->R (some ⟨b,0,none⟩) σ') :
 Zl.c (aW Y.p) (k:Int) U R:=by
 refine Zl.o ?_;unfold Zl.v;have J:k<ls.length:=by rw[h.len];exact hk
 have E:ls[k]?=some ls[k]:=cV J;generalize ls[k]=l at E;have N:=h.oe;refine UY h (bV.intro (cB rfl ?_));refine bV.intro (fR O (aG (h.hd.rS rfl ?_)));refine fR aC ?_;refine Jn.intro (aG (h.hd.rM rfl ⟨_,h.map,?_⟩));rw[A7];cases hf:iX Y.ps k with
 | some b=>
  refine cB rfl (aG (h.hd.rM rfl ⟨_,h.map,?_⟩));rw[A7,hf];exact hR U Y b (Ext.refl _ _) rfl hf (h.mono λq _ a=>.inl a)
 | none=>
  refine cD rfl (aG (h.hd.rM rfl (nw (cs:=[.slice none 0 0,.int .i64 1,.int .i64 0]) λv S e D=>?_)));obtain⟨G,H,u,Q,hd,g,w,r⟩:=h.cut.sep.od CC.loc .mp (.li k) (by intro e;cases e);have M:∀q,G q->F q:=λq a=>(u q a).1;have g:jx Y.m .i64 .p (jG Y.ps) U G:=g;have w:l=ia:=by
   simp only[CC,oC,hf,E]at w;exact w
  have L:=g.2.lt;have y:dI v Y.m .i64 .p (jG Y.ps):=e.fO g.2 id;refine⟨Y.m,_,rfl,y,λv2 B s=>?_⟩;rw[JJ hf]at s;have e2:Ext F U v2:=(bK.to e).only B (.inl (M _ g.1));have C:Ext (λq=>G q\/H q) U v2:=(bK.to e).only B (.inl (.inl g.1));have z:bX v2 U.size [.slice none 0 0,.int .i64 1,.int .i64 0]:=Ws B D O;have d:dZ v2 (Grow F U) {Y with ps:=Y.ps++[(k,U.size)]} tb bud ls:=by
   refine⟨h.m6,h.ok,h.len,λx i=>?_,?_⟩
   ·rcases zK.1 i with i|i
    ·exact h.keys x i
    ·simp only[zN]at i;subst i;exact hk
   refine(Sep.loc CC.loc).mono (r v2 (CC tb bud ls {Y with ps:=Y.ps++[(k,U.size)]}) G (· = U.size) (λj A K=>?_) C (λq a=>.inl (.inl a)) (λq a=>.inr O) (λq A K=>?_) ⟨g.1,s⟩ ?_ CC.loc) λq _ a=>?_
   ·cases j<;>first|rfl|exact absurd rfl A|skip
    rename_i m;have P:m≠k:=λe=>K (by rw[e]);simp only[CC,Uo hf,zB P]
   ·have:=(u q A).2;omega
   ·simp only[CC,Uo hf,zR,E,w,oC];exact⟨rfl,fJ.nil,⟨none,0,0⟩,z,cU.nil _ _ _ _,zD _⟩
   ·rcases a with a|a|a
    ·exact .inl a.1.1
    ·exact .inl (M q a)
    ·exact .inr O
  refine aG (d.hd.rM rfl ⟨_,d.map,?_⟩);rw[A7,Uo hf,zC rfl];exact hR v2 {Y with ps:=Y.ps++[(k,U.size)]} U.size e2 rfl (by show iX (Y.ps++[(k,U.size)]) k=_;rw[Uo hf,zC rfl]) d
theorem Gb (h:dZ U F Y tb bud ls)(hk:k<tb.length){R:Option Addr->Int->Hp->Prop}(hR:∀σ' Y' b,Ext F U σ'->Y'.p=Y.p->iX Y'.ps k=some b->dZ σ' (Grow F U) Y' tb bud ls->R (some ⟨b,0,none⟩) 0 σ') :
 Xi.c (aW Y.p) (k:Int) U R:=by
 refine Xi.o ?_;unfold Xi.v;exact UY h (cB rfl (Ld h hk λσ' Y' b e g a d=>cB rfl (hR σ' Y' b e g a d)))
theorem bR.qA {s:Sl}{sz:Nat}{xs:List Value}(h:bR s sz xs U F):s.len<=s.cap:=by
 rcases h.2 with⟨q1,q2⟩|⟨_,_,_,_,_,q,_⟩
 ·omega
 ·exact q
theorem He (h:iV b l U G){m:Nat}(hm:m<=l.os.length){R:Sl->Hp->Prop}
 (hR:∀s z σ',Ext (· = b) U σ'->U.size<=z->bR s 1 (Wo (l.os.take m)) σ' (λq=>U.size<=q/\q<z)->iV b (gg m l).2 σ' (λq=>q=b\/z<=q)->R s σ') :
 W3.c (aW b) (m:Int) U R:=by
 refine W3.o ?_;unfold W3.v;obtain⟨X,a,s,C,F,W⟩:=h;have N:s.len=l.os.length:=by have:=F.1;simp[Wo]at this;omega
 have y:=a.many;have L:=a.low;have u:=cU.sub F (lo:=0) (hi:=m) (mx:=s.cap) O O O;have e1:((Wo l.os).drop (0*1)).take ((m-0)*1)=Wo (l.os.take m):=by simp[Wo]
 rw[e1]at u;refine aG (C.rS rfl (iN (lo:=0) O aC aC (UZ u Vr aC λs1 K S x E=>?_)));have p:=x.bT C id;have H:=aH.bO F x;have i:=cU.sub H (lo:=m) (hi:=s.len) (mx:=s.cap) O O O;have e2:((Wo l.os).drop (m*1)).take ((s.len-m)*1)=Wo (l.os.drop m):=by
  rw[mG (by simp[Wo];omega)];simp[Wo]
 rw[e2]at i;refine aG (p.rS rfl (iN aC aC aC (UZ i Vr aC λs2 M J B w=>?_)));have A:=B.bT p id;refine aG (A.s1 (by simp[mR]) λv3 o3 e=>aG (e.rI rfl (aG (e.rS rfl (aG (e.s1 (by simp[mR]) λv4 o4 g=>?_))))));have d:Ext (· = b) M v4:=o3.ext.trans o4.ext;have P:=C.lt;have D:=x.1;have r:s2.len=l.os.length-m:=by rw[J];simp only;omega
 refine hR s1 K.size v4 ((bK.to (x.trans B)).trans d) D ?_ ⟨.inl rfl,yf a,s2,?_,?_,bR.qA w⟩
 ·refine aI.bS (aI.bO (aI.mono E (G:=λq=>U.size<=q/\q<K.size) λq j V=>⟨V,j⟩) B) d λq _ j Q=>by omega
 ·have:(if((s2.len:Nat):Int)<(l.low:Int)then((s2.len:Nat):Int)else(l.low:Int))=((min l.low (l.os.length-m):Nat):Int):=by rw[r];split<;>omega
  rw[this]at g;exact g
 ·refine aH.mono (aH.bS w.gY d λq _ j Q=>O) λq _ j=>⟨.inr j,O⟩
theorem Mp (h:iV b l U G){sl:Sl}{xs:List Int}{X:Rg}(hs:cU sl 1 (Wo xs) U X)(hx:xs≠[])(hfit:l.os.length+xs.length<=256){R:aN}
 (hR:∀σ',Ext (· = b) U σ'->iV b (eB xs l) σ' (λq=>q=b\/U.size<=q)->R 0 σ'):WU.c (aW b) sl U R:=by
 refine WU.o ?_;unfold WU.v;obtain⟨J,r,s,g,d,H⟩:=h;have D:s.len=l.os.length:=by have:=d.1;simp[Wo]at this;omega
 have B:sl.len=xs.length:=by have:=hs.1;simp[Wo]at this;omega
 have y:=pC.2 hx;have z:eB xs l = {l with os:=l.os++xs}:=by unfold eB;rw[zB O]
 refine aG (g.rS rfl (cP (m:=l.os.length+xs.length) aC O (fR O (aG (g.rS rfl ?_)))));refine Xb.o ?_;unfold Xb.v;refine iN (lo:=0) aC aC aC ?_;have F:=g.lt;refine⟨Wo l.os,Wo xs,by simp[Wo];omega,by simp[Wo];omega,?_,hs.rd,Vr,?_,by simp only;omega,λw=>by simp only at w;omega,λx c i=>?_⟩
 ·by_cases h0:s.len=0
  ·have:l.os=[]:=uZ.1 O;rw[this];simp only[h0,zR];cases s.a<;>simp[Rd,Wo]
  ·simp only[zB h0,uR];have:=d.rd;cases ha:s.a with
   | none=>rw[ha]at this;simpa[Rd]using this
   | some a=>rw[ha]at this;simpa[Rd,Addr.add_zero']using this
 ·simp only;have:(s.len-0+sl.len)*8<=256*8:=lV O O;omega
 ·refine nw λv K e u=>aG ((e.bT g id).s1 (by simp[mR]) λC o2 p=>?_);have A:l.os.length+xs.length<=c:=by simp only at i;omega
  refine hR C ((bK.to e).trans o2.ext) ?_;rw[z];have:=xL (xs:=xs) r;rw[z]at this;refine⟨.inl rfl,this,⟨some ⟨U.size,0,none⟩,s.len-0+sl.len,c⟩,p,⟨by simp[Wo];omega,.inr ⟨U.size,0,_,⟨.inr (zD _),O⟩,rfl,(Ws o2 u O).q,λj E=>?_⟩⟩,by simp only;omega⟩;simp only[Wo,zl,zO]at E;rw[zH,jY,←jY,ze (by simp[Wo];omega)];simp[Wo]
theorem Mv (h:iV b l U G){sl:Sl}{xs:List Int}{X:Rg}(hs:cU sl 1 (Wo xs) U X)(hfit:¬l.os.length+xs.length<=256)(hxs:xs.length<=1000000){R:aN}
 (hR:R 6 U):WU.c (aW b) sl U R:=by
 refine WU.o ?_;unfold WU.v;obtain⟨j,a,s,g,d,p⟩:=h;have i:s.len=l.os.length:=by have:=d.1;simp[Wo]at this;omega
 have e:sl.len=xs.length:=by have:=hs.1;simp[Wo]at this;omega
 have:=a.many;exact aG (g.rS rfl (cP (m:=l.os.length+xs.length) aC O (lH O hR)))
end Go.Ar
namespace Go.Ar
open Go Go.Vc Go.Proofs
variable {U:Hp}{F G:Rg}{Y:gN}{tb:List bZ}{bud:Nat}{ls:List Li}{b k:Nat}{l:Li}{c:bZ}
theorem dZ.cls (h:dZ U F Y tb bud ls)(hc:tb[k]?=some c):c.ok/\k<tb.length:=⟨h.ok c (zG hc),(cW.1 hc).1⟩
theorem iV.st {v:Hp}(h:iV b l U G){s:Sl}{l':Li}(ho:Ext (· = b) U v)(hb:bX v b (mR s l'))(hs:cU s 1 (Wo l'.os) U (λq=>G q/\q≠b))(hc:s.len<=s.cap)(ok:fJ l'):iV b l' v G:=
 ⟨h.1,ok,s,hb,aH.bS hs ho λq _ a d=>a.2 d,hc⟩
theorem kT (h:dZ U F Y tb bud ls)(hc:tb[k]?=some c)(hl:ls[k]?=some l){R:Int->Int->Hp->Prop}
 (hR:∀σ' Y',Ext F U σ'->Y'.p=Y.p->dZ σ' (Grow F U) Y' tb bud (ls.set k (QY c l).2)->R ((QY c l).1.getD 0) (if(QY c l).1.isSome then 0 else 4) σ'):X2.c (aW Y.p) (k:Int) U R:=by
 obtain⟨u,hk⟩:=h.cls hc;refine X2.o ?_;unfold X2.v;refine Gb h hk λv Y' b e hp hb Q=>cB rfl ?_;obtain⟨G,hL,E⟩:=Q.fB e hb hl;have B:=hL;obtain⟨N,i,s,g,H,r⟩:=hL;have L:=Q.hd;rw[hp]at L;have V:s.len=l.os.length:=by have:=H.1;simp[Wo]at this;omega
 have o1:=i.low;have o2:=i.many;have o3:=i.lim;have o4:=i.nr;have a:=DX u i;have fin:∀v' G',Ext G v v'->(∀q,G' q->Grow G v q)->iV b (QY c l).2 v' G'->R ((QY c l).1.getD 0) (if(QY c l).1.isSome then 0 else 4) v':=λv' G' P hg X=>by
  obtain⟨e2,h2⟩:=E v' _ G' P hg X;exact hR v' Y' e2 hp h2
 unfold bZ.ok at u;have y:∀{v':Hp},Ext (· = b) v v'->Ext G v v':=λP=>P.sub λq z=>by rw[z];exact N
 refine aG (g.rS rfl ?_);by_cases h0:l.os=[]
 ·have e1:(QY c l).1=none:=by unfold QY;rw[h0];rfl
  have e2:(QY c l).2=if l.lim<c.batch then{l with lim:=l.lim+1}else{l with lim:=min (l.lim+c.batch) 128}:=by unfold QY;rw[h0];rfl
  rw[e1,e2]at fin;rw[e2]at a;refine cD (by simp[V,h0]) (aG (L.rS rfl (GE Q.jA hc (d:=2) O ?_)));simp only[zB (show ¬(2=0) by omega),zB (show ¬(2=1) by omega)];refine aG (g.rI rfl (cQ (λc1=>?_) λc1=>?_))
  ·have A:l.lim<c.batch:=by omega
   rw[zC A]at fin a;refine aG (g.rI rfl (cP (m:=l.lim+1) O O (aG (g.s1 (by simp[mR]) λv' J j=>?_))));exact fin v' G (y J.ext) (λq z=>.inl z) (B.st J.ext j H r a)
  ·have A:¬l.lim<c.batch:=by omega
   rw[zB A]at fin a;refine aG (g.rI rfl (cP (m:=l.lim+c.batch) O O (aG (g.s1 (by simp[mR]) λv' J j=>?_))));refine fin v' G (y J.ext) (λq z=>.inl z) (B.st J.ext ?_ H r a);have:(if(128:Int)<((l.lim+c.batch:Nat):Int)then(128:Int)else((l.lim+c.batch:Nat):Int))=((min (l.lim+c.batch) 128:Nat):Int):=by split<;>omega
   rw[this]at j;exact j
 ·have hpos:=pC.2 h0;obtain⟨x,Z⟩:∃x,l.os[l.os.length-1]?=some x:=⟨_,cV O⟩;have C:l.os.getLast?=some x:=by rw[List.getLast?_eq_getElem?];exact Z
  have e1:(QY c l).1=some x:=by unfold QY;rw[C]
  have e2:(QY c l).2 = {l with os:=l.os.dropLast,low:=min l.low (l.os.length-1)}:=by unfold QY;rw[C]
  rw[e1,e2]at fin;rw[e2]at a;refine cB (by simp only[lu];omega) ?_;refine aG (g.rS rfl (cP (m:=l.os.length-1) aC O (aG (g.rS rfl (H.nc Z (aG (g.rS rfl ?_)))))));have w:=cU.sub H (lo:=0) (hi:=l.os.length-1) (mx:=s.cap) O O O;have ed:((Wo l.os).drop (0*1)).take ((l.os.length-1-0)*1)=Wo l.os.dropLast:=by simp[Wo,yg]
  rw[ed]at w;refine iN (lo:=0) O aC aC (aG (g.s1 (by simp[mR]) λv1 S M=>aG (M.rI rfl (aG (M.s1 (by simp[mR]) λv2 W K=>?_)))));have D:=S.ext.trans W.ext;refine fin v2 G (y D) (λq z=>.inl z) (B.st D ?_ w aC a);have:(if((l.os.length-1:Nat):Int)<(l.low:Int)then((l.os.length-1:Nat):Int)else(l.low:Int))=((min l.low (l.os.length-1):Nat):Int):=by split<;>omega
  rw[this]at K;exact K
theorem O6 (h:dZ U F Y tb bud ls)(hc:tb[k]?=some c)(hl:ls[k]?=some l){R:Int->Int->Hp->Prop}
 (hR:∀σ' Y',Ext F U σ'->Y'.p=Y.p->dZ σ' (Grow F U) Y' tb bud ls->R ((GX c l:Nat):Int) 0 σ'):Ya.c (aW Y.p) (k:Int) U R:=by
 obtain⟨u,w⟩:=h.cls hc;refine Ya.o ?_;unfold Ya.v;refine Gb h w λv Y' b e j y g=>cB rfl ?_;obtain⟨G,A,m⟩:=g.fB e y hl;obtain⟨x,z,s,i,B,r⟩:=A;have a:=g.hd;rw[j]at a;refine aG (i.rI rfl (aG (a.rS rfl (GE g.jA hc (d:=2) O ?_))));simp only[zB (show ¬(2=0) by omega),zB (show ¬(2=1) by omega)];have:(if(c.batch:Int)<(l.lim:Int)then(c.batch:Int)else(l.lim:Int))=((GX c l:Nat):Int):=by unfold GX;split<;>omega
 rw[this];exact hR v Y' e j g
theorem RW (l:List Int)(i:Nat)(h:i<l.length):l.reverse[i]?=l[l.length-1-i]? := by
 rw[List.getElem?_reverse h]
theorem RR {s:Sl}{xs:List Int}(h:bR s 1 (Wo xs) U F)(hlen:xs.length<=1000000){R:aP}(hR:∀σ',Ext F U σ'->bR s 1 (Wo xs.reverse) σ' F->R σ'):WT.c s U R:=by
 refine WT.o ?_;unfold WT.v;have K:s.len=xs.length:=by have:=h.1;simp[Wo]at this;omega
 let ja (i:Nat):List Int:=(List.range xs.length).map λj=>if j<i\/xs.length-i<=j then xs.getD (xs.length-1-j) 0 else xs.getD j 0
 have kS:∀i,(ja i).length=xs.length:=λi=>by simp[ja]
 have bW:∀i j,j<xs.length->(ja i)[j]?=some (if j<i\/xs.length-i<=j then xs.getD (xs.length-1-j) 0 else xs.getD j 0):=λi j d=>by simp[ja,d]
 have P:ja 0=xs:=by
  apply zo;intro j;by_cases d:j<xs.length
  ·rw[bW 0 j d,zB O];simp[zP,cV d]
  ·rw[zV (by rw[kS];omega),zV O]
 have y:∀i,xs.length<=2*i+1->i<=xs.length->ja i=xs.reverse:=by
  intro i E H;apply zo;intro j;by_cases d:j<xs.length
  ·rw[bW i j d,RW xs j d,zP,zP,cV (show xs.length-1-j<xs.length by omega),cV d];split
   ·rfl
   ·have:xs.length-1-j=j:=by omega
    simp only[this];rfl
  ·rw[zV (by rw[kS];omega),zV aE]
 have step:∀i,2*i+1<xs.length->((ja i).set i (xs.getD (xs.length-1-i) 0)).set (xs.length-1-i) (xs.getD i 0)=ja (i+1):=by
  intro i hi;apply zo;intro j;by_cases d:j<xs.length
  ·rw[bW (i+1) j d,mO,mO];simp only[nG,kS];by_cases e1:xs.length-1-i=j
   ·subst e1;rw[zC rfl,zC O,zC O]
    congr 2;omega
   ·rw[zB e1];by_cases e2:i=j
    ·subst e2;rw[zC rfl,zC O,zC O]
    ·rw[zB e2,bW i j d];by_cases e3:j<i\/xs.length-i<=j
     ·rw[zC e3,zC O]
     ·rw[zB e3,zB O]
  ·rw[zV (by simp[kS];omega),zV (by rw[kS];omega)]
 refine tT ?_;rw[Ul O O];refine UH (a:=bN) (bb:=bN) (λ(i j:Int) v=>∃n:Nat,i=(n:Int)/\j=(xs.length:Int)-1-n/\n<=xs.length/\Ext F U v/\bR s 1 (Wo (ja n)) v F) (λi _ _=>xs.length-i.toNat) ⟨0,rfl,O,O,Ext.refl _ _,by rw[P];exact h⟩ ?_;rintro i j v ⟨n,rfl,rfl,W,ev,w⟩;refine cQ (λQ=>?_) λM=>?_
 ·have z:2*n+1<xs.length:=by omega
  have B:(xs.length:Int)-1-n=((xs.length-1-n:Nat):Int):=by omega
  rw[B];have D:=bW n (xs.length-1-n) O;have C:=bW n n O;rw[zB O]at D C;rw[zP]at D C;obtain⟨b,p⟩:∃b,s.a=some ⟨b,0,none⟩:=by
   rcases w.2 with⟨q1,q2⟩|⟨b,cs,_,A,_⟩
   ·omega
   ·exact⟨b,A⟩
  have g:∀u,bR s 1 (Wo (ja n)) u F->∀(j:Nat) (x:Int),(ja n)[j]?=some x->cell u (Addr.add ⟨b,0,none⟩ ((j:Int).toNat*1))=some (.int .i64 x):=λu r j x N=>by
   obtain⟨G,o,A,L⟩:=r.gY.cell (j:=j) (v:=.int .i64 x) (by simp[Wo,N]);rw[p]at A;cases A;rw[add_lit,show 0+(j:Int).toNat*1=0+j by omega];exact L
  rw[p];refine⟨λu=>bR s 1 (Wo (ja n)) u F,w,?_⟩;refine ix O O ⟨_,λu r=>g u r _ _ D,?_⟩;refine ix O O ⟨_,λu r=>g u r _ _ C,?_⟩;refine ix O O ?_;refine w.st (j:=n) (by simp[Wo,kS];omega) (λG e=>by rw[p]at e;cases e;rw[add_lit];simp) λV e1 E=>?_;refine ix O O ?_;refine E.st (j:=xs.length-1-n) (by simp[Wo,kS];omega) (λG e=>by rw[p]at e;cases e;rw[add_lit];simp) λS e2 H=>?_;refine cP (m:=n+1) O O (cP (m:=xs.length-1-n-1) O O ⟨⟨n+1,rfl,O,O,(ev.trans e1).trans e2,?_⟩,O⟩);rw[←step n z,zP,zP];have J:∀(l:List Int) (i:Nat) (x:Int),Wo (l.set i x)=(Wo l).set i (.int .i64 x):=λl i x=>by simp[Wo,vX]
  rw[J,J];exact H
 ·rw[y n O O]at w;exact hR v ev w
theorem PO (h:iV b l U G){sl:Sl}(hz:sl.len=0){R:aN}(hR:∀σ',Ext (· = b) U σ'->iV b l σ' G->R 0 σ'):WU.c (aW b) sl U R:=by
 refine WU.o ?_;unfold WU.v;have C:=h;obtain⟨D,i,s,z,j,E⟩:=h;have w:s.len=l.os.length:=by have:=j.1;simp[Wo]at this;omega
 have u:=i.many;refine aG (z.rS rfl (cP (m:=l.os.length) aC O (fR O (aG (z.rS rfl ?_)))));refine Xb.o ?_;unfold Xb.v;refine iN (lo:=0) aC aC aC ?_;have d:=cU.sub j (lo:=0) (hi:=s.len) (mx:=s.len) O O O;have A:((Wo l.os).drop (0*1)).take ((s.len-0)*1)=Wo l.os:=by rw[w,mG (by simp[Wo])];simp
 rw[A]at d;have key:∀(e:Sl),cU e 1 (Wo l.os) U (λq=>G q/\q≠b)->e.len<=e.cap->bU (some ⟨b,0,none⟩) λr=>dN (r.add 0) (.slice e.a e.len e.cap) U λv2=>R 0 v2:=λe y p=>by
  refine aG (z.s1 (by simp[mR]) λv2 o2 x=>hR v2 o2.ext ?_);exact C.st (l':=l) (s:=e) o2.ext x y p i
 refine⟨Wo l.os,[],by simp[Wo];omega,by simp[hz],d.rd,by cases sl.a<;>simp[Rd],by simp,?_,by simp only;omega,λB=>?_,λg=>absurd (by simp only[hz];omega) g⟩
 ·simp only[hz];have:(s.len-0+0)*8<=256*8:=lV O O;omega
 ·simp only[hz,j8];cases ha:(if s.len=0 then s.a else s.a.map (·.add (0*1)))
  ·rw[ha]at d;exact key ⟨none,s.len-0,s.len-0⟩ d (zD _)
  ·rw[ha]at d;exact key ⟨some _,s.len-0,s.len-0⟩ d (zD _)
theorem DS (h:iV b l U G){sl:Sl}{xs:List Int}{X:Rg}(hs:cU sl 1 (Wo xs) U X)(hfit:l.os.length+xs.length<=256){R:aN}
 (hR:∀σ',Ext (· = b) U σ'->iV b (eB xs l) σ' (Grow G U)->R 0 σ'):WU.c (aW b) sl U R:=by
 by_cases hx:xs=[]
 ·subst hx;have g:eB [] l=l:=by unfold eB;rw[zB (by simp only[lK]at hfit ⊢;omega)];simp
  refine PO h (by have:=hs.1;simp[Wo]at this;omega) λσ' e d=>hR σ' e ?_;rw[g];exact(iV.loc _ _).mono d λq _ a=>.inl a
 ·exact Mp h hs hx hfit λσ' e d=>hR σ' e ((iV.loc _ _).mono d λq _ a=>a.imp (λe=>by rw[e];exact h.1) id)
theorem NZ (h:dZ U F Y tb bud ls)(hc:tb[k]?=some c)(hl:ls[k]?=some l){sl:Sl}{xs:List Int}{X:Rg}(hs:cU sl 1 (Wo xs) U X)(hX:∀q,X q->¬F q)(hfit:l.os.length+xs.length<=256){R:aN}
 (hR:∀σ' Y',Ext F U σ'->Y'.p=Y.p->dZ σ' (Grow F U) Y' tb bud (ls.set k (eB xs.reverse l))->R 0 σ'):XZ.c (aW Y.p) (k:Int) sl U R:=by
 obtain⟨s,x⟩:=h.cls hc;have z:sl.len=xs.length:=by have:=hs.1;simp[Wo]at this;omega
 refine XZ.o ?_;unfold XZ.v;refine Gb h x λv Y' b e y C D=>cB rfl ?_;have j:=aH.bS hs e λq _ a=>hX q a;refine UZ j Vr O λs1 H B e1 m=>?_;refine RR m O λv2 e2 r=>?_;have d:bK v v2:=Ext.fresh e1 e2 λq a=>a;obtain⟨G,u,g⟩:=(D.bO d).fB (e.trans (bK.to d)) C hl;refine DS u r.gY aE λv3 E i=>?_;obtain⟨w,A⟩:=g v3 _ _ (E.sub λq a=>a▸u.1) (λq a=>a) i;exact hR v3 Y' w y A
theorem Z7 {α:Type}{ls:List α}{k:Nat}{l:α}(h:ls[k]?=some l):ls.set k l=ls:=by
 apply zo;intro j;by_cases hj:j=k
 ·subst hj;rw[zL (cW.1 h).1,h]
 ·rw[zk (Ne.symm hj)]
theorem OP (h:dZ U F Y tb bud ls)(hc:tb[k]?=some c)(hl:ls[k]?=some l)(x:Int){R:Sl->Int->Hp->Prop}
 (hR:∀σ' Y' s e (Q:Rg),Ext F U σ'->Y'.p=Y.p->(l.os.length+1<=256->e=0)->(∀q,Q q->U.size<=q)->bR s 1 (Wo (dJ c x l).1) σ' Q->dZ σ' (λq=>Grow F U q/\¬Q q) Y' tb bud (ls.set k (dJ c x l).2)->R s e σ'):Yz.c (aW Y.p) (k:Int) x U R:=by
 obtain⟨X,hk⟩:=h.cls hc;refine Yz.o ?_;unfold Yz.v;refine Gb h hk λv Y' b e hp hb h'=>cB rfl ?_;have hσv:=e.1;obtain⟨G,hG,hL,_,M⟩:=h'.vn hb hl;have hblt:b<v.size:=by obtain⟨_,_,s,hbk,_⟩:=hL;exact hbk.lt
 have u:=hL.1;have N:=hL.2.1;have hmany:=N.many;have r:∀(σ':Hp) (l':Li) (G':Rg),Ext G v σ'->(∀q,G' q->Grow G v q)->iV b l' σ' G'->Ext F U σ'/\dZ σ' (λq=>Grow F U q/\q<v.size/\¬G q\/G' q) Y' tb bud (ls.set k l'):=λσ' l' G' e' hg hL'=>by
  obtain⟨e1,h1⟩:=M σ' l' G' e' hg hL';exact⟨e.jt e1,h1⟩
 have hin:∀{G':Rg} {q:Nat},(∀q,G' q->Grow G v q)->(Grow F U q/\q<v.size/\¬G q\/G' q)->Grow F U q:=λhg a=>by
  rcases a with a|a
  ·exact a.1
  ·rcases hg _ a with H|H
   ·exact hG _ H
   ·exact .inr O
 refine nw (cs:=[.int .i64 x]) λv1 hz1 e1 hb1=>?_;have V:=(iV.loc _ _).bO hL e1;have ac:cU ⟨some ⟨v.size,0,none⟩,1,1⟩ 1 (Wo [x]) v1 (· = v.size):=hb1.gY (o:=0) rfl (by simp[Wo]) (λj hj=>by
  simp only[Wo,zS,qD,zY,lK]at hj ⊢;rw[zH])
 by_cases hfit:l.os.length+1<=256
 ·refine DS V ac (by simpa using hfit) λv2 e2 E=>cB rfl ?_;have B:Ext G v v2:=(bK.to e1).trans (e2.sub λq a=>a▸u);have S:∀q,Grow G v1 q->Grow G v q:=λq a=>a.imp id λL=>by omega
  obtain⟨eF2,H⟩:=r v2 _ _ B S E;have i:(eB [x] l).os=l.os++[x]/\(eB [x] l).lim=l.lim/\(eB [x] l).low=l.low:=by unfold eB;rw[zB (by simp only[zY,lK];omega)];exact⟨rfl,rfl,rfl⟩
  have w:=E;obtain⟨_,ok2,s2,g,P,C⟩:=E;have hs2l:s2.len=l.os.length+1:=by have:=P.1;simp[Wo,i.1]at this;omega
  refine aG (g.rS rfl (aG (g.rI rfl ?_)));rw[i.2.1];refine cQ (λc1=>?_) λc1=>?_
  ·have D:l.os.length+1<=l.lim:=by simp only at c1;omega
   have y:dJ c x l=([],eB [x] l):=by unfold dJ;rw[zB O,zC D]
   refine hR v2 Y' _ 0 (λ_=>False) eF2 hp (λ_=>rfl) (λq a=>a.elim) (by rw[y];exact bR.nil _ _ _ _) ?_;rw[y];exact H.mono λq _ a=>⟨hin S a,id⟩
  ·have D:¬l.os.length+1<=l.lim:=by simp only at c1;omega
   have y:dJ c x l=gg (min c.batch (l.os.length+1)) (mn c (eB [x] l)):=by unfold dJ;rw[zB O,zB D]
   have Z:=H.hd;rw[hp]at Z;refine aG (Z.rS rfl (GE H.jA hc (d:=2) O ?_));simp only[zB (show ¬(2=0) by omega),zB (show ¬(2=1) by omega)];refine Jn.intro ?_;have A:∀v3,Ext (· = b) v2 v3->iV b (mn c (eB [x] l)) v3 (Grow G v1)->bU (some ⟨b,0,none⟩) λa62=>jq (a62.add 0) v3 λab=>W3.c (aW b) (if((ab.len:Nat):Int)<(c.batch:Int)then((ab.len:Nat):Int)else(c.batch:Int)) v3 λt67 v4=>R t67 0 v4:=by
    intro v3 e3 hL3;have aa:=hL3;obtain⟨_,ok3,s3,K,hs3,hcap3⟩:=hL3;have J:(mn c (eB [x] l)).os=l.os++[x]:=by unfold mn;split<;>exact i.1
    have W:s3.len=l.os.length+1:=by have:=hs3.1;simp[Wo,J]at this;omega
    refine aG (K.rS rfl ?_);have em:(if((s3.len:Nat):Int)<(c.batch:Int)then((s3.len:Nat):Int)else(c.batch:Int))=((min c.batch (l.os.length+1):Nat):Int):=by rw[W];split<;>omega
    rw[em];refine He aa (by rw[J];simp;omega) λs z v4 e4 hz hr hL4=>?_;have e24:Ext (· = b) v2 v4:=e3.trans e4;have e04:Ext G v v4:=B.trans (e24.sub λq a=>a▸u);have hs23:=e3.1;have hs02:=B.1;obtain⟨eF4,h4⟩:=r v4 _ (λq=>q=b\/z<=q) e04 (λq a=>a.imp (λ(L:q=b)=>by rw[L];exact u) λ(L:z<=q)=>O) hL4;refine hR v4 Y' s 0 (λq=>v3.size<=q/\q<z) eF4 hp (λ_=>rfl) (λq a=>O) (by rw[y];exact hr) ?_;rw[y];refine h4.mono λq _ a=>⟨?_,λhQ=>?_⟩
    ·rcases a with a|a|a
     ·exact a.1
     ·subst a;exact hG _ u
     ·exact .inr O
    ·rcases a with a|a|a<;>omega
   refine aG (g.rI rfl ?_);rw[i.2.1];refine cQ (λc2=>?_) λc2=>?_
   ·have c2':l.lim<c.batch:=by omega
    have eu:mn c (eB [x] l) = {eB [x] l with lim:=l.lim+1}:=by unfold mn;rw[i.2.1,zC c2']
    have ad:=D6 X ok2;refine aG (g.rI rfl ?_);rw[i.2.1];have hl128:=N.lim;refine cP (m:=l.lim+1) O O (aG (g.s1 (by simp[mR]) λv3 o3 hb3=>A v3 o3.ext ?_));rw[eu]at ad ⊢;exact w.st o3.ext hb3 P C ad
   ·have eu:mn c (eB [x] l)=eB [x] l:=by unfold mn;rw[i.2.1,zB O]
    exact A v2 (Ext.refl _ _) (by rw[eu];exact w)
 ·refine Mv V ac (by simpa using hfit) aA (cD rfl ?_);have y:dJ c x l=([],l):=by unfold dJ;rw[zC O]
  refine hR v1 Y' _ 6 (λ_=>False) (e.trans (bK.to e1)) hp (λL=>absurd L hfit) (λq a=>a.elim) (by rw[y];exact bR.nil _ _ _ _) ?_;rw[y,Z7 hl];exact(h'.bO e1).mono λq _ a=>⟨a,id⟩
end Go.Ar
namespace Go.Ar
open Go Go.Vc Go.Proofs
open Go.Bu (Zb Qz Y8)
variable {U:Hp}{F:Rg}{p hs:Nat}{A:AR}{Y:Lay}{T:Nat->Hp->Rg->Prop}
theorem dG.r6 (h:dG U F Y A T){k q:Nat}{c:bZ}{ss:List cF}(h1:Y.fF[k]?=some q)(h2:A.tb[k]?=some c)(h3:A.cE[k]?=some ss) :
 ∃G:Rg,(∀b,G b->F b)/\(∃ps,fA U G q c ps ss)/\(∀j,∃H:Rg,(∀b,H b->F b)/\(∀b,H b->¬G b)/\T j U H)/\∀(σ':Hp) (ss':List cF) (ps':List (Nat×Nat)) (G' H:Rg),
  Ext G U σ'->(∀b,G' b->G b\/U.size<=b)->fA σ' G' q c ps' ss'->(∀b,(F b/\b<U.size/\¬G b\/G' b)->H b)->dG σ' H Y {A with cE:=A.cE.set k ss'} T:=by
 obtain⟨G,r,d,hd,a⟩:=h.step (.cE k);have i:k<A.cE.length:=(cW.1 h3).1;refine⟨G,r,Cv h1 h2 h3 d,λj=>hd (.cM j) (by intro e;cases e),λσ' ss' ps' G' H e g m p=>?_⟩;refine a σ' _ _ T G' H h.lay.kO h.tl OQ e g ?_ p;simp only[AC];rw[h1,h2,zL i];exact⟨ps',m⟩
theorem O7 (h:dG U F Y A T)(k m:Int){R:Sl->Int->Hp->Prop}(hR:∀s σ',Ext F U σ'->bR s 1 (ints (Yb A k m)) σ' (λb=>U.size<=b)->dG σ' (Cut F U) Y (Yu A k m) T->R s (Qp A k m) σ') :
 WB.c (aW Y.p) k m U R:=by
 refine WB.o ?_;unfold WB.v;refine Ud h k (λj=>?_) λx H w=>?_
 ·have e1:Qp A k m=1:=by unfold Qp;rw[j];rfl
  have e2:Yu A k m=A:=by unfold Yu;rw[e1];rfl
  have g:Yb A k m=[]:=by unfold Yb;rw[e1];rfl
  have:=hR ⟨none,0,0⟩ U (Ext.refl _ _) (by rw[g];exact bR.nil _ _ _ _) (by rw[e2];exact h.cut);rw[e1]at this;exact cD rfl this
 ·subst H;have j:A.ck (x:Int)=true:=by unfold AR.ck;simp;omega
  obtain⟨c,ss,q,t,r,z,i,y,_,_,J⟩:=h.at_ w;obtain⟨G,D,⟨K,B⟩,_,a⟩:=h.r6 y z i;refine cB rfl (aG (h.hd.rS rfl (h.lr y ?_)));by_cases hm:m<0
  ·have e1:Qp A x m=1:=by unfold Qp;rw[j,zC rfl,zC hm]
   have e2:Yu A x m=A:=by unfold Yu;rw[e1];rfl
   have g:Yb A x m=[]:=by unfold Yb;rw[e1];rfl
   have:=hR ⟨none,0,0⟩ U (Ext.refl _ _) (by rw[g];exact bR.nil _ _ _ _) (by rw[e2];exact h.cut);rw[e1]at this;exact Me B m hm this
  ·have e1:Qp A x m=0:=by unfold Qp;rw[j,zC rfl,zB hm]
   have C:Vh A x m=QT c m.toNat ss:=by unfold Vh;simp only[dE];rw[z,i]
   have e2:Yu A x m = {A with cE:=A.cE.set x (QT c m.toNat ss).2}:=by unfold Yu;rw[e1,zC rfl,C];rfl
   have g:Yb A x m=(QT c m.toNat ss).1:=by unfold Yb;rw[e1,zC rfl,C]
   refine PK B m O λs σ' e d u=>?_;have:=hR s σ' (e.sub D) (by rw[g];exact d) (by rw[e2];exact a σ' _ _ (Cut G U) _ e (λb E=>.inl E.1) u (E0 D));rw[e1]at this;exact this
theorem Sg {k:Nat}{f:gC->gC}:∀j,j≠Lb.cM k->AC {A with cM:=A.cM.modify k f} Y (cK {A with cM:=A.cM.modify k f} Y) j=AC A Y (cK A Y) j:=by
 intro j hj;cases j<;>first|rfl|skip
 rename_i k';have a:k≠k':=λe=>hj (by rw[e]);simp only[AC,cK];simp[sC,a]
theorem eV.jQ {k:Nat}{f:gC->gC}(h:eV A Y):eV {A with cM:=A.cM.modify k f} Y:=⟨h.c,h.t,h.cE,by simpa using h.cM,h.m6,h.pO,h.n1,h.n2,h.n3,h.st,h.room,h.ok⟩
theorem dG.sk (h:dG U F Y A (cK A Y)){k q:Nat}{c:bZ}{t:gC}(h1:Y.fU[k]?=some q)(h2:A.tb[k]?=some c)(h3:A.cM[k]?=some t) :
 ∃G:Rg,(∀b,G b->F b)/\jl U G q c.batch A.room t/\∀(σ':Hp) (f:gC->gC) (G' H:Rg),
  Ext G U σ'->(∀b,G' b->G b\/U.size<=b)->jl σ' G' q c.batch A.room (f t)->(∀b,(F b/\b<U.size/\¬G b\/G' b)->H b)->dG σ' H Y {A with cM:=A.cM.modify k f} (cK {A with cM:=A.cM.modify k f} Y):=by
 obtain⟨G,r,d,hd,a⟩:=h.step (.cM k);have g:jl U G q c.batch A.room t:=by
  simp only[AC,cK]at d;rw[h1,h2,h3]at d;exact d
 refine⟨G,r,g,λσ' f G' H e i m p=>?_⟩;refine a σ' _ _ _ G' H h.lay.jQ (λj=>cK.loc j) Sg e i ?_ p;simp only[AC,cK];rw[h1,h2,List.getElem?_modify_eq,h3];exact m
theorem HY (h:dG U F Y A (cK A Y))(k:Int){R:Sl->Int->Hp->Prop}(hR:∀s σ',Ext F U σ'->(∀b,kF s b->F b)->cU s 1 (Wo (Yq A k)) σ' (kF s)->s.len<=s.cap->dG σ' (λb=>F b/\¬kF s b) Y (Zv A k) (cK (Zv A k) Y)->R s (ZW A k) σ') :
 WA.c (aW Y.p) k U R:=by
 refine WA.o ?_;unfold WA.v;refine Ud h k (λB=>?_) λx M D=>?_
 ·have e1:ZW A k=1:=by unfold ZW;rw[B];rfl
  have e2:Zv A k=A:=by unfold Zv;rw[e1];rfl
  have y:Yq A k=[]:=by unfold Yq;rw[e1];rfl
  have:=hR ⟨none,0,0⟩ U (Ext.refl _ _) (λb d=>by obtain⟨a,g,_⟩:=d;cases g) (by rw[y];exact cU.nil _ _ _ _) (zD _) (by rw[e2];exact h.mono λb _ d=>⟨d,λ⟨a,g,_⟩=>by cases g⟩);rw[e1]at this;exact cD rfl this
 ·subst M;have B:A.ck (x:Int)=true:=by unfold AR.ck;simp;omega
  obtain⟨c,Q,q,t,r,K,P,S,z,H,N⟩:=h.at_ D;obtain⟨G,E,J,m⟩:=h.sk H K z;refine cB rfl (aG (h.hd.rS rfl (h.qZ H ?_)));by_cases d:t.bs=[]
  ·have e1:ZW A x=4:=by unfold ZW;rw[B,zC rfl];simp only[dE];rw[z];simp[d]
   have e2:Zv A x=A:=by unfold Zv;rw[e1];rfl
   have y:Yq A x=[]:=by unfold Yq;rw[e1];rfl
   have:=hR ⟨none,0,0⟩ U (Ext.refl _ _) (λb d=>by obtain⟨a,g,_⟩:=d;cases g) (by rw[y];exact cU.nil _ _ _ _) (zD _) (by rw[e2];exact h.mono λb _ d=>⟨d,λ⟨a,g,_⟩=>by cases g⟩);rw[e1]at this;exact Rm J d this
  ·have e1:ZW A x=0:=by unfold ZW;rw[B,zC rfl];simp only[dE];rw[z];simp[d]
   have e2:Zv A x = {A with cM:=A.cM.modify x gC.rem}:=by unfold Zv;rw[e1,zC rfl];rfl
   have y:Yq A x=t.bs.getLast?.getD []:=by unfold Yq;rw[e1,zC rfl];simp only[dE];rw[z]
   refine Rl J d λs σ' e w u j C=>?_;have i:∀b,(F b/\b<U.size/\¬G b\/G b/\¬kF s b)->F b/\¬kF s b:=λb d=>by
    rcases d with d|d
    ·exact⟨d.1,λL=>d.2.2 (w b L)⟩
    ·exact⟨E b d.1,d.2⟩
   have:=hR s σ' (e.sub E) (λb d=>E b (w b d)) (by rw[y];exact u) j (by rw[e2];exact m σ' _ (λb=>G b/\¬kF s b) _ e (λb d=>.inl d.1) C i);rw[e1]at this;exact this
theorem Ri (h:dG U F Y A (cK A Y))(k:Int){sl:Sl}{xs:List Int}{X:Rg}(hs:cU sl 1 (Wo xs) U X)(hi:∀x∈xs,iE x){R:Bool->Int->Hp->Prop}(hR:∀σ',Ext F U σ'->dG σ' (Grow F U) Y (QR A k xs) (cK (QR A k xs) Y)->R (KY A k xs) (U2 A k xs) σ') :
 WF.c (aW Y.p) k sl U R:=by
 refine WF.o ?_;unfold WF.v;have w:sl.len=xs.length:=by have:=hs.1;simp[Wo]at this;omega
 have no:∀e:Int,e≠0->U2 A k xs=e->R false e U:=λe he D=>by
  have e3:KY A k xs=false:=by unfold KY;rw[zM O];rfl
  have e2:QR A k xs=A:=by unfold QR;rw[e3];rfl
  have:=hR U (Ext.refl _ _) (by rw[e2];exact h.mono λb _ g=>.inl g);rw[D,e3]at this;exact this
 refine Ud h k (λZ=>cD rfl (no 1 aB (by unfold U2;rw[Z];rfl))) λx P hlt=>?_;subst P;have Z:A.ck (x:Int)=true:=by unfold AR.ck;simp;omega
 obtain⟨c,Q,q,t,r,N,K,hq,ht,hr,S⟩:=h.at_ hlt;obtain⟨G1,ps,hG1,hCe⟩:=h.cE hq N K;obtain⟨G,hG,hC,J⟩:=h.sk hr N ht;have M:U2 A x xs=if xs.length=c.batch then(if xs.all (λx=>dY c Q x==some true)then 0 else 8)else 1:=by unfold U2;rw[Z,zC rfl];simp only[dE];rw[N,K]
 refine cB rfl (aG (h.hd.rS rfl (h.wM (d:=2) N O ?_)));simp only[zB (show ¬(2=0) by omega),zB (show ¬(2=1) by omega)];rw[qn];refine cO (λg=>?_) λg=>?_
 ·have:¬xs.length=c.batch:=by rw[←w];simpa using g
  exact no 1 aB (by rw[M,zB this])
 have E:xs.length=c.batch:=by rw[←w];simpa using g
 rw[zC E]at M;have h32:c.batch<=32:=S.2.2.2.2.2.2.2;refine Z6 (a:=bN) (λ(i:Int) v=>∃j:Nat,i=(j:Int)/\j<=xs.length/\v=U/\∀y∈xs.take j,dY c Q y=some true) (λi _=>xs.length-i.toNat) ⟨0,rfl,O,rfl,by simp⟩ ?_;rintro i v ⟨j,rfl,hj,rfl,s⟩;refine cQ (λhlt2=>?_) λhge=>?_
 ·have H:j<xs.length:=by omega
  have P:xs[j]?=some xs[j]:=cV H;have W:xs.take (j+1)=xs.take j++[xs[j]]:=by rw[k6,P];rfl
  have u:=j7 H;generalize xs[j]=y at *;have L:dY c Q y≠some true->R false 8 v:=λV=>no 8 aB (by
   rw[M,zB];intro ha;rw[j5]at ha;exact V (by simpa using ha y u))
  refine hs.nc P (aG (h.hd.rS rfl (h.lr hq (G2 hCe _ (hi y u) (λb g=>?_) λg=>?_))))
  ·refine bV.intro (cB rfl ?_);cases b
   ·exact cD rfl (L (by rw[g];simp))
   ·refine cB rfl (cP (m:=j+1) O O ⟨⟨j+1,rfl,O,rfl,λz hz=>?_⟩,O⟩);rw[W]at hz;rcases zK.1 hz with D|D
    ·exact s z D
    ·simp at D;rw[D];exact g
  ·exact bV.intro (cD rfl (cD rfl (L (by rw[g];simp))))
 ·have:j=xs.length:=by omega
  subst this;rw[mK]at s;have B:U2 A x xs=0:=by
   rw[M,zC];rw[j5];intro y hy;simp[s y hy]
  have C:KY A x xs=decide (t.bs.length<A.room):=by unfold KY;rw[B];simp only[dE];rw[ht];simp
  refine aG (h.hd.rS rfl (h.qZ hr (OK hC hs O (λV=>absurd E V) (λ_ hf=>?_) λ_ hf σ' e hC'=>?_)))
  ·rw[zM O]at C;have e2:QR A x xs=A:=by unfold QR;rw[C];rfl
   have:=hR v (Ext.refl _ _) (by rw[e2];exact h.mono λb _ g=>.inl g);rw[B,C]at this;exact this
  ·rw[zJ O]at C;have e2:QR A x xs = {A with cM:=A.cM.modify x λt=>{t with bs:=t.bs++[xs]}}:=by unfold QR;rw[C,zC rfl];rfl
   have:=hR σ' (e.sub hG) (by rw[e2];exact J σ' (λt=>{t with bs:=t.bs++[xs]}) (Grow G v) _ e (λb g=>g) hC' (HN hG λb g=>g));rw[B,C]at this;exact this
theorem fA.IX {q:Nat}{c:bZ}{ps:List (Nat×Nat)}{ss:List cF}{G:Rg}(h:fA U G q c ps ss):∀s∈ss,s.st<=1024:=by
 intro s hs;obtain⟨i,a⟩:=zQ hs;have b:=(cW.1 a).1;have d:i<ps.length:=by rw[h.len];exact b
 have:=(h.sp _ _ _ (cV d) a).fit;omega
theorem LQ (h:dG U F Y A T)(k:Int){sl:Sl}{xs:List Int}(hi:∀x∈xs,iE x)(hl:xs.length<=1000000)(hcap:sl.len<=sl.cap)
 (hs:(∃X:Rg,cU sl 1 (Wo xs) U X/\∀b,b<U.size->X b->¬F b)\/∃j,∀H,T j U H->cU sl 1 (Wo xs) U H)
 {R:aN} (hR:∀σ',Ext F U σ'->dG σ' (Grow F U) Y (Zt A k xs) T->R (QJ A k xs) σ') :
 WN.c (aW Y.p) k sl U R:=by
 refine WN.o ?_;unfold WN.v;have no:∀e:Int,e≠0->QJ A k xs=e->R e U:=λe he K=>by
  have e2:Zt A k xs=A:=by unfold Zt;rw[zB O]
  have:=hR U (Ext.refl _ _) (by rw[e2];exact h.mono λb _ d=>.inl d);rw[K]at this;exact this
 refine Ud h k (λN=>cD rfl (no 1 aB (by unfold QJ;rw[N];rfl))) λx hx Z=>?_;subst hx;have N:A.ck (x:Int)=true:=by unfold AR.ck;simp;omega
 obtain⟨c,g,q,t,r,J,u,hq,_,_,hok⟩:=h.at_ Z;obtain⟨G,hG,⟨ps,M⟩,hd,C⟩:=h.r6 hq J u;have hX:∃X:Rg,cU sl 1 (Wo xs) U X/\∀b,X b->¬G b:=by
  rcases hs with⟨X,K,h2⟩|⟨j,hj⟩
  ·exact⟨Cut X U,aH.cut K,λb d hg=>h2 b d.2 d.1 (hG b hg)⟩
  ·obtain⟨H,_,D,hT⟩:=hd j;exact⟨H,hj H hT,D⟩
 obtain⟨X,S,V⟩:=hX;have E:QJ A x xs=iB c g xs:=by unfold QJ;rw[N,zC rfl];simp only[dE];rw[J,u]
 refine cB rfl (aG (h.hd.rS rfl (h.lr hq (L7 M S V hi hl hcap (λD=>?_) λh0 o σ1 e1 m W=>?_))))
 ·refine cD (by simpa using D) (no _ D E)
 ·refine cB rfl ?_;have eS:Zt A x xs=VW {A with cE:=A.cE.set x (cG (xs.foldl (fC c) g))} ((Qd (xs.foldl (fC c) g)).map λs=>(s,c.aF)):=by
   unfold Zt;rw[E,zC h0];simp only[dE];rw[J,u]
  have P:=C σ1 _ _ (Cut G U) _ e1 (λb d=>.inl d.1) W (E0 hG);rw[Po]at m;have B:((Qd (xs.foldl (fC c) g)).map λs=>(s,c.aF)).length<=1000000/\∀r∈((Qd (xs.foldl (fC c) g)).map λs=>(s,c.aF)),r.1<=1000000:=by
   have i:∀(ys:List Int) (ls:List cF),((ys.foldl (fC c) ls).map (·.st))=ls.map (·.st):=by
    intro ys
    induction ys with
    | nil=>intro ls;rfl
    | cons y ys ih=>
     intro ls;rw[qk,ih];unfold fC;split
     ·rename_i j hj;split
      ·rename_i s a;split
       ·simp only[vX];apply zo;intro z;rw[mO];by_cases w:j=z
        ·subst w;rw[zC rfl];have:=(cW.1 a).1;rw[zC (by simpa using this)];simp[a,cF.put]
        ·rw[zB w]
       ·rfl
      ·rfl
     ·rfl
   have L:∀s∈Qd (xs.foldl (fC c) g),s∈g.map (·.st):=by
    intro s a;rw[←i xs g];unfold Qd at a;simp only[zE,zI]at a ⊢;obtain⟨z,w,rfl⟩:=a;exact⟨z,w.1,rfl⟩
   have hfew:=M.pI;refine⟨?_,λr hr=>?_⟩
   ·have:(Qd (xs.foldl (fC c) g)).length<=(xs.foldl (fC c) g).length:=by
     unfold Qd;rw[zl];exact qW _ _
    have h2:(xs.foldl (fC c) g).length=g.length:=by have:=congrArg List.length (i xs g);simpa using this
    rw[zl];omega
   ·obtain⟨s,a,rfl⟩:=zE.1 hr;obtain⟨z,w,rfl⟩:=zE.1 (L s a);have:=M.IX z w;simp only;omega
  refine DV P m.gY (λb _ d hf=>by have:=hf.2;omega) B.1 B.2 λσ2 e2 Q=>?_;have:=hR σ2 ((e1.sub hG).trans (e2.sub λb d=>d.1)) ?_
  ·rw[E,h0]at this;exact this
  ·rw[eS];exact Q.mono λb _ d=>by
    rcases d with d|d
    ·exact .inl d.1
    ·exact .inr (zh e1.1 d)
theorem M8 (l:List (Nat×Nat))(x:Int):bW (iJ l) x=(l.find? λr=>(r.1:Int)==x).map λr=>(r.2:Int):=by
 induction l with
 | nil=>rfl
 | cons r l ih=>
  have:iJ (r::l)=((r.1:Int),(r.2:Int))::iJ l:=rfl;rw[this,Ka,uC,ih];by_cases h:(r.1:Int)=x
  ·simp[h]
  ·have:((r.1:Int)==x)=false:=by simpa using h
   rw[this,zB h]
theorem N6 (l:List (Nat×Nat))(x:Int):cS (iJ l) x=iJ (l.filter λq=>!((q.1:Int)==x)):=by
 unfold cS iJ;rw[vI];rfl
theorem L6 (l:List (Nat×Nat))(x m:Nat):dB (iJ l) (x:Int) (m:Int)=iJ (cA.mset2 l x m):=by
 unfold dB cA.mset2 iJ;have e:(l.map λr=>((r.1:Int),(r.2:Int))).any (λy=>y.1==(x:Int))=l.any λr=>r.1==x:=by
  rw[List.any_map]
  congr 1
  funext r
  exact lR r.1 x
 rw[e];split
 ·rw[lb,lb];apply j2;intro r _;simp only[Function.comp_def];rw[lR];split<;>rfl
 ·simp
theorem dG.rR (h:dG U F Y A T):F Y.rn/\dI U Y.rn .i64 bN (iJ A.runs)/\∀(σ':Hp) (rs:List (Nat×Nat)),Qo U σ' Y.rn->dI σ' Y.rn .i64 bN (iJ rs)->dG σ' F Y {A with runs:=rs} T:=by
 obtain⟨G,g,⟨e,j⟩,_,d⟩:=h.step .runs;refine⟨g _ e,j,λσ' rs p m=>?_⟩;exact d σ' _ _ T G _ h.lay.pR h.tl SG (p.ext.sub λb a=>by subst a;exact e) (λb a=>.inl a) ⟨e,m⟩ (xX g λb a=>a)
theorem PN (h:dG U F Y A T)(x:Int)(hf:∀r∈A.runs,r.1<=1000000){R:aN}(hR:∀σ',Ext F U σ'->dG σ' (Grow F U) Y (Qq A x) T->R (KG A x) σ') :
 WM.c (aW Y.p) x U R:=by
 refine WM.o ?_;unfold WM.v;obtain⟨K,J,g⟩:=h.rR;refine UN h (cB rfl (aG (h.hd.rM rfl ⟨_,J,?_⟩)));rw[M8];cases hr:(A.runs.find? λr=>(r.1:Int)==x)with
 | none=>
  have e1:KG A x=8:=by unfold KG pE;rw[hr];rfl
  have e2:Qq A x=A:=by unfold Qq pE;rw[hr]
  have:=hR U (Ext.refl _ _) (by rw[e2];exact h.mono λb _ a=>.inl a);rw[e1]at this;exact cD rfl this
 | some r=>
  have e1:KG A x=0:=by unfold KG pE;rw[hr];rfl
  have e2:Qq A x=VB {A with runs:=A.runs.filter λq=>!((q.1:Int)==x)} r:=by unfold Qq pE;rw[hr]
  have E:=sT hr;have D:(r.1:Int)=x:=by simpa using tv hr
  refine cB rfl (aG (h.hd.rM rfl ⟨_,J,λm y _ C=>?_⟩));have o1:=y _ rfl;have d:dI m Y.rn .i64 bN (cS (iJ A.runs) x):=C;rw[N6]at d;have u:=g m _ o1 d;simp only[zX,pH];refine nw (cs:=[.int .i64 x,.int .i64 (r.2:Int)]) λL N e w=>?_;have z:=u.cut.bO e;have s:cU ⟨some ⟨m.size,0,none⟩,1,1⟩ 2 (rV [r]) L (· = m.size):=by
   refine⟨rfl,.inr ⟨_,0,_,rfl,rfl,w.q,λj Q=>?_⟩⟩;have:rV [r]=[.int .i64 (r.1:Int),.int .i64 (r.2:Int)]:=rfl;rw[this,D,zH]
  refine DV z s (λb _ a M=>by have:=M.2;omega) aA (λq H=>by simp at H;subst H;exact hf _ E) λv3 P G=>?_;have B:Ext F U v3:=(o1.ext.sub λb a=>by subst a;exact K).trans ((bK.to e).trans (P.sub λb a=>a.1));have:=hR v3 B (by
   rw[e2];exact G.mono λb _ a=>by
    rcases a with a|a
    ·exact .inl a.1
    ·exact .inr (by have:=o1.1;omega))
  rw[e1]at this;exact this
theorem KT (rs:List (Nat×Nat)):∀A:AR,(VW A rs).tb=A.tb/\(VW A rs).room=A.room/\(VW A rs).cM=A.cM/\(VW A rs).cE=A.cE/\(VW A rs).runs=A.runs/\(VW A rs).n=A.n:=by
 induction rs with
 | nil=>intro A;exact⟨rfl,rfl,rfl,rfl,rfl,rfl⟩
 | cons r rs ih=>intro A;exact ih (VB A r)
theorem V5 (A:AR)(k:Int)(xs:List Int):(Zt A k xs).tb=A.tb/\(Zt A k xs).room=A.room/\(Zt A k xs).cM=A.cM/\(Zt A k xs).runs=A.runs/\(Zt A k xs).n=A.n:=by
 unfold Zt;split
 ·split
  ·exact⟨(KT _ _).1,(KT _ _).2.1,(KT _ _).2.2.1,(KT _ _).2.2.2.2.1,(KT _ _).2.2.2.2.2⟩
  ·exact⟨rfl,rfl,rfl,rfl,rfl⟩
 ·exact⟨rfl,rfl,rfl,rfl,rfl⟩
theorem gC.oB (t:gC):∀xs∈t.tick.bs,xs∈t.bs:=λxs h=>sH h
theorem KJ {α:Type}{l:List α}{k:Nat}{t:α}{f:α->α}(h:l[k]?=some t):l.modify k f=l.set k (f t):=by
 apply zo;intro i;rw[mO,sC];by_cases hi:k=i
 ·subst hi;have:=(cW.1 h).1;rw[zC rfl,zC this,h];simp
 ·simp[hi]
def Ca (A:AR)(Y:Lay)(k r:Nat)(c:bZ)(t:gC)(out:Sl)(sls:List Sl)(j:Nat):Hp->Rg->Prop:=
 if j=k then λU G=>jl U G r c.batch A.room t.tick/\cU out 1 (sls.map pq) U G/\qL sls t.out U G else cK A Y j
theorem Ca.loc {k r:Nat}{c:bZ}{t:gC}{out:Sl}{sls:List Sl}(j:Nat):dM (Ca A Y k r c t out sls j):=by
 unfold Ca;split
 ·exact λU i F G ⟨g,d,e⟩ b a=>⟨jl.loc _ _ _ _ g b a,cU.loc _ _ _ _ _ _ _ d b a,qL.loc _ _ _ _ _ _ e b a⟩
 ·exact cK.loc j
end Go.Ar
namespace Go.Bu
variable {n:Nat}{S:Nat->Bool}
theorem VR {m a k x:Nat}(h:Zz n S m a k=some x):∃j,j<k/\m<=2^j/\a<=2^j/\(Q5 n S j).head?=some x/\∀i,i<j->m<=2^i->a<=2^i->Q5 n S i=[]:=by
 have wk:∀k,Zz n S m a k=none->∀i,i<k->m<=2^i->a<=2^i->Q5 n S i=[]:=by
  intro k
  induction k with
  | zero=>intro _ i hi;omega
  | succ k ih=>
   intro hn i hi d b;rw[Zz]at hn;split at hn
   ·cases hn
   ·rename_i hn';by_cases e:i=k
    ·subst e;rw[zC ⟨d,b⟩]at hn;simpa using hn
    ·exact ih hn' i O d b
 induction k with
 | zero=>simp[Zz]at h
 | succ k ih=>
  rw[Zz]at h;split at h
  ·rename_i y hy;cases h;obtain⟨j,d,b⟩:=ih hy;exact⟨j,O,b⟩
  ·rename_i hn;split at h
   ·rename_i hc;exact⟨k,O,hc.1,hc.2,h,wk k hn⟩
   ·cases h
theorem UL {m a:Nat}:∀{k},Zz n S m a k=none->∀i,i<k->m<=2^i->a<=2^i->Q5 n S i=[]
 | 0,_,i,hi,_,_=>by omega
 | k+1,hn,i,hi,h1,h2=>by
  rw[Zz]at hn;split at hn
  ·cases hn
  ·rename_i hn';by_cases e:i=k
   ·subst e;rw[zC ⟨h1,h2⟩]at hn;simpa using hn
   ·exact UL hn' i O h1 h2
theorem k5 (hb:Bounded S n){m a x:Nat}(h:Y8 n S m a=some x):x+m<=n/\∀y,x<=y->y<x+m->S y=true:=by
 obtain⟨j,_,i,_,e,_⟩:=VR h;have b:x∈Q5 n S j:=List.mem_of_head? e;obtain⟨q,rfl,d⟩:=(QC hb).1 b;have:=ZE hb (Zw.1 d).1;exact⟨O,λy p g=>VG d (ZZ.2 O)⟩
end Go.Bu
namespace Go.Ar
open Go Go.Vc Go.Proofs
open Go.Bu (Zb Qz Y8)
variable {U:Hp}{F H:Rg}{p hs:Nat}{A:AR}{sp:Sp}{Y:Lay}{T:Nat->Hp->Rg->Prop}
structure W2 (U:Hp) (F H:Rg) (Y:Lay) (A:AR) (T:Nat->Hp->Rg->Prop) (sp:Sp):Prop where
 a:dG U F Y A T
 s:dL U H Y.hs sp
 d:∀b,F b->¬H b
 g:Gl U
 o:iR F
 o2:iR H
def iO (F H:Rg):Rg:=λb=>F b\/H b
theorem W2.lA (h:W2 U F H Y A T sp){σ':Hp}{A':AR}(e:Ext F U σ')(ha:dG σ' F Y A' T):W2 σ' F H Y A' T sp:=
 ⟨ha,dM.bS dL.loc h.s e λb _ a i=>h.d b i a,h.d,h.g.bS e h.o,h.o,h.o2⟩
theorem W2.space (h:W2 U F H Y A T sp){σ':Hp}{sp':Sp}(e:Ext H U σ')(hs:dL σ' H Y.hs sp'):W2 σ' F H Y A T sp':=
 ⟨dM.bS dG.loc h.a e λb _ i j=>h.d b i j,hs,h.d,h.g.bS e h.o2,h.o,h.o2⟩
theorem W2.bO (h:W2 U F H Y A T sp){σ':Hp}(e:bK U σ'):W2 σ' F H Y A T sp:=⟨h.a.bO e,h.s.bO e,h.d,h.g.bO e,h.o,h.o2⟩
theorem W2.cut (h:W2 U F H Y A T sp):W2 U (Cut F U) (Cut H U) Y A T sp:=⟨h.a.cut,dM.cut dL.loc h.s,λb e i=>h.d b e.1 i.1,h.g,h.o.sub λb e=>e.1,h.o2.sub λb e=>e.1⟩
theorem W2.oM (h:W2 U F H Y A T sp){σ':Hp}{A':AR}(e:Ext F U σ')(ha:dG σ' (Grow F U) Y A' T):W2 σ' (Grow F U) (Cut H U) Y A' T sp:=
 ⟨ha,dM.bS dL.loc (dM.cut dL.loc h.s) e λb _ a j=>h.d b j a.1,λb a i=>by
  rcases a with a|a
  ·exact h.d b a i.1
  ·have:=i.2;omega,h.g.bS e h.o,h.o.grow h.g,h.o2.sub λb a=>a.1⟩
theorem W2.DD (h:W2 U F H Y A T sp){K:Option Addr->Prop}(hK:K (some ⟨Y.hs,0,none⟩)):fT (Addr.add ⟨Y.p,0,none⟩ 1) U K:=h.a.hd.rP rfl hK
theorem Fi (st:List Nat)(a m:Nat):Uu st a (m+1)=iY (Uu st a m) ((a+m:Nat):Int):=by
 unfold Uu;rw[pU,j4,wH];rfl
theorem IZ {a m:Int}(h:eZ sp a m≠0):fS sp a m=sp:=by unfold fS;rw[zB h]
theorem Ox {size:Nat}(h1:1<=size)(h:∀j,1<=j->j*size+size<=sp.st.length->eZ sp ((j*size:Nat):Int) (size:Int)≠0):cY sp size=none:=by
 unfold cY;rw[nS];intro x hx;obtain⟨j,d,rfl⟩:=zE.1 hx;rw[zg]at d;have b:(j+1)*size<=sp.st.length:=zh (lW size d) (yi _ _);rw[zm,Nat.one_mul]at b;by_cases h0:j=0
 ·subst h0;simp
 ·have:=h j O b;have a:(eZ sp ((j*size:Nat):Int) (size:Int)==0)=false:=by simpa only[lu]using this
  rw[a,ta];simp
theorem J9 {size j:Nat}(h1:1<=size)(h0:1<=j)(hf:j*size+size<=sp.st.length)(hm:eZ sp ((j*size:Nat):Int) (size:Int)=0)(h:∀i,1<=i->i<j->eZ sp ((i*size:Nat):Int) (size:Int)≠0):cY sp size=some (j*size):=by
 unfold cY;have m:j<sp.st.length/size:=by
  rw[Nat.lt_iff_add_one_le,Nat.le_div_iff_mul_le h1,zm,Nat.one_mul];exact hf
 have a:List.range (sp.st.length/size)=List.range j++(j::(List.range (sp.st.length/size-j-1)).map (j+1 + ·)):=by
  apply zo;intro i;rw[List.getElem?_append,xk];by_cases d:i<j
  ·rw[zC d,m7 O,m7 d]
  ·rw[zB d];by_cases hij:i=j
   ·subst hij;rw[pV,xP,m7 m]
   ·rw[show i-j=(i-j-1)+1 by omega,AE,zd];by_cases hl:i<sp.st.length/size
    ·rw[m7 hl,m7 O];simp only[zX]
     congr 1;omega
    ·rw[zV (by rw[xk];omega),zV (by rw[xk];omega)];rfl
 rw[a,j4,List.find?_append];have b:((List.range j).map (· * size)).find? (λ(s:Nat)=>s != 0&&eZ sp s size==0)=none:=by
  rw[nS];intro x hx;obtain⟨i,d,rfl⟩:=zE.1 hx;rw[zg]at d;by_cases h0:i=0
  ·subst h0;simp
  ·have:=h i O d;have e:(eZ sp ((i*size:Nat):Int) (size:Int)==0)=false:=by simpa only[lu]using this
   rw[e,ta];simp
 rw[b,zS,uC];have:(j*size != 0&&eZ sp ((j*size:Nat):Int) (size:Int)==0)=true:=by
  rw[hm];have p:0<j*size:=Nat.mul_pos O O;have g:j*size≠0:=by omega
  simp[g]
 rw[this];rfl
theorem Ly (h:W2 U F H Y A T sp){size:Nat}(h1:size=16\/size=32\/size=64){R:aO}(h0:Uv A sp size=none->∀σ',Ext (iO F H) U σ'->W2 σ' F H Y A T sp->R false σ')
 (hR:∀A' sp',Uv A sp size=some (A',sp')->∀σ',Ext (iO F H) U σ'->W2 σ' F H Y A' T sp'->R true σ'):YO.c (aW Y.p) (size:Int) U R:=by
 refine YO.o ?_;unfold YO.v;have hn2:sp.st.length<=1024:=by obtain⟨q,r,l,B,hh⟩:=h.s;exact hh.n2
 have es:∀{a b:Hp},Ext H a b->Ext (iO F H) a b:=λe=>e.sub λb P=>.inr P;have ea:∀{a b:Hp},Ext F a b->Ext (iO F H) a b:=λe=>e.sub λb P=>.inl P;have d:∀j,j*size+size=(j+1)*size:=λj=>by rw[zm,Nat.one_mul]
 refine Z6 (a:=bN) (λ(t:Int) v=>∃j:Nat,t=((j*size:Nat):Int)/\1<=j/\j*size<=1024+64/\Ext (iO F H) U v/\W2 v F H Y A T sp/\∀i,1<=i->i<j->i*size+size<=sp.st.length->eZ sp ((i*size:Nat):Int) (size:Int)≠0) (λt _=>2000-t.toNat)
  ⟨1,O,zD _,O,Ext.refl _ _,h,λi h1 h2=>O⟩ ?_
 rintro t v ⟨j,rfl,hj,P,e,z,x⟩;refine cP (m:=j*size+size) O O (aG (z.DD (C9 z.s (cQ (λhlt=>?_) λhge=>?_))))
 ·have hf:j*size+size<=sp.st.length:=by omega
  refine aG (z.DD (SJ z.s z.g z.o2 _ _ λv2 e2 K=>?_));refine cO (λQ=>?_) λQ=>?_
  ·have N:eZ sp ((j*size:Nat):Int) (size:Int)≠0:=by simpa using Q
   rw[IZ N]at K;refine cP (m:=(j+1)*size) (by rw[←d];omega) (by rw[←d];omega) ⟨⟨j+1,rfl,O,by rw[←d];omega,e.trans (es e2),z.space e2 K,λi y J G=>?_⟩,by rw[←d];omega⟩;by_cases hij:i=j
   ·subst hij;exact N
   ·exact x i y O G
  ·have W:eZ sp ((j*size:Nat):Int) (size:Int)=0:=by simpa using Q
   have V:=z.space e2 K;have L:∀i,i<j->i*size+size<=sp.st.length:=λi hi=>by
    have:(i+1)*size<=j*size:=lW _ hi;rw[d];omega
   have D:=J9 (sp:=sp) O hj hf W λi y J=>x i y J (L i J);have E:Uv A sp size=some ({A with st:=Uu A.st (j*size/16) (size/16),S:=Qz A.n A.S ((j*size:Nat):Int) size},fS sp ((j*size:Nat):Int) size):=by unfold Uv;rw[D]
   have hd16:(j*size)%16=0:=by
    rcases h1 with rfl|rfl|rfl
    ·omega
    ·omega
    ·omega
   refine nz aB (cP (m:=j*size/16) (by rw[XP O];simp) O ?_);refine Z6 (a:=bN) (λ(t:Int) w=>∃i:Nat,t=((j*size/16+i:Nat):Int)/\i<=size/16/\Ext (iO F H) U w/\W2 w F H Y {A with st:=Uu A.st (j*size/16) i} T (fS sp ((j*size:Nat):Int) size)) (λt _=>200-t.toNat)
    ⟨0,O,O,e.trans (es e2),V⟩ ?_
   rintro t w ⟨i,rfl,hi,ew,u⟩;refine cP (m:=j*size+size) O O (nz aB (cP (m:=(j*size+size)/16) (by rw[XP O];simp) O (cQ (λZ=>?_) λhge2=>?_)))
   ·refine aG (u.a.hd.rP rfl (u.a.Bi _ λw2 t2 M C=>?_));refine cP (m:=j*size/16+(i+1)) O O ⟨⟨i+1,rfl,O,ew.trans (ea M),?_⟩,O⟩;rw[Fi];exact u.lA M C
   ·have X:i=size/16:=by omega
    subst X;refine aG (u.a.hd.rP rfl (u.a.wX _ _ λw2 t2 M C=>?_));exact hR _ _ E w2 (ew.trans (ea M)) (u.lA M C)
 ·have D:=Ox (sp:=sp) (size:=size) O λi y G=>by
   by_cases hij:i<j
   ·exact x i y hij G
   ·have:j*size<=i*size:=lW _ O;omega
  have E:Uv A sp size=none:=by unfold Uv;rw[D]
  exact h0 E v e z
theorem Le {m a:Nat}(h1:1<=m)(h2:m<=64)(ha:a=1\/a=2\/a=4\/a=8\/a=16):Go.Bu.fI (m:Int) (a:Int)=true:=by
 have b:Go.Bu.eU (a:Int)=true:=by rcases ha with rfl|rfl|rfl|rfl|rfl<;>decide
 unfold Go.Bu.fI;rw[b];simp only[ub,zF,zU];omega
theorem W2.take (h:W2 U F H Y A T sp){m a:Nat}(hok:Go.Bu.fI (m:Int) (a:Int)=true){R:Int->Int->Hp->Prop}(h0:Y8 A.n A.S m a=none->∀σ',Ext F U σ'->W2 σ' F H Y A T sp->R 0 6 σ')
 (h1:∀x,Y8 A.n A.S m a=some x->x+m<=A.n->∀σ',Ext F U σ'->W2 σ' F H Y {A with S:=Go.Bu.take A.S x (x+m)} T sp->R (x:Int) 0 σ'):Xy.c (aW Y.fr) (m:Int) (a:Int) U R:=by
 have b:Go.Bu.Bounded A.S A.n:=by obtain⟨r,p,i,_⟩:=h.a.free;exact i.jo
 refine h.a.u7 _ _ λσ' e j=>?_;have d:=h.lA e j;cases ht:Y8 A.n A.S m a with
 | none=>
  have e1:Go.Bu.iL A.n A.S (m:Int) (a:Int)=6:=by unfold Go.Bu.iL;rw[hok,zC rfl];simp only[dE];rw[ht]
  have e2:Go.Bu.iQ A.n A.S (m:Int) (a:Int)=0:=by unfold Go.Bu.iQ;rw[hok,zC rfl];simp only[dE];rw[ht]
  have g:Go.Bu.iM A.n A.S (m:Int) (a:Int)=A.S:=by unfold Go.Bu.iM;rw[hok,zC rfl];simp only[dE];rw[ht]
  rw[e1,e2];rw[g]at d;exact h0 ht σ' e d
 | some x=>
  have e1:Go.Bu.iL A.n A.S (m:Int) (a:Int)=0:=by unfold Go.Bu.iL;rw[hok,zC rfl];simp only[dE];rw[ht]
  have e2:Go.Bu.iQ A.n A.S (m:Int) (a:Int)=x:=by unfold Go.Bu.iQ;rw[hok,zC rfl];simp only[dE];rw[ht]
  have g:Go.Bu.iM A.n A.S (m:Int) (a:Int)=Go.Bu.take A.S x (x+m):=by unfold Go.Bu.iM;rw[hok,zC rfl];simp only[dE];rw[ht]
  rw[e1,e2];rw[g]at d;exact h1 x ht (Go.Bu.k5 b ht).1 σ' e d
theorem IE {size:Nat}{A':AR}{sp':Sp}(h:Uv A sp size=some (A',sp')):A'.n=A.n:=by
 unfold Uv at h;split at h
 ·cases h
 ·cases h;rfl
def Fits (U:Hp)(F H F' H':Rg):Prop:=(∀b,F' b->Grow F U b)/\∀b,H' b->H b
theorem EX (h:W2 U F H Y A T sp){m a no:Nat}(h1:1<=m)(h2:m<=64)(ha:a=1\/a=2\/a=4\/a=8\/a=16)(hn1:1<=no)(hn2:no<=1000){R:Int->Int->Hp->Prop}
 (h0:(cZ A sp m a no).1=none->∀σ',Ext (iO F H) U σ'->W2 σ' F H Y (cZ A sp m a no).2.1 T (cZ A sp m a no).2.2->R 0 6 σ')
 (hR:∀x,(cZ A sp m a no).1=some x->x+m<=A.n->∀σ' F' H',Fits U F H F' H'->Ext (iO F H) U σ'->W2 σ' F' H' Y (cZ A sp m a no).2.1 T (cZ A sp m a no).2.2->R (x:Int) 0 σ') :
 Yw.c (aW Y.p) (m:Int) (a:Int) (no:Int) U R:=by
 refine Yw.o ?_;unfold Yw.v;have G:=Le h1 h2 ha;have es:∀{a b:Hp},Ext H a b->Ext (iO F H) a b:=λe=>e.sub λb j=>.inr j;have u:∀{a b:Hp},Ext F a b->Ext (iO F H) a b:=λe=>e.sub λb j=>.inl j;have fin:∀(v:Hp) (x:Nat) (A1:AR) (sp1:Sp),Ext (iO F H) U v->x+m<=A.n->W2 v F H Y {A1 with S:=Go.Bu.take A1.S x (x+m)} T sp1->cZ A sp m a no=(some x,dP A1 x m no,sp1) →
  bU (some ⟨Y.p,0,none⟩) λN=>fT (N.add 3) v λW=>Xu.c W (x:Int) (m:Int) v λt55 r=>bU (some ⟨Y.p,0,none⟩) λZ=>fT (Z.add 4) r λP=>XU.c P (x:Int) (m:Int) (no:Int) r λt63 v3=>R (x:Int) 0 v3:=by
  intro v x A1 sp1 e hxm C y;have L:x<=1000000:=by have:=h.a.lay.n2;omega
  refine aG (C.a.hd.rP rfl (C.a.Jj _ _ λr t2 e2 X=>?_));have g:=C.lA e2 X;refine aG (g.a.hd.rP rfl (g.a.Set x m L hn1 hn2 λv3 t3 e3 Q=>?_));have M:=g.oM e3 Q;refine hR x (by rw[y]) hxm v3 (Grow F r) (Cut H r) ⟨λb j=>?_,λb j=>j.1⟩ ((e.trans (u e2)).trans (u e3)) (by rw[y];exact M);rcases j with j|j
  ·exact .inl j
  ·exact .inr (zh (e.trans (u e2)).1 j)
 refine aG (h.a.hd.rP rfl (h.take G (λE v e C=>?_) λx E D v e C=>?_))
 ·refine Jn.intro (cD rfl ?_);have V:(if(a:Int)>(m:Int)then(a:Int)else(m:Int))=((max m a:Nat):Int):=by
   by_cases hgt:(a:Int)>(m:Int)
   ·rw[zC hgt];omega
   ·rw[zB hgt];omega
  rw[V];refine Z6 (a:=bN) (λ(t:Int) w=>w=v/\(t=16\/t=32/\16<max m a\/t=64/\32<max m a)) (λt _=>100-t.toNat) ⟨rfl,.inl rfl⟩ ?_;rintro(t:Int) w ⟨rfl,hcase⟩;have ab:a<=16:=by omega
  refine cQ (λhlt=>?_) λhge=>?_
  ·have:t=16\/t=32:=by omega
   rcases this with rfl|rfl
   ·exact ar O O ⟨⟨rfl,O⟩,by decide⟩
   ·exact ar O O ⟨⟨rfl,O⟩,by decide⟩
  ·have K:t=((QP (max m a):Nat):Int):=by
    unfold QP;by_cases c1:max m a<=16
    ·rw[zC c1];omega
    ·rw[zB c1];by_cases c2:max m a<=32
     ·rw[zC c2];omega
     ·rw[zB c2];omega
   subst K;have aa:QP (max m a)=16\/QP (max m a)=32\/QP (max m a)=64:=by omega
   refine Ly C aa (λy σ' J s=>?_) λA' B y σ' J s=>?_
   ·have d:cZ A sp m a no=(none,A,sp):=by unfold cZ;rw[E];simp only;rw[y]
    exact cD rfl (h0 (by rw[d]) σ' ((u e).trans J) (by rw[d];exact s))
   ·refine cB rfl (aG (s.a.hd.rP rfl (s.take G (λz r e2 g=>?_) λx z D r e2 g=>?_)))
    ·have d:cZ A sp m a no=(none,A',B):=by unfold cZ;rw[E];simp only;rw[y];simp only;rw[z]
     exact cD rfl (h0 (by rw[d]) r (((u e).trans J).trans (u e2)) (by rw[d];exact g))
    ·have d:cZ A sp m a no=(some x,dP A' x m no,B):=by unfold cZ;rw[E];simp only;rw[y];simp only;rw[z]
     exact cB rfl (fin r x A' B (((u e).trans J).trans (u e2)) (by rw[←IE y];exact D) g d)
 ·have d:cZ A sp m a no=(some x,dP A x m no,sp):=by unfold cZ;rw[E]
  refine Jn.intro (cB rfl (cB rfl (fin v x A sp (u e) D C d)))
theorem Fits.refl:Fits U F H F H:=⟨λb a=>.inl a,λb a=>a⟩
theorem W2.mono {F' H':Rg}(h:W2 U F H Y A T sp)(hF:iR F')(hF2:∀b,b<U.size->F b->F' b)(hH:∀b,H' b->H b)(hH2:∀b,b<U.size->H b->H' b)(hd:∀b,F' b->¬H' b):W2 U F' H' Y A T sp:=
 ⟨h.a.mono hF2,dM.mono dL.loc h.s hH2,hd,h.g,hF,h.o2.sub hH⟩
theorem PW (h:W2 U F H Y A T sp)(k:Int){R:aN}(hR:∀σ' F' H',Fits U F H F' H'->Ext (iO F H) U σ'->W2 σ' F' H' Y (cL A sp k).1 T (cL A sp k).2->R (KA A sp k) σ') :
 XQ.c (aW Y.p) k U R:=by
 refine XQ.o ?_;unfold XQ.v;refine Ud h.a k (λE=>?_) λx hx S=>?_
 ·have e1:KA A sp k=1:=by unfold KA;rw[E];rfl
  have e2:cL A sp k=(A,sp):=by unfold cL;rw[E];rfl
  have:=hR U F H Fits.refl (Ext.refl _ _) (by rw[e2];exact h);rw[e1]at this;exact cD rfl this
 ·subst hx;have E:A.ck (x:Int)=true:=by unfold AR.ck;simp;omega
  obtain⟨c,L,q,t,r,J,B,Z,_,_,N⟩:=h.a.at_ S;have ht2:=h.a.lay.pO;obtain⟨_,_,_,Q,hp4,_⟩:=N;refine cB rfl (aG (h.a.hd.rS rfl (h.a.wM (d:=1) J O ?_)));simp only[zB (show ¬(1=0) by omega),zR];refine cP (m:=x+1) O O ?_;have X:KA A sp x=match (cZ A sp c.aF 1 (x+1)).1 with
   | some y=>HZ c L y
   | none=>6:=by unfold KA;rw[E,zC rfl];simp only[dE];rw[J,B];rfl
  have eS:cL A sp x=match cZ A sp c.aF 1 (x+1)with
   | (some y,A',u)=>(if HZ c L y=0 then{A' with cE:=A'.cE.set x (ie c L y)}else A',u)
   | (none,A',u)=>(A',u):=by unfold cL;rw[E,zC rfl];simp only[dE];rw[J,B];rfl
  refine EX (a:=1) h Q O (.inl rfl) O O (λC σ' e w=>?_) λy C hyn σ' F' H' i e w=>?_
  ·have:=hR σ' F H Fits.refl e;rw[X,eS,C]at this;generalize cZ A sp c.aF 1 (x+1)=g at *;obtain⟨g1,g2,g3⟩:=g;simp only at C;subst C;exact cD rfl (this w)
  ·have z:(cZ A sp c.aF 1 (x+1)).2.1.tb=A.tb/\(cZ A sp c.aF 1 (x+1)).2.1.cE=A.cE:=by
    unfold cZ;split
    ·exact⟨rfl,rfl⟩
    ·split
     ·exact⟨rfl,rfl⟩
     ·rename_i A1 sp1 hga;have:A1.tb=A.tb/\A1.cE=A.cE:=by
       unfold Uv at hga;split at hga
       ·cases hga
       ·cases hga;exact⟨rfl,rfl⟩
      split
      ·exact this
      ·exact this
   have s:=λσ' F' H'=>hR σ' F' H';rw[X,eS]at s;generalize cZ A sp c.aF 1 (x+1)=g at *;obtain⟨g1,A',u⟩:=g;simp only at C w z s;subst C;simp only at s;have hWc:=w;obtain⟨G,V,⟨ps,hC⟩,_,D⟩:=w.a.r6 Z (by rw[z.1];exact J) (by rw[z.2];exact B);have hn2:=h.a.lay.n2;refine cB rfl (aG (w.a.hd.rS rfl (w.a.lr Z (Jf hC O (λh9 v e2=>?_) λW v ps' e2 K=>?_))))
   ·have:=s v F' H' i (e.jL e2) (by rw[h9];exact w.bO e2);rw[h9]at this;exact this
   ·have P:=D v _ _ (Grow G σ') _ e2 (λb j=>j) K (HN V λb j=>j);have M:=w.oM (e2.sub V) P;have:=s v (Grow F' σ') (Cut H' σ') ⟨λb j=>?_,λb j=>i.2 b j.1⟩ (e.dT (e2.sub V) λb j=>?_) (by rw[W];exact M)
    ·rw[W]at this;exact this
    ·rcases j with j|j
     ·exact i.1 b j
     ·exact .inr (zh e.1 j)
    ·rcases i.1 b j with h1|h1
     ·exact .inl (.inl h1)
     ·exact .inr h1
theorem HB (A:AR)(sp:Sp)(m a no:Nat):(cZ A sp m a no).2.1.tb=A.tb/\(cZ A sp m a no).2.1.cE=A.cE/\(cZ A sp m a no).2.1.cM=A.cM/\(cZ A sp m a no).2.1.room=A.room/\(cZ A sp m a no).2.1.runs=A.runs/\(cZ A sp m a no).2.1.n=A.n:=by
 unfold cZ;split
 ·exact⟨rfl,rfl,rfl,rfl,rfl,rfl⟩
 ·split
  ·exact⟨rfl,rfl,rfl,rfl,rfl,rfl⟩
  ·rename_i A1 sp1 hga;have:A1.tb=A.tb/\A1.cE=A.cE/\A1.cM=A.cM/\A1.room=A.room/\A1.runs=A.runs/\A1.n=A.n:=by
    unfold Uv at hga;split at hga
    ·cases hga
    ·cases hga;exact⟨rfl,rfl,rfl,rfl,rfl,rfl⟩
   split
   ·exact this
   ·exact this
theorem SO:∀a:Nat,a<17->1<=a->((bits .and .i64 (a:Int) ((a:Int)-1) != 0) = !(a==1||(a==2||(a==4||(a==8||a==16))))):=by decide
theorem IW (h:W2 U F H Y A T sp)(m a:Int){R:Int->Int->Hp->Prop}(hR:∀σ' F' H',Fits U F H F' H'->Ext (iO F H) U σ'->W2 σ' F' H' Y (cA A sp m a).1 T (cA A sp m a).2->R ((ZU A sp m a:Nat):Int) (Qi A sp m a) σ') :
 WK.c (aW Y.p) m a U R:=by
 refine WK.o ?_;unfold WK.v;have M:Q4 m a=false->R 0 1 U:=λu=>by
  have e1:Qi A sp m a=1:=by unfold Qi;rw[u];rfl
  have e2:cA A sp m a=(A,sp):=by unfold cA;rw[u];rfl
  have e3:ZU A sp m a=0:=by unfold ZU;rw[u];rfl
  have:=hR U F H Fits.refl (Ext.refl _ _) (by rw[e2];exact h);rw[e1,e3]at this;exact this
 have d:¬(1<=m/\m<=64/\(a=1\/a=2\/a=4\/a=8\/a=16))->R 0 1 U:=λhn=>M (by
  rw[←pS];intro hp;unfold Q4 at hp;simp at hp;omega)
 refine UN h.a (cB rfl (bV.intro (cQ (λc1=>bV.intro (cD rfl (bV.intro (cD rfl (bV.intro (cD rfl (cD rfl (d O)))))))) λc1=>?_)));refine bV.intro (cQ (λc2=>bV.intro (cD rfl (bV.intro (cD rfl (cD rfl (d O)))))) λc2=>?_);refine bV.intro (cQ (λZ=>bV.intro (cD rfl (cD rfl (d O)))) λZ=>?_);refine bV.intro (cQ (λW=>cD rfl (d O)) λW=>ar O O ?_);obtain⟨y,rfl⟩:=za (show 0<=m by omega);obtain⟨z,rfl⟩:=za (show 0<=a by omega);rw[SO z O O];refine cO (λJ=>?_) λJ=>?_
 ·refine d (λhh=>?_);simp at J;omega
 ·have hz:z=1\/z=2\/z=4\/z=8\/z=16:=by
   simp at J;omega
  have u:Q4 (y:Int) (z:Int)=true:=by
   unfold Q4;simp;omega
  have P:Qi A sp y z=if(cZ A sp y z 41).1.isSome then 0 else 6:=by unfold Qi;rw[u,zC rfl];rfl
  have N:ZU A sp y z=(cZ A sp y z 41).1.getD 0:=by unfold ZU;rw[u,zC rfl];rfl
  have S:cA A sp y z=match cZ A sp y z 41 with
   | (some x,A',r)=>({A' with runs:=cA.mset2 A'.runs x y},r)
   | (none,A',r)=>(A',r):=by unfold cA;rw[u,zC rfl];rfl
  refine EX (no:=41) h O O hz O O (λw σ' e B=>?_) λx w X σ' F' H' s e B=>?_
  ·have:=hR σ' F H Fits.refl e;rw[P,S,N,w]at this;generalize cZ A sp y z 41=g at *;obtain⟨g1,g2,g3⟩:=g;simp only at w;subst w;exact cD rfl (this B)
  ·have j:=λσ' F' H'=>hR σ' F' H';rw[P,S,N]at j;generalize cZ A sp y z 41=g at *;obtain⟨g1,A',r⟩:=g;simp only at w B j;subst w;simp only at j;obtain⟨V,hm,C⟩:=B.a.rR;refine cB rfl (aG (B.a.hd.rM rfl ⟨_,_,rfl,hm,λv Q L=>?_⟩));have D:dI v Y.rn .i64 bN (dB (iJ A'.runs) (x:Int) (y:Int)):=L;rw[L6]at D;have K:=C v _ Q D;have e2:Ext F' σ' v:=Q.ext.sub λb G=>by subst G;exact V
   have E:=B.lA e2 K;exact j v F' H' s (e.dT e2 λb G=>by
    rcases s.1 b G with h1|h1
    ·exact .inl (.inl h1)
    ·exact .inr h1) E
end Go.Ar
namespace Go.Proofs
open Go.Vc
set_option maxRecDepth 100000
end Go.Proofs
namespace Go.Ar
open Go Go.Vc Go.Proofs
variable {U:Hp}{Q:Rg}{key:Nat->Nat}
end Go.Ar
namespace Go.Ar
open Go Go.Vc Go.Proofs
variable {U:Hp}{F:Rg}{p q:Nat}{st:List Nat}
end Go.Ar
namespace Go.Ar
open Go Go.Vc Go.Proofs
open Go.Bu (Zb Qz Y8)
variable {U:Hp}{F H:Rg}{p hs:Nat}{A:AR}{sp:Sp}{Y:Lay}{T:Nat->Hp->Rg->Prop}
theorem dG.cM (h:dG U F Y A (cK A Y)){k q:Nat}{c:bZ}{t:gC}(h1:Y.fU[k]?=some q)(h2:A.tb[k]?=some c)(h3:A.cM[k]?=some t):∃G:Rg,(∀b,G b->F b)/\jl U G q c.batch A.room t:=by
 obtain⟨G,a,d,_⟩:=h.sk h1 h2 h3;exact⟨G,a,d⟩
def part {α:Type}(f:bZ->α->Nat)(tb:List bZ)(l:List α)(i:Nat):Nat:=(((tb.zip l).take i).map λx=>f x.1 x.2).sum
end Go.Ar
namespace Go.Ar
open Go Go.Vc Go.Proofs
variable {U:Hp}
theorem CG:∀(xs:List (Int×Int×Int)),uh xs=true↔∀(i:Nat) a b,xs[i]?=some a->xs[i+1]?=some b->a.1<b.1
 | []=>by simp[uh]
 | [x]=>by simp[uh]
 | x::y::l=>by
  have ih:=CG (y::l);show(decide (x.1<y.1)&&uh (y::l))=true↔_;rw[zF,ih,zU];constructor
  ·rintro⟨h1,h2⟩ i a b d e;cases i with
   | zero=>simp at d e;subst d;subst e;exact h1
   | succ i=>exact h2 i a b (by simpa using d) (by simpa using e)
  ·intro h;exact⟨h 0 x y rfl rfl,λi a b d e=>h (i+1) a b (by simpa using d) (by simpa using e)⟩
theorem Qb (xs:List (Int×Int×Int)):Qe xs=true↔1<=xs.length/\xs.length<=40/\(∀(i:Nat) t,xs[i]?=some t->VZ t.1 t.2.1 t.2.2=true)/\∀(i:Nat) a b,xs[i]?=some a->xs[i+1]?=some b->a.1<b.1:=by
 unfold Qe;simp only[zF,zU,CG,j5];constructor
 ·rintro⟨h1,h2,h3,h4⟩;exact⟨h1,h2,λi t d=>h3 t (zG d),h4⟩
 ·rintro⟨h1,h2,h3,h4⟩;exact⟨h1,h2,λt d=>by obtain⟨i,e⟩:=zQ d;exact h3 i t e,h4⟩
theorem Ga {s:Sl}{xs:List (Int×Int×Int)}(ha:ic U s xs){R:aO}(hR:∀σ',bK U σ'->R (Qe xs) σ'):Zu.c s U R:=by
 refine Zu.o ?_;unfold Zu.v;have P:∀σ',bK U σ'->¬(1<=xs.length/\xs.length<=40/\(∀(i:Nat) t,xs[i]?=some t->VZ t.1 t.2.1 t.2.2=true)/\∀(i:Nat) a b,xs[i]?=some a->xs[i+1]?=some b->a.1<b.1)->R false σ':=λσ' e hn=>by
  have:=hR σ' e;have hf:Qe xs=false:=by rw[←pS,Qb];exact hn
  rw[hf]at this;exact this
 have W:=ha.1;refine bV.intro (cQ (λc1=>cD rfl (P U (Ext.refl _ _) λh=>O)) λc1=>?_);refine cQ (λc2=>P U (Ext.refl _ _) λh=>O) λc2=>?_;refine Z6 (a:=bN) (λ(t:Int) v=>∃i:Nat,t=(i:Int)/\i<=xs.length/\bK U v/\(∀(j:Nat) t,j<i->xs[j]?=some t->VZ t.1 t.2.1 t.2.2=true)/\∀(j:Nat) a b,j+1<i->xs[j]?=some a->xs[j+1]?=some b->a.1<b.1) (λt _=>xs.length-t.toNat)
  ⟨0,rfl,O,Ext.refl _ _,λj t h=>O,λj a b h=>O⟩ ?_
 rintro t v ⟨i,rfl,M,e,Y,Z⟩;have V:=ZP ha e;refine cQ (λhlt=>?_) λhge=>?_
 ·have L:i<xs.length:=by omega
  have A:xs[i]?=some xs[i]:=cV L;generalize xs[i]=r at A;obtain⟨x,y,z⟩:=r;refine xD V A ?_;refine nw (cs:=[.int .i64 0,.int .i64 0,.int .i64 0]) λv2 hz2 e2 b2=>b2.s1 aA λv3 o3 b3=>b3.s1 aA λv4 o4 b4=>b4.s1 aA λv5 o5 H=>?_;have e5:bK v v5:=Ext.fresh (Ext.fresh (Ext.fresh e2 o3.ext λi M=>O) o4.ext λi M=>O) o5.ext λi M=>by omega
  refine Jn.intro ⟨(· = v5),rfl,⟨x,λm G=>by rw[G,add_lit,H.cell];rfl,⟨y,λm G=>by rw[G,add_lit,H.cell];rfl,⟨z,λm G=>by rw[G,add_lit,H.cell];rfl,?_⟩⟩⟩⟩;refine FP x y z λv7 e7=>?_;have w:=(Ext.trans e e5).trans e7;have D:(VZ x y z=false\/∃a,0<i/\xs[i-1]?=some a/\x<=a.1)->R false v7:=λN=>P v7 w λJ=>by
   rcases N with N|⟨a,K,hb1,hb2⟩
   ·have:=J.2.2.1 i _ A;simp only at this;rw[N]at this;cases this
   ·have:=J.2.2.2 (i-1) a (x,y,z) hb1 (by rw[show i-1+1=i by omega];exact A);simp only at this;omega
  cases hc:VZ x y z
  ·exact cD rfl (cD rfl (D (.inl hc)))
  ·have next:(∀a,0<i->xs[i-1]?=some a->a.1<x)->Ar .i64 ((i:Int)+1) λg=>(∃i:Nat,g=(i:Int)/\i<=xs.length/\bK U v7/\(∀(j:Nat) t,j<i->xs[j]?=some t->VZ t.1 t.2.1 t.2.2=true)/\∀(j:Nat) a b,j+1<i->xs[j]?=some a->xs[j+1]?=some b->a.1<b.1)/\xs.length-g.toNat<xs.length-(i:Int).toNat:=by
    intro K;refine cP (m:=i+1) O O ⟨⟨i+1,rfl,O,w,λj t hj B=>?_,λj a b hj p d=>?_⟩,O⟩
    ·by_cases hji:j=i
     ·subst hji;rw[A]at B;cases B;exact hc
     ·exact Y j t O B
    ·by_cases hji:j+1=i
     ·subst hji;rw[A]at d;cases d;exact K a O p
     ·exact Z j a b O p d
   refine cB rfl (cQ (λK=>?_) λK=>cB rfl (next λa kG=>O))
   have u:xs[i-1]?=some (xs[i-1]' O):=cV _;generalize xs[i-1]' O=r at u;obtain⟨S,y',z'⟩:=r;have F:=ZP ha w;obtain⟨b,o,g1,g2,g3,g4,g5⟩:=F.2 (i-1) S y' z' u;have X:=e7.bT H id;refine cP (m:=i-1) O O ?_;rw[g1];refine ix O O ?_;have C:cell v7 ⟨b,o+(((i-1:Nat):Int)).toNat*3+0,none⟩=some (.int .i64 S):=by simpa using g3
   have fin:If (decide (x<=S)) (R false v7) (Ar .i64 ((i:Int)+1) λg=>(∃i:Nat,g=(i:Int)/\i<=xs.length/\bK U v7/\(∀(j:Nat) t,j<i->xs[j]?=some t->VZ t.1 t.2.1 t.2.2=true)/\∀(j:Nat) a b,j+1<i->xs[j]?=some a->xs[j+1]?=some b->a.1<b.1)/\xs.length-g.toNat<xs.length-(i:Int).toNat):=by
    refine cQ (λQ=>D (.inr ⟨_,O,u,Q⟩)) λhgt=>next λa _ E=>?_
    rw[u]at E;cases E;simp only;omega
   rw[add_lit b o];exact⟨X.rI rfl (gG C fin),gG C (X.rI rfl fin)⟩
 ·have:i=xs.length:=by omega
  subst this;have J:Qe xs=true:=(Qb xs).2 ⟨O,O,λi t B=>Y i t (cW.1 B).1 B,λi a b p d=>Z i a b (cW.1 d).1 p d⟩;have:=hR v e;rw[J]at this;exact this
end Go.Ar
namespace Go.Ar
open Go Go.Vc Go.Proofs
open Go.Bu (Zb Qz Y8)
variable {U:Hp}{F H:Rg}{p hs:Nat}{A:AR}{sp:Sp}{Y:Lay}{T:Nat->Hp->Rg->Prop}
open Classical in
theorem _root_.Go.Vc.Sep.put {L:Type}{C C':L->Hp->Rg->Prop}{U:Hp}{F G:Rg}(hC:∀i,dM (C i))(h:Sep C U F)(i:L)(hd:∀b,G b->¬F b)(hj:∀j,j≠i->C' j=C j)(hi:C' i U G)(hL:dM (C' i)):Sep C' U λb=>F b\/G b:=by
 obtain⟨ρ,h⟩:=h;refine⟨λb=>if G b then i else ρ b,λj=>?_⟩
 by_cases hji:j=i
 ·subst hji;exact hL.mono hi λb _ d=>⟨.inr d,zC d⟩
 ·rw[hj j hji];refine(hC j).mono (h j) λb _ a=>⟨.inl a.1,?_⟩;show(if G b then i else ρ b)=j
  rw[zB λe=>hd b e a.1];exact a.2
def fW (A:AR)(Y:Lay)(T:Nat->Hp->Rg->Prop)(cs:List Value):Lb->Hp->Rg->Prop
 | .hd=>iu Y.p cs
 | i=>AC A Y T i
theorem fW.loc {cs:List Value}(hT:∀k,dM (T k)):∀i,dM (fW A Y T cs i)
 | .hd=>iu.loc _ _
 | .dD=>AC.loc (A:=A) (Y:=Y) hT .dD
 | .free=>AC.loc (A:=A) (Y:=Y) hT .free
 | .nL=>AC.loc (A:=A) (Y:=Y) hT .nL
 | .own=>AC.loc (A:=A) (Y:=Y) hT .own
 | .dR=>AC.loc (A:=A) (Y:=Y) hT .dR
 | .cN=>AC.loc (A:=A) (Y:=Y) hT .cN
 | .runs=>AC.loc (A:=A) (Y:=Y) hT .runs
 | .cE k=>AC.loc (A:=A) (Y:=Y) hT (.cE k)
 | .cM k=>AC.loc (A:=A) (Y:=Y) hT (.cM k)
theorem NX:fW A Y T (kH Y)=AC A Y T:=by
 funext i;cases i<;>rfl
theorem Cp {cs:List Value}(hT:∀k,dM (T k))(h:Sep (fW A Y T cs) U F)(hlen:A.cE.length<=Y.fF.length)(hl:Y.fF.length<=40){vb cp ty:Nat}(hb:bX U vb [.pointer (some ⟨cp,0,none⟩)])(hvb:¬F vb){K:Sl->Hp->Prop}
 (hK:∀s' σ',Ext F U σ'->Sep (fW A {Y with dR:=s',fF:=Y.fF++[cp]} T cs) σ' (Grow F U)->K s' σ'):App Y.dR 1 8 ty [.pointer none] ⟨some ⟨vb,0,none⟩,1,1⟩ U K:=by
 obtain⟨G,g,d,_,a⟩:=h.jK (fW.loc hT) .dR;have d:bR Y.dR 1 (fK Y.fF) U G:=d;have m:Y.dR.len=Y.fF.length:=by have:=d.1;simp[fK]at this;omega
 refine d.app (ys:=[.pointer (some ⟨cp,0,none⟩)]) rfl rfl ?_ (by simp[dQ]) aC aC mT λs' σ' i e p=>hK s' σ' (e.sub g) ?_
 ·intro j u hu;rw[add_lit,zH,hb.cell];exact hu
 refine(Sep.loc (fW.loc hT)).mono (a σ' (fW A {Y with dR:=s',fF:=Y.fF++[cp]} T cs) (Grow G U) (λj r=>?_) e (λb hb=>hb) ?_ (fW.loc hT _)) λb _ hb=>HN g (λb hb=>hb) b hb
 ·cases j<;>first|rfl|exact absurd rfl r|skip
  rename_i k;show jP (Y.fF++[cp])[k]? A.tb[k]? A.cE[k]?=jP Y.fF[k]? A.tb[k]? A.cE[k]?;rcases ke k Y.fF.length with h1|h1
  ·rw[ze h1]
  ·have:A.cE[k]?=none:=zV O;rw[this]
   funext U F
   unfold jP;cases(Y.fF++[cp])[k]?<;>cases Y.fF[k]?<;>cases A.tb[k]?<;>rfl
 ·show bR s' 1 (fK (Y.fF++[cp])) σ' (Grow G U);have:fK (Y.fF++[cp])=fK Y.fF++[.pointer (some ⟨cp,0,none⟩)]:=by simp[fK]
  rw[this];exact p
theorem Ru (hlen:A.cM.length<=Y.fU.length)(tp:Nat)(s':Sl):cK A {Y with cN:=s',fU:=Y.fU++[tp]}=cK A Y:=by
 funext k
 unfold cK;simp only;rcases ke k Y.fU.length with h1|h1
 ·rw[ze h1]
 ·have:A.cM[k]?=none:=zV O;rw[this]
  funext U F
  unfold kL;cases(Y.fU++[tp])[k]?<;>cases Y.fU[k]?<;>cases A.tb[k]?<;>rfl
theorem Ex {cs:List Value}(h:Sep (fW A Y (cK A Y) cs) U F)(hlen:A.cM.length<=Y.fU.length)(hl:Y.fU.length<=40){vb tp ty:Nat}(hb:bX U vb [.pointer (some ⟨tp,0,none⟩)])(hvb:¬F vb){K:Sl->Hp->Prop}
 (hK:∀s' σ',Ext F U σ'->Sep (fW A {Y with cN:=s',fU:=Y.fU++[tp]} (cK A {Y with cN:=s',fU:=Y.fU++[tp]}) cs) σ' (Grow F U)->K s' σ'):App Y.cN 1 8 ty [.pointer none] ⟨some ⟨vb,0,none⟩,1,1⟩ U K:=by
 have g:∀k,dM (cK A Y k):=λk=>cK.loc k;obtain⟨G,i,d,_,a⟩:=h.jK (fW.loc g) .cN;have d:bR Y.cN 1 (fK Y.fU) U G:=d;have m:Y.cN.len=Y.fU.length:=by have:=d.1;simp[fK]at this;omega
 refine d.app (ys:=[.pointer (some ⟨tp,0,none⟩)]) rfl rfl ?_ (by simp[dQ]) aC aC mT λs' σ' s e p=>hK s' σ' (e.sub i) ?_
 ·intro j u hu;rw[add_lit,zH,hb.cell];exact hu
 rw[Ru hlen];refine(Sep.loc (fW.loc g)).mono (a σ' (fW A {Y with cN:=s',fU:=Y.fU++[tp]} (cK A Y) cs) (Grow G U) (λj r=>?_) e (λb hb=>hb) ?_ (fW.loc g _)) λb _ hb=>HN i (λb hb=>hb) b hb
 ·cases j<;>first|rfl|exact absurd rfl r
 ·show bR s' 1 (fK (Y.fU++[tp])) σ' (Grow G U);have:fK (Y.fU++[tp])=fK Y.fU++[.pointer (some ⟨tp,0,none⟩)]:=by simp[fK]
  rw[this];exact p
theorem FU {cs:List Value}(hT:∀k,dM (T k))(h:Sep (fW A Y T cs) U F){i:Nat}{v:Value}(hi:i<cs.length){K:aP}(hK:∀σ',Ext F U σ'->Sep (fW A Y T (cs.set i v)) σ' F->K σ'):dN (Addr.add ⟨Y.p,0,none⟩ i) v U K:=by
 obtain⟨G,g,d,_,e⟩:=h.jK (fW.loc hT) .hd;have d:iu Y.p cs U G:=d;refine d.2.s1 O λσ' o b=>hK σ' (o.ext.sub λb a=>by subst a;exact g _ d.1) ?_;rw[zH]at b;refine(Sep.loc (fW.loc hT)).mono (e σ' (fW A Y T (cs.set i v)) G (λj m=>?_) (o.ext.sub λb a=>by subst a;exact d.1) (λb a=>.inl a) ⟨d.1,b⟩ (fW.loc hT _)) λb _ a=>xX g (λb a=>a) b a;cases j<;>first|rfl|exact absurd rfl m
theorem mB {cs:List Value}(h:Sep (fW A Y T cs) U F):bX U Y.p cs/\F Y.p:=by
 obtain⟨G,a,d,b⟩:=h.get .hd;exact⟨b,a _ d⟩
theorem Md {cs:List Value}{i cp tp:Nat}{c:bZ}{ss:List cF}{t:gC}{ps:List (Nat×Nat)}{Gc Gt:Rg}(h:Sep (fW A Y (cK A Y) cs) U F)(hlc:A.cE.length=i)(hlt:A.cM.length=i)(hcp:Y.fF[i]?=some cp)(htp:Y.fU[i]?=some tp)(hc:A.tb[i]?=some c)
 (hC:fA U Gc cp c ps ss) (hTf:jl U Gt tp c.batch A.room t) (d1:∀b,Gc b->¬F b) (d2:∀b,Gt b->¬F b) (d3:∀b,Gc b->¬Gt b) :
 Sep (fW {A with cE:=A.cE++[ss],cM:=A.cM++[t]} Y (cK {A with cE:=A.cE++[ss],cM:=A.cM++[t]} Y) cs) U λb=>(F b\/Gc b)\/Gt b:=by
 have g:∀k,dM (cK A Y k):=λk=>cK.loc k;have u:Sep (fW {A with cE:=A.cE++[ss]} Y (cK A Y) cs) U λb=>F b\/Gc b:=by
  refine h.put (fW.loc g) (.cE i) d1 (λj p=>?_) ?_ (fW.loc g _)
  ·cases j<;>first|rfl|skip
   rename_i k;have r:k≠i:=λe=>p (by rw[e]);show jP Y.fF[k]? A.tb[k]? (A.cE++[ss])[k]?=jP Y.fF[k]? A.tb[k]? A.cE[k]?;rcases ke k i with h2|h2
   ·rw[ze O]
   ·have m:(A.cE++[ss])[k]?=none:=zV (by rw[zO,AG];omega);have d:A.cE[k]?=none:=zV O;rw[m,d]
  ·show jP Y.fF[i]? A.tb[i]? (A.cE++[ss])[i]? U Gc;rw[hcp,hc,zp O,hlc,pV];exact⟨ps,hC⟩
 refine u.put (fW.loc g) (.cM i) (λb s a=>?_) (λj p=>?_) ?_ (fW.loc (λk=>cK.loc k) _)
 ·rcases a with a|a
  ·exact d2 b s a
  ·exact d3 b a s
 ·cases j<;>first|rfl|skip
  rename_i k;have r:k≠i:=λe=>p (by rw[e]);show kL Y.fU[k]? A.tb[k]? A.room (A.cM++[t])[k]?=kL Y.fU[k]? A.tb[k]? A.room A.cM[k]?;rcases ke k i with h2|h2
  ·rw[ze O]
  ·have m:(A.cM++[t])[k]?=none:=zV (by rw[zO,AG];omega);have d:A.cM[k]?=none:=zV O;rw[m,d]
 ·show kL Y.fU[i]? A.tb[i]? A.room (A.cM++[t])[i]? U Gt;rw[htp,hc,zp O,hlt,pV];exact hTf
open Classical in
noncomputable def jk {L:Type}(C:L->Hp->Rg->Prop)(S:L->Prop)(i:L):Hp->Rg->Prop:=if S i then C i else xp
theorem jk.loc {L:Type}{C:L->Hp->Rg->Prop}{S:L->Prop}(hC:∀i,dM (C i))(i:L):dM (jk C S i):=by
 unfold jk;split
 ·exact hC i
 ·exact xp.loc
theorem jk.put {L:Type}{C:L->Hp->Rg->Prop}{S:L->Prop}{F G:Rg}(hC:∀i,dM (C i))(h:Sep (jk C S) U F)(i:L)(hd:∀b,G b->¬F b)(hi:C i U G):Sep (jk C λj=>S j\/j=i) U λb=>F b\/G b:=by
 refine h.put (jk.loc hC) i hd (λj a=>?_) ?_ (jk.loc hC i)
 ·unfold jk;by_cases hS:S j
  ·rw[zC (.inl hS),zC hS]
  ·rw[zB (λh=>hS (h.resolve_right a)),zB hS]
 ·unfold jk;rw[zC (.inr rfl)];exact hi
theorem jk.all {L:Type}{C:L->Hp->Rg->Prop}{S:L->Prop}{F:Rg}(h:Sep (jk C S) U F)(hS:∀i,S i):Sep C U F:=by
 have:jk C S=C:=by
  funext i;unfold jk;rw[zC (hS i)]
 rw[this]at h;exact h
theorem jk.one {L:Type}{C:L->Hp->Rg->Prop}(S:L->Prop)(l:L)(h:∀i,S i->C i U λ_=>False):Sep (jk C S) U λ_=>False:=by
 refine⟨λ_=>l,λi=>?_⟩;have:(λ(b:Nat)=>False/\l=i)=λ_=>False:=by funext b;simp
 rw[this];unfold jk;by_cases hS:S i
 ·rw[zC hS];exact h i hS
 ·rw[zB hS];trivial
theorem MB {tb:List bZ}:∀v∈fY tb,dQ v=true:=by
 intro v hv;simp only[fY,List.mem_flatMap]at hv;obtain⟨c,_,a⟩:=hv;simp at a;rcases a with rfl|rfl|rfl<;>rfl
theorem U5 {s:Sl}{xs:List (Int×Int×Int)}(ha:ic U s xs)(hv:Qe xs=true){i:Nat}{c:bZ}(hc:(xs.map Z0)[i]?=some c):xs[i]?=some ((c.size:Int),(c.aF:Int),(c.batch:Int))/\c.ok:=by
 rw[zd,oy]at hc;obtain⟨⟨x,y,z⟩,d,rfl⟩:=hc;obtain⟨c,a,j,b,g,e⟩:=Gh (((Qb xs).1 hv).2.2.1 i _ d);simp only at b g e;rw[j,d,b,g,e];exact⟨rfl,a⟩
theorem VF {s:Sl}{xs:List (Int×Int×Int)}(ha:ic U s xs)(hv:Qe xs=true){R:Sl->Hp->Prop}(hR:∀s' σ',bK U σ'->cU s' 3 (fY (xs.map Z0)) σ' (λb=>U.size<=b)->R s' σ'):Wi.c s U R:=by
 refine Wi.o ?_;unfold Wi.v;have G:=(Qb xs).1 hv;have z:=ha.1;have r:0<(xs.map Z0).length:=by rw[zl];omega
 have A:(xs.map Z0)[0]?=some (xs.map Z0)[0]:=cV r;obtain⟨L,d,a,_⟩:=ha.2 0 _ _ _ (U5 ha hv A).1;refine cB (by rw[a];rfl) (nw (cs:=[]) λv D e1 E=>?_);have x:=ZP ha e1;refine(bR.nil v (λb=>U.size<=b) 3 (some ⟨U.size,0,none⟩)).app (ys:=fY (xs.map Z0)) rfl (by rw[VE,zl];omega) ?_ MB aC aC O λs' J H F g=>hR s' J (Ext.fresh e1 F λi w=>w) ?_
 ·rw[a];intro j u hu;have m:=(cW.1 hu).1;rw[VE,zl]at m;have w:j/3<(xs.map Z0).length:=by rw[zl];omega
  have p:(xs.map Z0)[j/3]?=some (xs.map Z0)[j/3]:=cV w;generalize (xs.map Z0)[j/3]=c at p;have e:=Gk p;obtain⟨b,o,y,_,C,B,K⟩:=x.2 (j/3) _ _ _ (U5 ha hv p).1;rw[a]at y;cases y;rw[add_lit];rcases(by omega:j=3*(j/3)\/j=3*(j/3)+1\/j=3*(j/3)+2)with hj|hj|hj
  ·rw[hj]at hu;rw[e.1]at hu;cases hu;rw[show d+j=d+j/3*3 by omega];exact C
  ·rw[hj]at hu;rw[e.2.1]at hu;cases hu;rw[show d+j=d+j/3*3+1 by omega];exact B
  ·rw[hj]at hu;rw[e.2.2]at hu;cases hu;rw[show d+j=d+j/3*3+2 by omega];exact K
 ·rw[tn]at g;refine aH.mono g.gY λb _ e=>?_;rcases e with h|h
  ·exact h
  ·omega
def fo (n room:Nat)(tb:List bZ):AR:={n:=n,room:=room,tb:=tb,S:=Go.Bu.iq,st:=List.replicate n 0,ow:=λ_=>0,cE:=List.replicate tb.length [],cM:=List.replicate tb.length ⟨0,[]⟩,runs:=[]}
def jg (n room:Nat)(tb:List bZ)(i:Nat):AR:={fo n room tb with cE:=List.replicate i [],cM:=List.replicate i ⟨0,[]⟩}
def kX (xs:List (Int×Int×Int))(n:Nat)(room:Int):Int:=if Qe xs then(if 32<=n/\n%16=0/\0<=room/\room<=8 then 0 else 1)else 2
def S0:Lb->Prop
 | .dR | .cN | .cE _ | .cM _=>True
 | _=>False
theorem FM {i cp tp:Nat}{c:bZ}{ss:List cF}{t:gC}{ps:List (Nat×Nat)}{Gc Gt:Rg}{dR cN:Sl}(hpos:Y.fF.length=i/\Y.fU.length=i)
 (h:Sep (fW A {Y with dR:=dR,cN:=cN,fF:=Y.fF++[cp],fU:=Y.fU++[tp]} (cK A {Y with dR:=dR,cN:=cN,fF:=Y.fF++[cp],fU:=Y.fU++[tp]}) (kH Y)) U F)
 (hlc:A.cE.length=i) (hlt:A.cM.length=i) (hc:A.tb[i]?=some c) (hC:fA U Gc cp c ps ss) (hTf:jl U Gt tp c.batch A.room t) (d1:∀b,Gc b->¬F b) (d2:∀b,Gt b->¬F b) (d3:∀b,Gc b->¬Gt b) {K:aP}
 (hK:∀σ' Y',Ext F U σ'->Y'.p=Y.p->Y'.hs=Y.hs->Y'.fF.length=i+1->Y'.fU.length=i+1->Sep (fW {A with cE:=A.cE++[ss],cM:=A.cM++[t]} Y' (cK {A with cE:=A.cE++[ss],cM:=A.cM++[t]} Y') (kH Y')) σ' (λb=>(F b\/Gc b)\/Gt b)->K σ') :
 bU (some ⟨Y.p,0,none⟩) λa93=>dN (a93.add 5) (.slice dR.a dR.len dR.cap) U λv25=>bU (some ⟨Y.p,0,none⟩) λa95=>dN (a95.add 6) (.slice cN.a cN.len cN.cap) v25 K:=by
 have m:∀k,dM (cK A {Y with dR:=dR,cN:=cN,fF:=Y.fF++[cp],fU:=Y.fU++[tp]} k):=λk=>cK.loc k;refine aG (FU (Y:={Y with dR:=dR,cN:=cN,fF:=Y.fF++[cp],fU:=Y.fU++[tp]}) m h (i:=5) (by simp[kH]) λx e1 w=>aG (FU (Y:={Y with dR:=dR,cN:=cN,fF:=Y.fF++[cp],fU:=Y.fU++[tp]}) m w (i:=6) (by simp[kH]) λs e2 r=>?_));have g:=(fA.loc (c:=c) (ps:=ps) (ss:=ss) (p:=cp)).bS ((fA.loc (c:=c) (ps:=ps) (ss:=ss) (p:=cp)).bS hC e1 λb _ d e=>d1 b d e) e2 λb _ d e=>d1 b d e;have j:=(jl.loc (p:=tp) (batch:=c.batch) (room:=A.room) (t:=t)).bS ((jl.loc (p:=tp) (batch:=c.batch) (room:=A.room) (t:=t)).bS hTf e1 λb _ d e=>d2 b d e) e2 λb _ d e=>d2 b d e;have u:=Md (cp:=cp) (tp:=tp) r hlc hlt (by simp only;rw[zp O,hpos.1,pV];rfl) (by simp only;rw[zp O,hpos.2,pV];rfl) hc g j d1 d2 d3;exact hK s {Y with dR:=dR,cN:=cN,fF:=Y.fF++[cp],fU:=Y.fU++[tp]} (e1.trans e2) rfl rfl (by simp[hpos.1]) (by simp[hpos.2]) u
theorem qg {cs:List Value}{σ':Hp}(hT:∀k,dM (T k))(h:Sep (fW A Y T cs) U F)(e:bK U σ'):Sep (fW A Y T cs) σ' F:=(Sep.loc (fW.loc hT)).bO h e
theorem Fy {cs:List Value}(hT:∀k,dM (T k))(h:Sep (fW A Y T cs) U F):Sep (fW A Y T cs) U (Cut F U):=(Sep.loc (fW.loc hT)).cut h
theorem Ml (n room:Nat)(tb:List bZ)(i:Nat):({jg n room tb i with cE:=(jg n room tb i).cE++[[]],cM:=(jg n room tb i).cM++[⟨0,[]⟩]}:AR)=jg n room tb (i+1):=by
 unfold jg;simp only[←yG]
theorem IB (n room:Nat)(tb:List bZ):jg n room tb tb.length=fo n room tb:=rfl
theorem RB {i cp tp:Nat}{c:bZ}{ss:List cF}{t:gC}{ps:List (Nat×Nat)}{Gc Gt:Rg}{z:Nat}(hF:∀b,F b->z<=b/\b<U.size)(hpos:Y.fF.length=i/\Y.fU.length=i)(hi:i<40)
 (h:Sep (fW A Y (cK A Y) (kH Y)) U F) (hlc:A.cE.length=i) (hlt:A.cM.length=i) (hc:A.tb[i]?=some c) (hC:fA U Gc cp c ps ss) (hTf:jl U Gt tp c.batch A.room t) (d1:∀b,Gc b->¬F b/\z<=b/\b<U.size) (d2:∀b,Gt b->¬F b/\z<=b/\b<U.size) (d3:∀b,Gc b->¬Gt b) {J4:aP}
 (hK:∀σ' Y',Ext F U σ'->Y'.p=Y.p->Y'.hs=Y.hs->Y'.fF.length=i+1->Y'.fU.length=i+1->Sep (fW {A with cE:=A.cE++[ss],cM:=A.cM++[t]} Y' (cK {A with cE:=A.cE++[ss],cM:=A.cM++[t]} Y') (kH Y')) σ' (λb=>z<=b)->J4 σ') :
 eI U λS=>bU (some ⟨Y.p,0,none⟩) λa80=>gE S .s (a80.add 5) λ(t82:Sl)=>bU (some ⟨Y.p,0,none⟩) λa87=>gE S .s (a87.add 6) λ(t89:Sl)=>
  (Nw (.cells #[.pointer (some ⟨cp,0,none⟩)] 182 (0,0)) U λn84 v21=>And (S v21) <|
   (App t82 1 8 182 [.pointer none] ⟨some n84,1,1⟩ v21 λt85 v22=>And (S v22)<|Nw (.cells #[.pointer (some ⟨tp,0,none⟩)] 184 (0,0)) v22 λn91 v23=>And (S v23)<|App t89 1 8 184 [.pointer none] ⟨some n91,1,1⟩ v23 λt92 v24=>And (S v24) <|
   bU (some ⟨Y.p,0,none⟩) λa93=>dN (a93.add 5) (.slice t85.a t85.len t85.cap) v24 λv25=>bU (some ⟨Y.p,0,none⟩) λa95=>dN (a95.add 6) (.slice t92.a t92.len t92.cap) v25 λv26=>J4 v26) ∧
   (Nw (.cells #[.pointer (some ⟨tp,0,none⟩)] 184 (0,0)) v21 λn911 v27=>And (S v27)<|App t82 1 8 182 [.pointer none] ⟨some n84,1,1⟩ v27 λt851 v28=>And (S v28)<|App t89 1 8 184 [.pointer none] ⟨some n911,1,1⟩ v28 λt921 v29=>And (S v29) <|
   bU (some ⟨Y.p,0,none⟩) λa931=>dN (a931.add 5) (.slice t851.a t851.len t851.cap) v29 λv30=>bU (some ⟨Y.p,0,none⟩) λa951=>dN (a951.add 6) (.slice t921.a t921.len t921.cap) v30 λv31=>J4 v31)) ∧
  (Nw (.cells #[.pointer (some ⟨tp,0,none⟩)] 184 (0,0)) U λn912 v32=>And (S v32)<|Nw (.cells #[.pointer (some ⟨cp,0,none⟩)] 182 (0,0)) v32 λn841 v33=>And (S v33) <|
  App t82 1 8 182 [.pointer none] ⟨some n841,1,1⟩ v33 λt852 v34=>And (S v34)<|App t89 1 8 184 [.pointer none] ⟨some n912,1,1⟩ v34 λt922 v35=>And (S v35) <|
  bU (some ⟨Y.p,0,none⟩) λa932=>dN (a932.add 5) (.slice t852.a t852.len t852.cap) v35 λv36=>bU (some ⟨Y.p,0,none⟩) λa952=>dN (a952.add 6) (.slice t922.a t922.len t922.cap) v36 λv37=>J4 v37):=by
 have J:∀k,dM (cK A Y k):=λk=>cK.loc k;have ab:=fA.loc (c:=c) (ps:=ps) (ss:=ss) (p:=cp);have N:=jl.loc (p:=tp) (batch:=c.batch) (room:=A.room) (t:=t);refine⟨λm=>bX m Y.p (kH Y),(mB h).1,aG ⟨Y.dR,λm hm=>by rw[add_lit,hm.cell];rfl,aG ⟨Y.cN,λm hm=>by rw[add_lit,hm.cell];rfl,?_⟩⟩⟩;have D:∀(w:Hp) (F1:Rg) (b1 b2:Nat),bK U w->(∀b,F1 b->F b)->Sep (fW A Y (cK A Y) (kH Y)) w F1->bX w b1 [.pointer (some ⟨cp,0,none⟩)]->bX w b2 [.pointer (some ⟨tp,0,none⟩)]->U.size<=b1->U.size<=b2 →
  App Y.dR 1 8 182 [.pointer none] ⟨some ⟨b1,0,none⟩,1,1⟩ w λt85 v28=>And (bX v28 Y.p (kH Y))<|App Y.cN 1 8 184 [.pointer none] ⟨some ⟨b2,0,none⟩,1,1⟩ v28 λt92 v29=>And (bX v29 Y.p (kH Y)) <|
   bU (some ⟨Y.p,0,none⟩) λa93=>dN (a93.add 5) (.slice t85.a t85.len t85.cap) v29 λv30=>bU (some ⟨Y.p,0,none⟩) λa95=>dN (a95.add 6) (.slice t92.a t92.len t92.cap) v30 λv31=>J4 v31:=by
  intro w F1 b1 b2 ew hF1 hw hb1 hb2 hz1 hz2;have x:∀b,F1 b->z<=b/\b<U.size:=λb d=>hF b (hF1 b d);have hsw:=ew.1;refine Cp J hw O O hb1 (λg=>by have:=x _ g;omega) λs1 v28 E af=>?_;have M:=(mB af).1;have Z:Sep (fW A {Y with dR:=s1,fF:=Y.fF++[cp]} (cK A {Y with dR:=s1,fF:=Y.fF++[cp]}) (kH Y)) v28 (Grow F1 w):=af;refine⟨M,?_⟩;have c28:Sep (fW A {Y with dR:=s1,fF:=Y.fF++[cp]} (cK A {Y with dR:=s1,fF:=Y.fF++[cp]}) (kH Y)) v28 (λb=>F1 b\/w.size<=b):=Z;have Q:=E.bT hb2 λg=>by have:=x _ g;omega
  have hb2lt:=hb2.lt;refine Ex c28 aC aC Q (λg=>by
   rcases g with g|g
   ·have:=x _ g;omega
   ·omega) λs2 v29 e29 V=>?_
  refine⟨(mB V).1,?_⟩;have H:∀b,(F1 b\/w.size<=b)->F b\/U.size<=b:=λb d=>by
   rcases d with d|d
   ·exact .inl (hF1 b d)
   ·exact .inr O
  have j:Ext F U v29:=((bK.to ew).trans (E.sub hF1)).dT e29 H;have ac:=ab.bS hC j λb _ d g=>(d1 b d).1 g;have aa:=N.bS hTf j λb _ d g=>(d2 b d).1 g;have hs28:=E.1;refine FM (F:=Grow (λb=>F1 b\/w.size<=b) v28) hpos V hlc hlt hc ac aa (λb d g=>?_) (λb d g=>?_) d3 λw2 Y' e2 p1 p2 p3 p4 h2=>?_
  ·have:=d1 b d;rcases g with(g|g)|g
   ·exact this.1 (hF1 b g)
   ·omega
   ·omega
  ·have:=d2 b d;rcases g with(g|g)|g
   ·exact this.1 (hF1 b g)
   ·omega
   ·omega
  ·refine hK w2 Y' (j.dT e2 λb d=>?_) p1 p2 p3 p4 ((Sep.loc (fW.loc (λk=>cK.loc k))).mono h2 λb _ d=>?_)
   ·rcases d with(d|d)|d
    ·exact .inl (hF1 b d)
    ·exact .inr O
    ·exact .inr O
   ·have aj:z<=U.size:=by have:=(d1 _ hC.fp);omega
    rcases d with(((d|d)|d)|d)|d
    ·exact(x b d).1
    ·omega
    ·omega
    ·exact(d1 b d).2.1
    ·exact(d2 b d).2.1
 have S0:∀{w:Hp},bK U w->bX w Y.p (kH Y):=λe=>e.bT (mB h).1 id;refine⟨nw (cs:=[.pointer (some ⟨cp,0,none⟩)]) λv21 z21 u ad=>⟨S0 u,?_,?_⟩,nw (cs:=[.pointer (some ⟨tp,0,none⟩)]) λv32 z32 C b32=>⟨S0 C,nw (cs:=[.pointer (some ⟨cp,0,none⟩)]) λv33 z33 B b33=>⟨S0 (Ext.trans C B),?_⟩⟩⟩
 ·-- row,box,row
  have h21:=qg J h u;refine Cp J h21 O O ad (λg=>by have:=hF _ g;omega) λs1 v22 R P=>⟨(mB P).1,?_⟩;have W:Sep (fW A {Y with dR:=s1,fF:=Y.fF++[cp]} (cK A {Y with dR:=s1,fF:=Y.fF++[cp]}) (kH Y)) v22 (Grow F v21):=P;have ah:=Fy (λk=>cK.loc k) W;refine nw (cs:=[.pointer (some ⟨tp,0,none⟩)]) λv23 z23 G b23=>?_;have ae:=qg (λk=>cK.loc k) ah G;refine⟨(mB ae).1,Ex ae aC aC b23 (λg=>by have:=g.2;omega) λs2 v24 ag X=>⟨(mB X).1,?_⟩⟩;have hs22:=R.1;have hs23:=G.1;have r:∀b,Cut (Grow F v21) v22 b->F b\/U.size<=b:=λb d=>by
   rcases d.1 with h|h
   ·exact .inl h
   ·exact .inr O
  have j:Ext F U v24:=((((bK.to u).trans R).jL G)).dT ag r;have L:=ab.bS hC j λb _ d g=>(d1 b d).1 g;have K:=N.bS hTf j λb _ d g=>(d2 b d).1 g;refine FM (F:=Grow (Cut (Grow F v21) v22) v23) hpos X hlc hlt hc L K (λb d g=>?_) (λb d g=>?_) d3 λw2 Y' e2 p1 p2 p3 p4 h2=>?_
  ·have:=d1 b d;rcases g with g|g
   ·rcases g.1 with g|g
    ·exact this.1 g
    ·omega
   ·omega
  ·have:=d2 b d;rcases g with g|g
   ·rcases g.1 with g|g
    ·exact this.1 g
    ·omega
   ·omega
  ·refine hK w2 Y' (j.dT e2 λb d=>?_) p1 p2 p3 p4 ((Sep.loc (fW.loc (λk=>cK.loc k))).mono h2 λb _ d=>?_)
   ·rcases d with d|d
    ·exact r b d
    ·exact .inr O
   ·have aj:z<=U.size:=by have:=(d1 _ hC.fp);omega
    rcases d with((d|d)|d)|d
    ·rcases r b d with h|h
     ·exact(hF b h).1
     ·omega
    ·omega
    ·exact(d1 b d).2.1
    ·exact(d2 b d).2.1
 ·-- box,row,row
  refine nw (cs:=[.pointer (some ⟨tp,0,none⟩)]) λv27 z27 y ai=>⟨S0 (Ext.trans u y),?_⟩;exact D v27 F U.size v21.size (Ext.trans u y) (λb d=>d) (qg J (qg J h u) y) (y.bT ad id) ai (zD _) O
 ·exact D v33 F v32.size U.size (Ext.trans C B) (λb d=>d) (qg J (qg J h C) B) b33 (B.bT b32 id) O (zD _)
theorem xl {P:Hp->Rg->Prop}(hl:dM P){a:Nat}(h:P U λb=>a<=b):P U λb=>a<=b/\b<U.size:=hl.mono h λb d e=>⟨e,d⟩
theorem Rz {n room:Nat}{tb:List bZ}(h1:32<=n)(h2:n<=1024)(h3:n%16=0)(h4:room<=8)(h5:1<=tb.length)(h6:tb.length<=40)(h7:∀c∈tb,c.ok)(hc:Y.fF.length=tb.length)(ht:Y.fU.length=tb.length):eV (fo n room tb) Y:=
 ⟨hc,ht,by simp[fo],by simp[fo],h5,h6,h1,h2,h3,by simp[fo],h4,h7⟩
theorem I5 {s:Sl}{xs:List (Int×Int×Int)}(ha:ic U s xs)(hS:dL U H hs sp)(room:Int){R:Option Addr->Int->Hp->Prop}
 (h0:kX xs sp.st.length room≠0->∀σ',bK U σ'->R none (kX xs sp.st.length room) σ')
 (h1:kX xs sp.st.length room=0->∀σ' Y,bK U σ'->Y.hs=hs->dG σ' (λb=>U.size<=b) Y (fo sp.st.length room.toNat (xs.map Z0)) (cK (fo sp.st.length room.toNat (xs.map Z0)) Y)->R (some ⟨Y.p,0,none⟩) 0 σ') :
 QN.c s (some ⟨hs,0,none⟩) room U R:=by
 refine QN.o ?_;unfold QN.v;have hn2:sp.st.length<=1024:=by obtain⟨q,r,l,B,h⟩:=hS;exact h.n2
 refine Ga ha λv e=>?_;cases hv:Qe xs
 ·have e1:kX xs sp.st.length room=2:=by unfold kX;rw[hv];rfl
  have:=h0 (by rw[e1];decide) v e;rw[e1]at this;exact cD rfl this
 have eE:kX xs sp.st.length room=if 32<=sp.st.length/\sp.st.length%16=0/\0<=room/\room<=8 then 0 else 1:=by unfold kX;rw[hv,zC rfl]
 refine cB rfl (C9 (hS.bO e) ?_);have C:¬(32<=sp.st.length/\sp.st.length%16=0/\0<=room/\room<=8)->R none 1 v:=λhn=>by
  rw[zB hn]at eE;have:=h0 (by rw[eE];decide) v e;rw[eE]at this;exact this
 have tm:(((sp.st.length:Nat):Int).tmod 16)=((sp.st.length%16:Nat):Int):=by rw[Qg O];simp
 refine bV.intro (cQ (λc1=>bV.intro (cD rfl (bV.intro (cD rfl (cD rfl (C O)))))) λc1=>nz aB ?_);rw[tm,R7];refine bV.intro (cO (λc2=>bV.intro (cD rfl (cD rfl (C (λh=>by have:=h.2.1;simp[this]at c2))))) λc2=>?_);have c2':sp.st.length%16=0:=by simpa using c2
 refine bV.intro (cQ (λc3=>cD rfl (C O)) λc3=>cQ (λc4=>C O) λc4=>?_);obtain⟨X,rfl⟩:=za (show 0<=room by omega);rw[zC O]at eE;have h1:=h1 eE;simp only[dE]at h1;have hva:=(Qb xs).1 hv;have P:=ZP ha e;have hn1:32<=sp.st.length:=by omega
 generalize sp.st.length=n at *;have hlen:s.len=(xs.map Z0).length:=by rw[zl];exact ha.1
 have ad:∀{σ':Hp} {i:Nat} {c:bZ},ic σ' s xs->(xs.map Z0)[i]?=some c->xs[i]?=some ((c.size:Int),(c.aF:Int),(c.batch:Int))/\c.ok:=λh K=>U5 h hv K;have J:1<=(xs.map Z0).length/\(xs.map Z0).length<=40:=by rw[zl];omega
 refine VF P hv λdD v5 e5 htab=>Sy λV op e6 hop hP=>r7 λA z7 e7 hm=>?_;generalize htbd:xs.map Z0=tb at *;refine nw (cs:=[.slice dD.a dD.len dD.cap,.pointer (some ⟨hs,0,none⟩),.pointer none,.pointer none,.pointer (some ⟨op,0,none⟩),.slice none 0 0,.slice none 0 0,.map (some V.size)]) λv8 z8 e8 b8=>?_;refine Go.Bu.sE _ (λg=>absurd ⟨O,O⟩ g) λn' hn' _ _ v9 sb ms Z hB hfp=>?_;have hnn:n=n':=by omega
 subst hnn;have b9:=Z.bT b8 id;refine aG (b9.s1 aA λv10 gH b10=>Lr O O c2' λM tp tq L htp htq hTk=>aG ((L.bT b10 id).s1 aA λv12 S b12=>?_));have s5:=e5.1;have s6:=e6.1;have s9:=Z.1;have s10:=gH.1;have s11:=L.1;have s12:=S.1;have hb8:=b8.lt;have x9:Ext (· = A.size) v9 v12:=(gH.ext.trans (bK.to L)).trans S.ext;have x5:Ext (· = A.size) v5 v12:=(bK.to (Ext.trans (Ext.trans (Ext.trans e6 e7) e8) Z)).trans x9;have x6:Ext (· = A.size) V v12:=(bK.to (Ext.trans (Ext.trans e7 e8) Z)).trans x9;have x7:Ext (· = A.size) A v12:=(bK.to (Ext.trans e8 Z)).trans x9;have x11:Ext (· = A.size) M v12:=S.ext;have p1:=aH.bS (xl aH htab) x5 λb _ g d=>by omega
 have p2:=(iZ.loc (p:=op) (ow:=λ_=>0)).bS (xl iZ.loc hP) x6 λb _ g d=>by omega
 have p3:dI v12 V.size .i64 bN []:=x7.fO (hm _ _) O;have p5:sd v8.size n Go.Bu.iq v12 (λb=>v8.size<=b/\b<v9.size):=(sd.loc _ _ _).bS (xl (sd.loc _ _ _) ⟨sb,ms,hB,hfp⟩) x9 λb _ g d=>by omega
 have p6:l4 tp (List.replicate n 0) v12 (λb=>v10.size<=b/\b<M.size):=(l4.loc _ _).bS (xl (l4.loc _ _) ⟨tq,hTk,htp,htq⟩) x11 λb _ g d=>by omega
 let Y0:Lay:={p:=A.size,hs:=hs,fr:=v8.size,tr:=tp,op:=op,rn:=V.size,dD:=dD,dR:=⟨none,0,0⟩,cN:=⟨none,0,0⟩,fF:=[],fU:=[]}
 have af:bX v12 A.size (kH Y0):=b12
 let Cf:=fW (jg n X tb 0) Y0 (cK (jg n X tb 0) Y0) (kH Y0)
 have u:∀i,dM (Cf i):=fW.loc λk=>cK.loc k;have q0:Sep (jk Cf S0) v12 λ_=>False:=jk.one S0 .hd λi W=>by
  cases i<;>first|exact W.elim|exact bR.nil _ _ _ _|exact trivial
 have q1:=jk.put u q0 .dD (G:=λb=>v.size<=b/\b<v5.size) (λb g d=>d) p1;have q2:=jk.put u q1 .own (G:=λb=>v5.size<=b/\b<V.size) (λb g d=>by
  rcases d with d|d
  ·exact d
  ·omega) p2
 have q3:=jk.put u q2 .runs (G:=λb=>b=V.size) (λb g d=>by
  rcases d with(d|d)|d
  ·exact d
  ·omega
  ·omega) ⟨rfl,p3⟩
 have q4:=jk.put u q3 .hd (G:=λb=>b=A.size) (λb g d=>by
  rcases d with((d|d)|d)|d
  ·exact d
  ·omega
  ·omega
  ·omega) ⟨rfl,af⟩
 have q5:=jk.put u q4 .free (G:=λb=>v8.size<=b/\b<v9.size) (λb g d=>by
  rcases d with(((d|d)|d)|d)|d
  ·exact d
  ·omega
  ·omega
  ·omega
  ·omega) p5
 have q6:=jk.put u q5 .nL (G:=λb=>v10.size<=b/\b<M.size) (λb g d=>by
  rcases d with((((d|d)|d)|d)|d)|d
  ·exact d
  ·omega
  ·omega
  ·omega
  ·omega
  ·omega) p6
 have q7:Sep Cf v12 λb=>v.size<=b:=by
  refine(Sep.loc u).mono (jk.all q6 λi=>?_) λb _ d=>?_
  ·cases i<;>simp[S0]
  ·rcases d with(((((d|d)|d)|d)|d)|d)|d
   ·exact d.elim
   ·omega
   ·omega
   ·omega
   ·omega
   ·omega
   ·omega
 have e12:bK v v12:=Ext.fresh e5 x5 λi W=>by omega
 have szv:=e.1;refine Z6 (a:=bN) (λ(t:Int) w=>∃(i:Nat) (Y:Lay),t=(i:Int)/\i<=tb.length/\Y.p=A.size/\Y.hs=hs/\Y.fF.length=i/\Y.fU.length=i/\bK v w/\Sep (fW (jg n X tb i) Y (cK (jg n X tb i) Y) (kH Y)) w (λb=>v.size<=b)) (λt _=>tb.length-t.toNat)
  ⟨0,Y0,rfl,O,rfl,rfl,rfl,rfl,e12,q7⟩ ?_
 rintro t w ⟨i,Y,rfl,W,ae,hYh,hYc,hYt,ew,y⟩;refine cQ (λhlt=>?_) λhge=>?_
 ·have hi':i<tb.length:=by omega
  have K:tb[i]?=some tb[i]:=cV hi';generalize tb[i]=c at K;have haw:=ZP P ew;obtain⟨hxi,aa⟩:=ad haw K;refine xD haw hxi ?_;refine nw (cs:=[.int .i64 0,.int .i64 0,.int .i64 0]) λv14 hz14 e14 b14=>b14.s1 aA λv15 o15 b15=>b15.s1 aA λv16 o16 b16=>b16.s1 aA λv17 o17 b17=>?_;have N:bK w v17:=Ext.fresh (Ext.fresh (Ext.fresh e14 o15.ext λi W=>O) o16.ext λi W=>O) o17.ext λi W=>by omega
  have x:bX v17 w.size [.int .i64 (c.size:Int),.int .i64 (c.aF:Int),.int .i64 (c.batch:Int)]:=b17;refine x.rI rfl (x.rI rfl (x.rI rfl (SD aa λv18 cp D hcp1 hcp2 hCe=>?_)));have b18:=D.bT x id;obtain⟨_,_,_,_,_,_,ab,ac⟩:=id aa;refine b18.rI rfl (O8 ab ac O λv19 tp2 E htp1 htp2 hTf=>Jn.intro ?_);have s14:=N.1;have s18:=D.1;have s19:=E.1;have sw:=ew.1;have hT:∀k,dM (cK (jg n X tb i) Y k):=λk=>cK.loc k;have h19:=qg hT (qg hT (qg hT (Fy hT y) N) D) E;have Q:=hCe.bO E;rw[←ae];refine RB (F:=Cut (λb=>v.size<=b) w) (z:=v.size) (ss:=[]) (t:=⟨0,[]⟩) (λb g=>⟨g.1,by have:=g.2;omega⟩) ⟨hYc,hYt⟩ O h19 (by simp[jg]) (by simp[jg]) K Q hTf (λb g=>?_) (λb g=>?_) (λb g hb2=>O) λw2 Y' e2 y1 y2 y3 y4 h2=>?_
  ·subst g;exact⟨λd=>by have:=d.2;omega,O,O⟩
  ·subst g;exact⟨λd=>by have:=d.2;omega,O,O⟩
  ·rw[Ml]at h2;exact cP (m:=i+1) O O ⟨⟨i+1,Y',rfl,O,y1,y2.trans hYh,y3,y4,Ext.fresh (Ext.trans (Ext.trans (Ext.trans ew N) D) E) e2 λb g=>g.1,h2⟩,O⟩
 ·have:i=tb.length:=by omega
  subst this;rw[IB,NX]at y;have hl:eV (fo n X tb) Y:=Rz hn1 hn2 c2' O J.1 J.2 (λc K=>by
   obtain⟨j,hj⟩:=zQ K;exact(ad P hj).2) hYc hYt
  have:=h1 w Y (Ext.trans e ew) hYh ⟨hl,λk=>cK.loc k,(Sep.loc (AC.loc λk=>cK.loc k)).mono y λb _ g=>zh szv g⟩;rw[ae]at this;exact this
end Go.Ar
namespace Go.Vc
open Go
variable {U:Hp}{F:Rg}{s:Sl}{sz:Nat}{xs:List Value}
def dH (s:Sl)(sz:Nat)(xs:List Value):Hp->Rg->Prop:=λh F=>xs.length=s.len*sz/\(s.len=0/\s.cap=0\/∃b o cs,F b/\s.a=some ⟨b,o,none⟩/\bX h b cs/\s.len<=s.cap/\cs.length=o+s.cap*sz/\(cs.drop o).take xs.length=xs)
theorem dH.loc (s:Sl)(sz:Nat)(xs:List Value):dM (dH s sz xs):=λU d F G h g a=>by
 refine⟨h.1,h.2.imp id ?_⟩;rintro⟨b,o,cs,hq,ha,⟨e,he⟩,r⟩;have:=a b (bX.lt ⟨e,he⟩) hq;exact⟨b,o,cs,this.1,ha,⟨e,this.2.trans he⟩,r⟩
theorem dH.nil (h:Hp)(F:Rg)(sz:Nat)(a:Option Addr):dH ⟨a,0,0⟩ sz [] h F:=⟨by simp,.inl ⟨rfl,rfl⟩⟩
theorem bR.o (h:bR s sz xs U F):dH s sz xs U F:=⟨h.1,h.2.imp id λ⟨b,g,d,e,i,a,m,j⟩=>⟨b,0,g,d,e,i,a,O,by simpa using j⟩⟩
theorem dH.gY (h:dH s sz xs U F):cU s sz xs U F:=by
 refine⟨h.1,?_⟩;rcases h.2 with⟨hl,_⟩|⟨b,o,cs,hq,ha,hb,_,_,ht⟩
 ·left;have:=h.1;rw[hl]at this;simpa using this
 ·refine .inr ⟨b,o,cs,hq,ha,hb.q,λj a=>?_⟩;rw[←ht,zj,kR,zC a]
theorem dH.cap (h:dH s sz xs U F):s.len<=s.cap:=by
 rcases h.2 with⟨q1,q2⟩|⟨_,_,_,_,_,_,q,_⟩
 ·omega
 ·exact q
theorem dH.app {x:Sl}{bytes e:Nat}{zs ys:List Value}{K:Sl->Hp->Prop}(ho:dH s sz xs U F)(hz:zs.length=sz)
 (hy:ys.length=x.len*sz) (hr:Rd U x.a ys) (h1:∀v∈ys,dQ v=true) (hb:(s.len+x.len)*bytes<=2^46) (hc:s.len+x.len<=2^62)
 (hx:0<x.len) (hK:∀s' h',s'.len=s.len+x.len->Ext F U h'->dH s' sz (xs++ys) h' (Grow F U)->K s' h'):App s sz bytes e zs x U K:=by
 refine⟨xs,ys,ho.1,hy,ho.gY.rd,hr,h1,hb,hc,λg=>?_,λr c i=>?_⟩
 ·rcases ho.2 with⟨hl,hcap⟩|⟨b,o,cs,hQ,ha,hk,hle,hcl,ht⟩
  ·omega
  ·rw[ha];simp only;rw[add_lit];have u:(s.len+x.len)*sz<=s.cap*sz:=lW _ g;rw[zm]at u;have d:=ho.1;refine VT hk O λh' m p=>hK _ h' rfl (Ext.eJ m hQ) ⟨?_,.inr ⟨b,o,_,.inl hQ,rfl,p,g,?_,?_⟩⟩
   ·simp[d,hy,zm]
   ·simp;omega
   ·rw[zO,d,j8];have e1:(cs.take (o+s.len*sz)++ys++cs.drop (o+s.len*sz+ys.length)).drop o=(cs.drop o).take (s.len*sz)++(ys++cs.drop (o+s.len*sz+ys.length)):=by
     rw[jY,List.drop_append_of_le_length (by rw[zZ];omega),List.drop_take]
     congr 2;omega
    have j:(cs.drop o).take (s.len*sz)=xs:=by rw[←d];exact ht
    rw[e1,j,←jY,oD aE,mG aE]
 ·refine hK _ _ rfl (Ext.push _ _ _) ⟨by simp[ho.1,hy,zm],.inr ⟨U.size,0,xs++ys++(List.replicate (c-(s.len+x.len)) zs).flatten,.inr (zD _),rfl,⟨e,by simp⟩,i,?_,?_⟩⟩
  ·simp only[zO,wW,tQ,vB,ho.1,hy,hz,←zm];rw[zH];congr 1;omega
  ·rw[List.drop_zero,oD aA,mG aA]
theorem dH.sv {x:Sl}{bytes e:Nat}{zs:List Value}{K:Sl->Hp->Prop}(ho:dH s sz xs U F)(hx:x.len=0)(hb:s.len*bytes<=2^46)(hc:s.len<=2^62)(hK:dH ⟨s.a,s.len,s.cap⟩ sz xs U F->K ⟨s.a,s.len,s.cap⟩ U):App s sz bytes e zs x U K:=by
 have d:=ho.cap;refine⟨xs,[],ho.1,by simp[hx],ho.gY.rd,by cases x.a<;>simp[Rd],by simp,by rw[hx];exact hb,O,λg=>?_,λb=>absurd O b⟩
 rw[hx];have:=hK ho;cases ha:s.a<;>(rw[ha]at this;exact this)
theorem dH.from (h:dH s sz xs U F){lo:Nat}(h1:lo<=s.len):dH ⟨if s.cap=lo then s.a else s.a.map (·.add (lo*sz)),s.len-lo,s.cap-lo⟩ sz (xs.drop (lo*sz)) U F:=by
 have d:=h.1;refine⟨by rw[j3,d,Nat.sub_mul],?_⟩;rcases h.2 with⟨q1,q2⟩|⟨b,o,cs,hq,ha,hb,hle,hcl,ht⟩
 ·left;simp only;omega
 ·by_cases hm:s.cap=lo
  ·left;simp only;omega
  ·refine .inr ⟨b,o+lo*sz,cs,hq,by simp only[zB hm,ha,zX,add_lit],hb,by simp only;omega,?_,?_⟩
   ·have:lo*sz<=s.cap*sz:=lW _ O;rw[hcl,Nat.sub_mul];omega
   ·rw[j3]
    conv=>rhs;rw[←ht]
    rw[List.drop_take,List.drop_drop]
end Go.Vc
namespace Go.Ar
open Go Go.Vc Go.Proofs
variable {U:Hp}{F G:Rg}{Y:gN}{tb:List bZ}{bud:Nat}{ls:List Li}{b k:Nat}{l:Li}{c:bZ}
theorem NS {s:Sl}{xs:List (Int×Int×Int)}(ha:ic U s xs)(dA:Int){R:Option Addr->Int->Hp->Prop}(h0:Qe xs=false->∀σ',bK U σ'->R none 2 σ')
 (h1:Qe xs=true->¬(0<=dA/\dA<=65536)->∀σ',bK U σ'->R none 1 σ')
 (h2:Qe xs=true->0<=dA->dA<=65536->∀σ' Y,bK U σ'->dZ σ' (λq=>U.size<=q) Y (xs.map Z0) dA.toNat (List.replicate (xs.map Z0).length ia)->R (some ⟨Y.p,0,none⟩) 0 σ') :
 QL.c s dA U R:=by
 refine QL.o ?_;unfold QL.v;refine Ga ha λv e=>?_;cases hv:Qe xs
 ·exact cD rfl (h0 hv v e)
 refine cB rfl (bV.intro (cQ (λB=>cD rfl (h1 hv O v e)) λB=>cQ (λx=>h1 hv O v e) λx=>?_));have j:=ZP ha e;have A:=(Qb xs).1 hv;refine VF j hv λdD b e1 g=>r7 λd F e2 z=>nw (cs:=[.slice dD.a dD.len dD.cap,.int .i64 dA,.map (some b.size)]) λv3 E m C=>?_;have s1:=e1.1;have s0:=e.1;refine h2 hv O O v3 ⟨d.size,b.size,dD,[]⟩ (((e.trans e1).trans e2).trans m) ⟨by rw[zl];omega,λc u=>?_,by simp,by simp,?_⟩
 ·obtain⟨i,y⟩:=zQ u;exact(U5 j hv y).2
 ·refine⟨λq=>if q=d.size then .hd else if q=b.size then .mp else .dD,λi=>?_⟩
  cases i with
  | hd=>
   refine⟨⟨by show U.size<=d.size;omega,by simp⟩,?_⟩;have:((dA.toNat:Nat):Int)=dA:=by omega
   simp only[A5,this];exact C
  | mp=>
   refine⟨⟨by show U.size<=b.size;omega,?_⟩,m.fO (z .i64 .p) id⟩;show(if b.size=d.size then sF.hd else if b.size=b.size then sF.mp else sF.dD)=.mp
   rw[zB O,zC rfl]
  | dD=>
   have w:=aH.bO (aH.bO (aH.mono g (G:=λq=>v.size<=q/\q<b.size) λq r D=>⟨D,r⟩) e2) m;refine aH.mono w λq _ r=>⟨O,?_⟩;show(if q=d.size then sF.hd else if q=b.size then sF.mp else sF.dD)=.dD
   rw[zB O,zB O]
  | li k=>
   simp only[CC,oC,iX,List.find?_nil,Option.map_none];cases hk:(List.replicate (xs.map Z0).length ia)[k]? with
   | none=>trivial
   | some l=>simp only[mr]at hk;split at hk<;>simp_all
def ku (f:Nat->Nat)(l:List (Int×Option Addr)):Nat:=(l.map λx=>f x.1.toNat).sum
theorem DJ (f:Nat->Nat):∀{l:List (Int×Option Addr)} {n:Int} {x:Option Addr},(l.map (·.1)).Nodup->(n,x)∈l->ku f l=f n.toNat+ku f (l.filter λy=>!(y.1==n))
 | [],_,_,_,h=>by simp at h
 | y::l,n,x,hn,h=>by
  simp only[zS,zr]at hn;rcases zW.1 h with h1|h1
  ·subst h1;have:l.filter (λy=>!(y.1==n))=l:=by
    rw[po];intro z hz;have:z.1≠n:=λe=>hn.1 (zE.2 ⟨z,hz,e⟩);simpa using this
   rw[uf aA,this];simp[ku]
  ·have a:y.1≠n:=λe=>hn.1 (zE.2 ⟨_,h1,e.symm⟩);rw[uG (by simpa using a)];have:=DJ f hn.2 h1;simp only[ku,zS,nA]at *;omega
theorem IP (n a v:Nat):((List.range n).map λj=>if j=a then v else 0).sum=if a<n then v else 0:=by
 induction n with
 | zero=>simp
 | succ n ih=>
  rw[pU,j4,List.sum_append,ih];by_cases h:a=n
  ·subst h;simp
  ·by_cases h2:a<n
   ·rw[zC h2,zC O];simp[Ne.symm h]
   ·rw[zB h2,zB O];simp[Ne.symm h]
theorem Rf (l:List Nat)(f g:Nat->Nat):(l.map λj=>f j+g j).sum=(l.map f).sum+(l.map g).sum:=by
 induction l with
 | nil=>rfl
 | cons x l ih=>simp only[zS,nA,ih];omega
theorem DH (f:Nat->Nat)(n:Nat):∀(ps:List (Nat×Nat)),(ps.map (·.1)).Nodup->(∀x∈ps,x.1<n)->(ps.map λx=>f x.1).sum=((List.range n).map λj=>if j∈ps.map (·.1)then f j else 0).sum
 | [],_,_=>by
  have:((List.range n).map λj=>if j∈([]:List (Nat×Nat)).map (·.1)then f j else 0)=(List.range n).map λ_=>0:=by simp
  rw[this]
  induction n with
  | zero=>rfl
  | succ n a=>rw[pU,j4,List.sum_append];simp at *;exact a
 | x::ps,hn,hl=>by
  simp only[zS,zr]at hn;have a:=DH f n ps hn.2 λy b=>hl y (by simp[b]);rw[zS,nA,a];have e:((List.range n).map λj=>if j∈(x::ps).map (·.1)then f j else 0)=(List.range n).map λj=>(if j=x.1 then f x.1 else 0)+(if j∈ps.map (·.1)then f j else 0):=by
   apply j2;intro j _;by_cases hj:j=x.1
   ·subst hj;rw[zC aA,zC rfl,zB hn.1];rfl
   ·rw[zB hj,zH];by_cases hm:j∈ps.map (·.1)
    ·rw[zC hm,zC (by simp only[zS,zW];exact .inr hm)]
    ·rw[zB hm,zB (by simp only[zS,zW,not_or];exact⟨hj,hm⟩)]
  rw[e,Rf,IP,zC (hl x aA)]
def pB (tb:List bZ)(ls:List Li)(k:Nat):Nat:=match tb[k]?,ls[k]? with
 | some c,some l=>c.size*l.os.length
 | _,_=>0
theorem DE:∀(tb:List bZ) (ls:List Li),ls.length=tb.length->QO tb ls=((List.range tb.length).map (pB tb ls)).sum
 | [],[],_=>rfl
 | c::tb,l::ls,h=>by
  have ih:=DE tb ls (by simpa using h);simp only[QO]at ih;simp only[QO,List.zip_cons_cons,zS,nA,zY,ih,List.range_succ_eq_map,lb];rfl
 | [],_::_,h=>by simp at h
 | _::_,[],h=>by simp at h
theorem dZ.nil (h:dZ U F Y tb bud ls)(hf:iX Y.ps k=none)(hl:ls[k]?=some l):l=ia:=by
 obtain⟨G,_,a⟩:=h.sep.get (.li k);simp only[CC,oC,hf,hl]at a;exact a
theorem dZ.vK (h:dZ U F Y tb bud ls):(Y.ps.map (·.1)).Nodup:=by
 have:=h.map.nodup;have e:(jG Y.ps).map (·.1)=(Y.ps.map (·.1)).map λ(n:Nat)=>(n:Int):=by simp[jG]
 rw[e]at this;exact List.Pairwise.of_map (λ(n:Nat)=>(n:Int)) (λa b d e=>d (by rw[e])) this
theorem dZ.bytes (h:dZ U F Y tb bud ls):ku (pB tb ls) (jG Y.ps)=QO tb ls:=by
 have e1:ku (pB tb ls) (jG Y.ps)=(Y.ps.map λx=>pB tb ls x.1).sum:=by simp[ku,jG,Function.comp_def]
 rw[e1,DH _ tb.length _ h.vK h.keys,DE _ _ h.len]
 congr 1
 apply j2;intro j hj;have a:=zg.1 hj;by_cases hm:j∈Y.ps.map (·.1)
 ·rw[zC hm]
 ·rw[zB hm];have d:iX Y.ps j=none:=by
   unfold iX;simp only[qR,nS,zT];exact λx g e=>hm (zE.2 ⟨x,g,e⟩)
  have b:ls[j]?=some (ls[j]'(by rw[h.len];exact a)):=cV _;have:=h.nil d b;unfold pB;rw[cV a,b,this];rfl
theorem Db:∀(tb:List bZ) (ls:List Li),(∀c∈tb,c.ok)->(∀l∈ls,fJ l)->QO tb ls<=tb.length*131072
 | [],_,_,_=>by simp[QO]
 | _::_,[],_,_=>by simp[QO]
 | c::tb,l::ls,h1,h2=>by
  have ih:=Db tb ls (λc a=>h1 c (by simp[a])) (λl b=>h2 l (by simp[b]));simp only[QO]at ih;simp only[QO,List.zip_cons_cons,zS,nA,zY];have a:=h1 c aA;unfold bZ.ok at a;have d:=(h2 l aA).many;have e:c.size*l.os.length<=512*256:=lV O d;omega
theorem N8 (h:dZ U F Y tb bud ls)(hok:∀l∈ls,fJ l):QO tb ls<=5242880:=by
 have a:=Db tb ls h.ok hok;have b:=h.m6;omega
theorem dZ.P9 (h:dZ U F Y tb bud ls):∀l∈ls,fJ l:=by
 intro l hl;obtain⟨k,a⟩:=zQ hl;cases hf:iX Y.ps k with
 | none=>rw[h.nil hf a];exact fJ.nil
 | some b=>
  obtain⟨G,_,d,_⟩:=h.vn hf a;exact d.2.1
theorem Dq (h:dZ U F Y tb bud ls){R:aN}(hR:∀σ',bK U σ'->R ((QO tb ls:Nat):Int) σ'):XE.c (aW Y.p) U R:=by
 refine XE.o ?_;unfold XE.v;have hle:=N8 h h.P9;have hT:=h.bytes;refine UY h (cB rfl (aG (h.hd.rM rfl ?_)));refine r5 (a:=bN) h.map (λg (z:Int) v=>∃n:Nat,z=(n:Int)/\n+ku (pB tb ls) g=QO tb ls/\(∀e∈g,e∈jG Y.ps)/\(g.map (·.1)).Nodup/\bK U v) ?_ ?_ ?_
 ·intro v hz e;exact⟨0,rfl,by rw[hT];omega,λe he=>he,h.map.nodup,e⟩
 ·rintro z v ⟨n,rfl,E,_,_,e⟩;simp only[ku,qD,List.sum_nil,j8]at E;rw[E];exact hR v e
 ·rintro g n x z v v' J ⟨m,rfl,E,u,D,e⟩ X ho hlt hJ;have Z:bK U v':=e.only ho (.inr (zD _));have S:=h.bO Z;have r:=u _ X;simp only[jG,zE,Prod.mk.injEq]at r;obtain⟨⟨k,b⟩,C,A,w⟩:=r;simp only at A w;subst A;subst w;have H:=h.keys _ C;simp only at H;have L:tb[k]?=some tb[k]:=cV H;have Q:ls[k]?=some (ls[k]'(by rw[h.len];exact H)):=cV _;generalize tb[k]=c at L;generalize (ls[k]'(by rw[h.len];exact H))=l at Q;have P:iX Y.ps k=some b:=C2 h.map.nodup C;obtain⟨G,hG,hL,_⟩:=S.vn P Q;obtain⟨_,hok,s,M,N,W⟩:=hL;have K:s.len=l.os.length:=by have:=N.1;simp[Wo]at this;omega
  have hb:pB tb ls k=c.size*l.os.length:=by unfold pB;rw[L,Q]
  have j:=DJ (pB tb ls) D X;simp only[dE]at j;refine aG (S.hd.rS rfl (GE S.jA L (d:=0) O ?_));simp only[zR];refine aG (M.rS rfl ?_);have B:m+c.size*l.os.length+ku (pB tb ls) (List.filter (λy=>!(y.1==(k:Int))) g)=QO tb ls:=by
   have V:=j;rw[hb]at V;rw[←E,V,vN]
  refine cP (m:=c.size*l.os.length) (by simp only[K];simp) O (cP (m:=m+c.size*l.os.length) O O (hJ _ v' rfl rfl ⟨_,rfl,B,λy hy=>u y (zI.1 hy).1,D.sublist (List.filter_sublist.map _),Z⟩))
theorem M0 (h:dZ U F Y tb bud ls){R:aO}(hR:∀σ',bK U σ'->R (decide (bud<QO tb ls)) σ'):XW.c (aW Y.p) U R:=by
 refine XW.o ?_;unfold XW.v;have e:decide (((QO tb ls:Nat):Int)>(bud:Int))=decide (bud<QO tb ls):=by rw[decide_eq_decide];omega
 refine Jn.intro (UY h (cD rfl (aG ⟨Dq h λσ' a=>(a.bT h.hd id).rI rfl ?_,h.hd.rI rfl (Dq h λσ' a=>?_)⟩)))
 ·rw[e];exact hR σ' a
 ·rw[e];exact hR σ' a
def BJ (f:bZ->Li->List Int×Li)(fn:Nat):Prop:=∀{U:Hp} {G:Rg} {b:Nat} {l:Li} {c:bZ},iV b l U G->c.ok->∀{R:Sl->Hp->Prop},
 (∀s z σ',Ext (· = b) U σ'->U.size<=z->bR s 1 (Wo (f c l).1) σ' (λq=>U.size<=q/\q<z)->iV b (f c l).2 σ' (λq=>q=b\/z<=q)->R s σ') →
 VP Tryz.prog ⟨fn,#[],#[]⟩ [.pointer (some ⟨b,0,none⟩),.int .i64 (c.batch:Int)] [.one .s] U R
theorem ID:BJ ZF 218:=by
 intro U G b l c h hc R hR;refine pd (all := #[.pointer (some ⟨b,0,none⟩),.int .i64 (c.batch:Int)]) (by kernel_rfl) aA ?_;refine Yp.o ?_;unfold Yp.v;have j:=h;obtain⟨_,i,s,a,e,g⟩:=h;have d:s.len=l.os.length:=by have:=e.1;simp[Wo]at this;omega
 refine aG (a.rS rfl ?_);simp only[d];exact He j (zD _) hR
theorem RU:BJ KE 216:=by
 intro U G b l c h hc R hR;refine pd (all := #[.pointer (some ⟨b,0,none⟩),.int .i64 (c.batch:Int)]) (by kernel_rfl) aA ?_;refine Xm.o ?_;unfold Xm.v;have V:=h;obtain⟨_,g,s,u,P,H⟩:=h;have o1:=g.low;have o2:=g.many;have o3:=g.lim;have w:=D9 hc g;unfold bZ.ok at hc;refine aG (u.rI rfl (cP (m:=l.low+1) O O (nz aB (cP (m:=(l.low+1)/2) (by rw[XP O];omega) O ?_))));refine He V O λout z v e S M y=>?_;have K:=y;obtain⟨_,Q,s1,d,x,D⟩:=y;have A:s1.len=(gg ((l.low+1)/2) l).2.os.length:=by have:=x.1;simp[Wo]at this;omega
 refine Jn.intro ?_;have i:∀(p:Hp) (lim:Nat),Ext (· = b) v p->lim=(if l.lim>c.batch then max (l.lim-c.batch) c.batch else l.lim)->bX p b (mR s1 {(gg ((l.low+1)/2) l).2 with lim:=lim}) →
  bU (some ⟨b,0,none⟩) λB=>jq (B.add 0) p λC=>bU (some ⟨b,0,none⟩) λE=>dN (E.add 2) (.int .i64 ((C.len:Nat):Int)) p λv2=>R out v2:=by
  intro p lim e1 hlim a;refine aG (a.rS rfl (aG (a.s1 (by simp[mR]) λv2 o2 r=>?_)));have e2:=e1.trans o2.ext;have N:=d.lt;refine hR out z v2 (e.trans e2) S (aI.bS M e2 λq _ J L=>?_) ?_
  ·have:=u.lt;omega
  ·refine⟨.inl rfl,w,s1,?_,aH.bS x e2 λq _ J L=>J.2 L,D⟩;simp only[A]at r;subst hlim;exact r
 refine aG (d.rI rfl ?_);refine cQ (λF=>?_) λF=>?_
 ·have j:l.lim>c.batch:=by simp only[gg]at F;omega
  refine aG (d.rI rfl (cP (m:=l.lim-c.batch) (by simp only[gg];omega) O (aG (d.s1 (by simp[mR]) λp o1 a=>i p (max (l.lim-c.batch) c.batch) o1.ext (by rw[zC j]) ?_))));have:(if(c.batch:Int)>((l.lim-c.batch:Nat):Int)then(c.batch:Int)else((l.lim-c.batch:Nat):Int))=((max (l.lim-c.batch) c.batch:Nat):Int):=by split<;>omega
  rw[this]at a;exact a
 ·have j:¬l.lim>c.batch:=by simp only[gg]at F;omega
  exact i v l.lim (Ext.refl _ _) (by rw[zB j]) d
def nE (x:Nat×Sl):List Value:=[.int .i64 (x.1:Int),.slice x.2.a x.2.len x.2.cap]
def fE (l:List (Nat×Sl)):List Value:=l.flatMap nE
theorem Kw (l:List (Nat×Sl)):(fE l).length=l.length*2:=by
 induction l with
 | nil=>rfl
 | cons x l ih=>
  have e:fE (x::l)=nE x++fE l:=rfl;have e2:(nE x).length=2:=rfl;rw[e,zO,ih,e2,zY];omega
theorem UD (a b:List (Nat×Sl)):fE (a++b)=fE a++fE b:=by simp[fE]
theorem U4 {l:List (Nat×Sl)}:∀v∈fE l,dQ v=true:=by
 intro v hv;obtain⟨p,_,a⟩:=List.mem_flatMap.1 hv;simp only[nE,zW,List.not_mem_nil,or_false]at a;rcases a with rfl|rfl<;>rfl
theorem J6 {l:List (Nat×Sl)}{i:Nat}{p:Nat×Sl}(h:l[i]?=some p){d:Nat}(hd:d<2):(fE l)[2*i+d]?=(nE p)[d]? := by
 induction l generalizing i with
 | nil=>simp at h
 | cons x l ih=>
  have e:fE (x::l)=nE x++fE l:=rfl;have e2:(nE x).length=2:=rfl;rw[e];cases i with
  | zero=>
   simp at h;subst h;rw[ze O];congr 1;omega
  | succ i=>
   rw[zp O,e2,show 2*(i+1)+d-2=2*i+d by omega];exact ih (by simpa using h)
def kj (ps:List (Nat×Sl))(bs:List Bt)(U:Hp)(D:Rg):Prop:=ps.length=bs.length/\∀(i:Nat) p x,ps[i]?=some p->bs[i]?=some x->p.1=x.1/\cU p.2 1 (Wo x.2) U D/\p.2.len<=p.2.cap
theorem kj.loc (ps:List (Nat×Sl))(bs:List Bt):dM (kj ps bs):=λU g F G h e d=>⟨h.1,λi p x b a=>⟨(h.2 i p x b a).1,cU.loc _ _ _ _ _ _ _ (h.2 i p x b a).2.1 e d,(h.2 i p x b a).2.2⟩⟩
def uK (ps:List (Nat×Sl)):Prop:=ps.Pairwise λp q=>∀a a',p.2.a=some a->q.2.a=some a'->a.block≠a'.block
theorem uK.snoc {ps:List (Nat×Sl)}{bs:List Bt}{U v:Hp}{D X:Rg}{s:Sl}{xs:List Int}(h:uK ps)(hB:kj ps bs U D)(hne:∀x∈bs,x.2≠[])(hs:cU s 1 (Wo xs) v X)(hx:xs≠[])(hd:∀b,b<U.size->D b->¬X b)(k:Nat):uK (ps++[(k,s)]):=by
 refine px.2 ⟨h,List.pairwise_singleton _ _,λp z q r=>?_⟩;rw[zN]at r;subst r;intro a a' h1 h2 e;obtain⟨i,u⟩:=zQ z;have d:=(cW.1 u).1;have m:bs[i]?=some (bs[i]'(by rw[←hB.1];exact d)):=cV _;generalize (bs[i]'(by rw[←hB.1];exact d))=y at m;obtain⟨_,j,_⟩:=hB.2 i p y u m;have g:=j.bT (by simpa[Wo]using hne y (zG m)) ⟨a,h1,rfl⟩;have w:=hs.bT (by simpa[Wo]using hx) ⟨a',h2,rfl⟩;rw[e]at g;exact hd _ g.2 g.1 w.1
def im (s:Sl)(bs:List Bt):Hp->Rg->Prop:=λU F=>∃(ps:List (Nat×Sl)) (D:Rg),dH s 2 (fE ps) U (λq=>F q/\¬D q)/\kj ps bs U D/\(∀q,D q->F q)/\uK ps/\∀x∈bs,x.2≠[]
theorem im.loc (s:Sl)(bs:List Bt):dM (im s bs):=λU r F G ⟨m,D,i,p,e,j⟩ g b=>
 ⟨m,λq=>D q/\q<U.size,dH.loc _ _ _ _ _ _ _ i g λq a d=>⟨⟨(b q a d.1).1,λhd=>d.2 hd.1⟩,(b q a d.1).2⟩,kj.loc _ _ _ _ _ _ p g λq a hd=>⟨⟨hd,a⟩,(b q a (e q hd)).2⟩,λq a=>(b q a.2 (e q a.1)).1,j⟩
theorem im.nil (U:Hp)(F:Rg)(a:Option Addr):im ⟨a,0,0⟩ [] U F:=⟨[],λ_=>False,dH.nil _ _ _ _,⟨rfl,λi p x h=>by simp at h⟩,λq h=>h.elim,List.Pairwise.nil,by simp⟩
theorem im.len {s:Sl}{bs:List Bt}(h:im s bs U F):s.len=bs.length:=by
 obtain⟨d,D,a,b,_⟩:=h;have:=a.1;rw[Kw]at this;have:=b.1;omega
theorem im.cap {s:Sl}{bs:List Bt}(h:im s bs U F):s.len<=s.cap:=by
 obtain⟨b,D,a,_⟩:=h;exact a.cap
def H4:Prop:=∀{U:Hp} {F:Rg} {s:Sl} {xs:List (Nat×Sl)},bR s 2 (fE xs) U F->(∀x∈xs,x.1<64)->xs.length<=1000->∀{R:aP},
 (∀xs' σ',xs'.Perm xs->xs'.Pairwise (λa b=>a.1<=b.1)->Ext F U σ'->bR s 2 (fE xs') σ' F->R σ')->ZQ.c s ⟨264,#[],#[]⟩ U R
theorem FE:∀{a b:List Nat},a.Pairwise (· < ·)->b.Pairwise (· < ·)->(∀x,x∈a↔x∈b)->a=b
 | [],[],_,_,_=>rfl
 | [],y::b,_,_,h=>by have:=(h y).2 aA;simp at this
 | x::a,[],_,_,h=>by have:=(h x).1 aA;simp at this
 | x::a,y::b,ha,hb,h=>by
  rw[rf]at ha hb;have e:x=y:=by
   rcases zW.1 ((h x).1 aA)with h1|h1
   ·exact h1
   ·rcases zW.1 ((h y).2 aA)with h2|h2
    ·exact h2.symm
    ·have:=ha.1 y h2;have:=hb.1 x h1;omega
  subst e
  congr 1
  refine FE ha.2 hb.2 λz=>?_;have d:=h z;simp only[zW]at d;constructor
  ·intro hza;have:=ha.1 z hza;rcases d.1 (.inr hza)with h1|h1
   ·omega
   ·exact h1
  ·intro hzb;have:=hb.1 z hzb;rcases d.2 (.inr hzb)with h1|h1
   ·omega
   ·exact h1
theorem U9 {f:bZ->Li->List Int×Li}{x:Bt}:x∈QX f tb ls↔∃c l,tb[x.1]?=some c/\ls[x.1]?=some l/\x.2=(f c l).1/\x.2≠[]:=by
 unfold QX;rw[vO];constructor
 ·rintro⟨k,hk,h⟩;split at h
  ·rename_i c l hc hl;split at h
   ·cases h
   ·rename_i hne;cases h;exact⟨c,l,hc,hl,rfl,hne⟩
  ·cases h
 ·rintro⟨c,l,hc,hl,e,hne⟩;refine⟨x.1,zg.2 (cW.1 hc).1,?_⟩;rw[hc,hl];simp only;rw[zB (by rw[←e];exact hne),←e]
theorem JR {f:bZ->Li->List Int×Li}:((QX f tb ls).map (·.1)).Pairwise (· < ·):=by
 unfold QX;have key:∀(n:Nat),(((List.range n).filterMap λk=>match tb[k]?,ls[k]? with
  | some c,some l=>if(f c l).1=[]then none else some ((k,(f c l).1):Bt)
  | _,_=>none).map (·.1)).Pairwise (· < ·)/\∀x∈((List.range n).filterMap λk=>match tb[k]?,ls[k]? with
  | some c,some l=>if(f c l).1=[]then none else some ((k,(f c l).1):Bt)
  | _,_=>none),x.1<n:=by
  intro n
  induction n with
  | zero=>simp
  | succ n ih=>
   rw[pU,wq,j4];refine⟨px.2 ⟨ih.1,?_,?_⟩,?_⟩
   ·simp only[An,List.filterMap_nil];split<;>simp
   ·intro a ha b hb;obtain⟨x,g,rfl⟩:=zE.1 ha;obtain⟨y,e,rfl⟩:=zE.1 hb;have j:=ih.2 x g;obtain⟨m,i,d⟩:=vO.1 e;clear e hb ha;simp only[zN]at i;subst i;split at d
    ·split at d
     ·cases d
     ·cases d;exact j
    ·cases d
   ·intro x g;rcases zK.1 g with g|g
    ·have:=ih.2 x g;omega
    ·obtain⟨m,i,e⟩:=vO.1 g;simp only[zN]at i;subst i;split at e
     ·split at e
      ·cases e
      ·cases e;omega
     ·cases e
 exact(key tb.length).1
def mM (todo:List (Int×Option Addr))(k:Nat):Prop:=((k:Nat):Int)∈todo.map (·.1)
instance (todo:List (Int×Option Addr)) (k:Nat):Decidable (mM todo k):=by unfold mM;infer_instance
theorem Hx {todo:List (Int×Option Addr)}{m k:Nat}:mM (todo.filter λy=>!(y.1==(m:Int))) k↔mM todo k/\k≠m:=by
 unfold mM;simp only[zE,zI,mC,lu];constructor
 ·rintro⟨y,⟨h1,h2⟩,h3⟩;exact⟨⟨y,h1,h3⟩,λe=>h2 O⟩
 ·rintro⟨⟨y,h1,h3⟩,h2⟩;exact⟨y,⟨h1,λe=>h2 O⟩,h3⟩
structure xJ (f:bZ->Li->List Int×Li) (tb:List bZ) (ls:List Li) (todo:List (Int×Option Addr)) (ls':List Li) (outs:List Bt):Prop where
 l:∀k c l,tb[k]?=some c->ls[k]?=some l->ls'[k]?=some (if mM todo k then l else(f c l).2)
 n:(outs.map (·.1)).Nodup
 o:∀x:Bt,x∈outs↔∃c l,tb[x.1]?=some c/\ls[x.1]?=some l/\¬mM todo x.1/\x.2=(f c l).1/\x.2≠[]
theorem xJ.step {f:bZ->Li->List Int×Li}{todo:List (Int×Option Addr)}{ls':List Li}{outs:List Bt}(h:xJ f tb ls todo ls' outs)(hc:tb[k]?=some c)(hl:ls[k]?=some l)(hk:mM todo k) :
 xJ f tb ls (todo.filter λy=>!(y.1==(k:Int))) (ls'.set k (f c l).2) (if(f c l).1=[]then outs else outs++[(k,(f c l).1)]):=by
 have s:=h.l k c l hc hl;have z:=(cW.1 s).1;have w:∀x∈outs,x.1≠k:=λx g e=>by
  obtain⟨_,_,_,_,B,_⟩:=(h.o x).1 g;rw[e]at B;exact B hk
 refine⟨λj d m hd p=>?_,?_,λx=>?_⟩
 ·by_cases hj:j=k
  ·subst hj;rw[hc]at hd;cases hd;rw[hl]at p;cases p;rw[zL z,zB (by rw[Hx];exact λg=>g.2 rfl)]
  ·rw[zk (Ne.symm hj),h.l j d m hd p]
   congr 1
   by_cases r:mM todo j
   ·rw[zC r,zC (Hx.2 ⟨r,hj⟩)]
   ·rw[zB r,zB λg=>r (Hx.1 g).1]
 ·split
  ·exact h.n
  ·rw[j4,nK];refine⟨h.n,by simp,λa D b C e=>?_⟩;simp only[zS,qD,zN]at C;subst C;obtain⟨x,g,e2⟩:=zE.1 D;exact w x g (e2.trans e)
 ·have A:(∃d m,tb[x.1]?=some d/\ls[x.1]?=some m/\¬mM (todo.filter λy=>!(y.1==(k:Int))) x.1/\x.2=(f d m).1/\x.2≠[])↔x∈outs\/(x=(k,(f c l).1)/\(f c l).1≠[]):=by
   constructor
   ·rintro⟨d,m,hd,p,r,e,i⟩;by_cases hj:x.1=k
    ·right;rw[hj]at hd p;rw[hc]at hd;cases hd;rw[hl]at p;cases p;exact⟨Prod.ext hj e,by rw[←e];exact i⟩
    ·left;exact(h.o x).2 ⟨d,m,hd,p,λg=>r (Hx.2 ⟨g,hj⟩),e,i⟩
   ·rintro(g|⟨rfl,i⟩)
    ·obtain⟨d,m,hd,p,r,e,i⟩:=(h.o x).1 g;exact⟨d,m,hd,p,λu=>r (Hx.1 u).1,e,i⟩
    ·exact⟨c,l,hc,hl,λu=>(Hx.1 u).2 rfl,rfl,i⟩
  rw[A];split
  ·rename_i he;constructor
   ·exact .inl
   ·rintro(g|⟨_,i⟩)
    ·exact g
    ·exact absurd he i
  ·rename_i he;rw[zK,zN];constructor
   ·rintro(g|g)
    ·exact .inl g
    ·exact .inr ⟨g,he⟩
   ·rintro(g|g)
    ·exact .inl g
    ·exact .inr g.1
set_option maxRecDepth 4000 in
theorem EV (hso:H4){f:bZ->Li->List Int×Li}{fn:Nat}(hf:BJ f fn)(hnil:∀c,c.ok->f c ia=([],ia))(h:dZ U F Y tb bud ls){R:Sl->Hp->Prop}
 (hR:∀σ' s (Q:Rg),Ext F U σ'->(∀q,Q q->U.size<=q)->dZ σ' (λq=>Grow F U q/\¬Q q) Y tb bud (QS f tb ls)->im s (QX f tb ls) σ' Q->R s σ') :
 Xc.c (aW Y.p) ⟨fn,#[],#[]⟩ U R:=by
 refine Xc.o ?_;unfold Xc.v;refine UY h (cB rfl (aG (h.hd.rM rfl ?_)));have htb:=h.m6;refine r5 (a:=.s) h.map (λC (out:Sl) v=>∃(ls':List Li) (w:List Bt) (Q D:Rg) (ps:List (Nat×Sl)),Ext F U v/\(∀q,Q q->U.size<q)/\dZ v (λq=>(Cut F U q\/U.size<q)/\¬Q q) Y tb bud ls' ∧
  bR out 2 (fE ps) v (λq=>Q q/\¬D q)/\kj ps w v D/\(∀q,D q->Q q)/\xJ f tb ls C ls' w/\(∀e∈C,e∈jG Y.ps)/\(C.map (·.1)).Nodup/\uK ps) ?_ ?_ ?_
 ·intro v hz e;refine⟨ls,[],λ_=>False,λ_=>False,[],bK.to e,λq g=>g.elim,((dZ.loc.bO h.cut e).mono λq _ g=>⟨.inl g,id⟩),bR.nil _ _ _ _,⟨rfl,λi p x K=>by simp at K⟩,λq g=>g.elim,⟨λk c l E N=>?_,by simp,λx=>?_⟩,λe P=>P,h.map.nodup,List.Pairwise.nil⟩
  ·by_cases hi:mM (jG Y.ps) k
   ·rw[zC hi,N]
   ·rw[zB hi];have hf0:iX Y.ps k=none:=by
     unfold iX;simp only[qR,nS,zT];exact λx r e=>hi (zE.2 ⟨((x.1:Int),some ⟨x.2,0,none⟩),zE.2 ⟨x,r,rfl⟩,by rw[e]⟩)
    have:=h.nil hf0 N;rw[N,this,hnil c (h.ok c (zG E))]
  ·simp only[List.not_mem_nil,false_iff];rintro⟨c,l,E,N,hi,e,hne⟩;have hf0:iX Y.ps x.1=none:=by
    unfold iX;simp only[qR,nS,zT];exact λy W e=>hi (zE.2 ⟨((y.1:Int),some ⟨y.2,0,none⟩),zE.2 ⟨y,W,rfl⟩,by rw[e]⟩)
   have:=h.nil hf0 N;rw[this,hnil c (h.ok c (zG E))]at e;exact hne e
 ·rintro out v ⟨ls',w,Q,D,ps,e,hQ,hC,X,hB,hD,hI,_,_,S⟩;have hno:∀k,¬mM [] k:=λk hk=>by simp[mM]at hk
  have hls:ls'=QS f tb ls:=by
   apply zo;intro k;by_cases hk:k<tb.length
   ·have E:tb[k]?=some tb[k]:=cV hk;have N:ls[k]?=some (ls[k]'(by rw[h.len];exact hk)):=cV _;rw[hI.l k _ _ E N,zB (hno k)];simp[QS,AQ,E,N]
   ·rw[zV (by rw[hC.len];omega),zV (by simp[QS,h.len];omega)]
  subst hls;have hk1:∀(i:Nat) p,ps[i]?=some p->∃x,w[i]?=some x/\p.1=x.1/\cU p.2 1 (Wo x.2) v D/\p.2.len<=p.2.cap:=λi p K=>by
   have hi:=(cW.1 K).1;have r:w[i]?=some (w[i]'(by rw[←hB.1];exact hi)):=cV _;exact⟨_,r,hB.2 i p _ K r⟩
  have B:ps.map (·.1)=w.map (·.1):=by
   apply zo;intro i;simp only[zd];cases K:ps[i]? with
   | none=>
    have:w[i]?=none:=by
     rw[List.getElem?_eq_none_iff]at K ⊢;rw[←hB.1];exact K
    rw[this];rfl
   | some p=>
    obtain⟨x,r,e1,_⟩:=hk1 i p K;rw[r];simp[e1]
  have Z:∀x∈w,x.1<40:=λx r=>by
   obtain⟨c,l,E,_⟩:=(hI.o x).1 r;have:=(cW.1 E).1;omega
  have hlen:ps.length<=40:=by
   have hn:=hI.n;rw[←B]at hn;have:=hn.length_le_of_subset (l₂:=List.range 40) λj S=>by
    rw[B]at S;obtain⟨x,r,rfl⟩:=zE.1 S;exact zg.2 (Z x r)
   simpa using this
  refine hso X (λp K=>?_) O λps' v' M hsort e' hrow'=>?_
  ·have:p.1∈w.map (·.1):=by rw[←B];exact zE.2 ⟨p,K,rfl⟩
   obtain⟨x,r,e1⟩:=zE.1 this;have:=Z x r;omega
  ·have hnd:(ps'.map (·.1)).Nodup:=(M.map _).nodup_iff.2 (by rw[B];exact hI.n);have hinc:(ps'.map (·.1)).Pairwise (· < ·):=by
    refine List.Pairwise.map (R:=λa b:Nat×Sl=>a.1<b.1) _ (λa b aa=>aa) ?_;have A:ps'.Pairwise λa b=>a.1≠b.1:=r8.1 hnd;exact(hsort.and A).imp λ{a b} aa=>by have:=aa.1;have:=aa.2;omega
   have hkk:ps'.map (·.1)=(QX f tb ls).map (·.1):=by
    refine FE hinc JR λj=>?_;rw[(M.map _).mem_iff,B];constructor
    ·intro S;obtain⟨x,r,rfl⟩:=zE.1 S;obtain⟨c,l,E,N,_,e1,e2⟩:=(hI.o x).1 r;exact zE.2 ⟨x,U9.2 ⟨c,l,E,N,e1,e2⟩,rfl⟩
    ·intro S;obtain⟨x,r,rfl⟩:=zE.1 S;obtain⟨c,l,E,N,e1,e2⟩:=U9.1 r;exact zE.2 ⟨x,(hI.o x).2 ⟨c,l,E,N,hno _,e1,e2⟩,rfl⟩
   have eQ:Ext F U v':=e.dT e' λq g=>.inr (rh (hQ q g.1));refine hR v' out Q eQ (λq g=>rh (hQ q g)) ?_ ⟨ps',D,hrow'.o,⟨?_,λi p x K r=>?_⟩,hD,(M.pairwise_iff λ{a b} aa x y A h2 e=>aa y x h2 A e.symm).2 S,λx r=>by
    obtain⟨_,_,_,_,_,h2⟩:=U9.1 r;exact h2⟩
   ·refine(dZ.loc.bS hC e' λq _ g hq2=>g.2 hq2.1).mono λq _ g=>⟨?_,g.2⟩;rcases g.1 with r|r
    ·exact .inl r.1
    ·exact .inr (rh r)
   ·have:=congrArg List.length hkk;simpa using this
   ·have e1:p.1=x.1:=by
     have:=congrArg (λl=>l[i]?) hkk;simp only[zd,K,r,zX,Option.some.injEq]at this;exact this
    obtain⟨j,S⟩:=zQ (M.mem_iff.1 (zG K));obtain⟨y,W,e2,hs,hcap⟩:=hk1 j p S;have e3:x.2=y.2:=by
     obtain⟨c,l,E,N,_,A,_⟩:=(hI.o y).1 (zG W);obtain⟨c',l',hc',hl',h2,_⟩:=U9.1 (zG r);rw[←e1,e2,E]at hc';cases hc';rw[←e1,e2,N]at hl';cases hl';rw[A,h2]
    rw[e3];exact⟨e1,aH.bS hs e' λq _ g hq2=>hq2.2 g,hcap⟩
 ·rintro C n x out v v' J ⟨ls',w,Q,D,ps,e,hQ,hC,X,hB,hD,hI,hsub,hnd,S⟩ r ho hlt hJ;have e1:Ext F U v':=e.only ho (.inr (zD _));have V:dZ v' (λq=>(Cut F U q\/U.size<q)/\¬Q q) Y tb bud ls':=dZ.loc.bS hC ho.ext λq _ g P=>by
   rcases g.1 with A|A
   ·have:=A.2;omega
   ·omega
  have hrow1:bR out 2 (fE ps) v' (λq=>(Q q/\¬D q)/\q<v'.size):=aI.cut (aI.bS X ho.ext λq _ g P=>by have:=hQ q g.1;omega);have hB1:kj ps w v' (λq=>D q/\q<v'.size):=(kj.loc _ _).cut ((kj.loc _ _).bS hB ho.ext λq _ g P=>by have:=hQ q (hD q g);omega);have hmem:=hsub _ r;simp only[jG,zE,Prod.mk.injEq]at hmem;obtain⟨⟨k,b⟩,hkb,hk1,hx1⟩:=hmem;simp only at hk1 hx1;subst hk1;subst hx1;have hk:=h.keys _ hkb;simp only at hk;have E:tb[k]?=some tb[k]:=cV hk;have N:ls[k]?=some (ls[k]'(by rw[h.len];exact hk)):=cV _;generalize tb[k]=c at E;generalize (ls[k]'(by rw[h.len];exact hk))=l at N;have hcok:=h.ok c (zG E);have hlk:iX Y.ps k=some b:=C2 h.map.nodup hkb;have hin:mM C k:=zE.2 ⟨_,r,rfl⟩;have hl':ls'[k]?=some l:=by rw[hI.l k c l E N,zC hin]
  have L:=hI.step E N hin;have hmF:(λq=>(Cut F U q\/U.size<q)/\¬Q q) Y.m:=by
   obtain⟨H,hH,hm⟩:=V.sep.get .mp;exact hH _ hm.1
  obtain⟨G,hG,hL,hGm,hput⟩:=V.vn hlk hl';have hbF:=hG b hL.1;have hbm:b≠Y.m:=λe=>hGm (e▸hL.1);have hbs:b≠U.size:=λe=>by
   subst e;rcases hbF.1 with A|A
   ·have:=A.2;omega
   ·omega
  have hblt:b<v'.size:=by obtain⟨_,_,s,hbk,_⟩:=hL;exact hbk.lt
  have hsz1:=ho.1;refine aG (V.hd.rS rfl (GE V.jA E (d:=2) O ?_));simp only[zB (show ¬(2=0) by omega),zB (show ¬(2=1) by omega)];refine hf hL hcok λs z v5 e5 hz hr hL5=>?_;have hs5:=e5.1;obtain⟨eF,h5⟩:=hput v5 _ (λq=>q=b\/z<=q) (e5.sub λq g=>by rw[g];exact hL.1) (λq g=>g.imp (λ(r:q=b)=>by rw[r];exact hL.1) λ(r:z<=q)=>O) hL5;have h5:=h5.cut;have eF5:Ext F U v5:=e1.dT eF λq g=>by
   rcases g.1 with A|A
   ·exact .inl A.1
   ·exact .inr (rh A)
  have hnb:∀q,Q q->q≠b:=λq g hqb=>hbF.2 (hqb▸g);have hrow5:=aI.bS hrow1 e5 λq _ g P=>hnb q g.1.1 P;have hB5:=(kj.loc _ _).bS hB1 e5 λq _ g P=>hnb q (hD q g.1) P;have hsl:s.len=(f c l).1.length:=by have:=hr.1;simp[Wo]at this;omega
  have hsub':∀y∈C.filter (λy=>!(y.1==(k:Int))),y∈jG Y.ps:=λy W=>hsub y (zI.1 W).1;have hnd':((C.filter λy=>!(y.1==(k:Int))).map (·.1)).Nodup:=hnd.sublist (List.filter_sublist.map _);by_cases hemp:(f c l).1=[]
  ·rw[zC hemp]at L;refine fR (by rw[hsl,hemp];simp) (hJ out v5 (e5.2 _ O λP=>hbs P.symm) (e5.2 _ V.map.lt λP=>hbm P.symm) ?_);refine⟨_,w,λq=>Q q/\q<v'.size,λq=>D q/\q<v'.size,ps,eF5,λq g=>hQ q g.1,h5.mono λq _ g=>?_,aI.mono hrow5 λq _ g=>⟨⟨g.1.1,g.2⟩,λhd=>g.1.2 hd.1⟩,hB5,λq g=>⟨hD q g.1,g.2⟩,L,hsub',hnd',S⟩;rcases g.1 with A|A|A
   ·exact⟨A.1.1,λr=>A.1.2 r.1⟩
   ·subst A;exact⟨hbF.1,λr=>hbF.2 r.1⟩
   ·exact⟨.inr O,λr=>O⟩
  ·rw[zB hemp]at L;have hpos:=pC.2 hemp;refine lH (by rw[hsl];omega) (nw (cs:=nE (k,s)) λv6 hz6 e6 hb6=>?_);have hrow6:=aI.bO hrow5 e6;have hB6:=(kj.loc _ _).bO hB5 e6;have hr6:=aI.bO (aI.cut hr) e6;have hpl:out.len=ps.length:=by have:=X.1;rw[Kw]at this;omega
   have hol:ps.length<=40:=by
    have B:w.map (·.1)⊆List.range 40:=λj S=>by
     obtain⟨x,r,rfl⟩:=zE.1 S;obtain⟨c,l,E,_⟩:=(hI.o x).1 r;have:=(cW.1 E).1;exact zg.2 O
    have:=hI.n.length_le_of_subset B;rw[hB.1];simpa using this
   refine hrow6.app (ys:=nE (k,s)) rfl rfl ?_ (λv hv=>U4 (l:=[(k,s)]) v (by simpa[fE]using hv)) ?_ ?_ mT λs' v7 hl7 e7 hr7=>?_
   ·intro j u hu;rw[add_lit,zH,hb6.cell];exact hu
   ·simp only;have:(out.len+1)*32<=41*32:=lV O O;omega
   ·simp only;omega
   have hs7:=e7.1;have e57:Ext (λq=>(Q q/\¬D q)/\q<v'.size) v5 v7:=(bK.to e6).trans e7;refine hJ s' v7 ?_ ?_ ?_
   ·rw[e57.2 _ O λr=>by have:=hQ _ r.1.1;omega];exact e5.2 _ O λP=>hbs P.symm
   ·rw[e57.2 _ (by have:=V.map.lt;omega) λr=>hmF.2 r.1.1];exact e5.2 _ V.map.lt λP=>hbm P.symm
   refine⟨_,_,λq=>Q q/\q<v'.size\/(v'.size<=q/\q<z)\/v5.size<=q,λq=>D q/\q<v'.size\/(v'.size<=q/\q<z)/\q<v5.size,ps++[(k,s)],eF5.dT e57 λq g=>.inr (rh (hQ q g.1.1)),λq g=>?_,(dZ.loc.bS h5 e57 λq hq5 g r=>?_).mono λq _ g=>?_,?_,⟨?_,λi p y K W=>?_⟩,λq g=>?_,L,hsub',hnd',S.snoc hB1 (λx r=>by
    obtain⟨_,_,_,_,_,_,h2⟩:=(hI.o x).1 r;exact h2) hr.gY hemp (λb hb r W=>by have:=r.2;have:=W.1;omega) k⟩
   ·rcases g with g|g|g
    ·exact hQ q g.1
    ·omega
    ·omega
   ·rcases g.1 with A|A|A
    ·exact A.1.2 r.1.1
    ·exact hnb q r.1.1 A
    ·have:=r.2;omega
   ·have hq5:=g.2;rcases g.1 with A|A|A
    ·exact⟨A.1.1,λr=>by
      rcases r with r|r|r
      ·exact A.1.2 r.1
      ·have:=A.2.1;omega
      ·omega⟩
    ·subst A;exact⟨hbF.1,λr=>by
      rcases r with r|r|r
      ·exact hbF.2 r.1
      ·omega
      ·omega⟩
    ·exact⟨.inr O,λr=>by
      rcases r with r|r|r<;>omega⟩
   ·rw[UD];have:fE [(k,s)]=nE (k,s):=by simp[fE]
    rw[this];refine aI.mono hr7 λq _ g=>?_;rcases g with g|g
    ·exact⟨.inl ⟨g.1.1,g.2⟩,λhd=>by
      rcases hd with hd|hd
      ·exact g.1.2 hd.1
      ·omega⟩
    ·exact⟨.inr (.inr O),λhd=>by
      rcases hd with hd|hd<;>omega⟩
   ·rw[zO,zO,hB.1];rfl
   ·rcases ke i ps.length with hi|hi
    ·rw[ze hi]at K;rw[ze (by rw[←hB.1];exact hi)]at W;obtain⟨a1,a2,a3⟩:=hB6.2 i p y K W;exact⟨a1,aH.mono (aH.bS a2 e7 λq _ g r=>r.1.2 g.1) λq _ g=>.inl g,a3⟩
    ·rw[zp hi]at K;rw[zp (by rw[←hB.1];exact hi)]at W;have hi0:i-ps.length=0:=by
      have:=(cW.1 K).1;simp at this;omega
     rw[hi0]at K;rw[show i-w.length=0 by rw[←hB.1];exact hi0]at W;simp at K W;subst K;subst W;exact⟨rfl,aH.mono (aH.bS hr6.gY e7 λq _ g r=>by have:=r.2;have:=g.1;omega) λq _ g=>.inr g,bR.qA hr⟩
   ·rcases g with g|g
    ·exact .inl ⟨hD q g.1,g.2⟩
    ·exact .inr (.inl g.1)
theorem OB (hso:H4)(h:dZ U F Y tb bud ls){R:Sl->Hp->Prop}
 (hR:∀σ' s (Q:Rg),Ext F U σ'->(∀q,Q q->U.size<=q)->dZ σ' (λq=>Grow F U q/\¬Q q) Y tb bud (QS ZF tb ls)->im s (QX ZF tb ls) σ' Q->R s σ'):Xx.c (aW Y.p) U R:=by
 refine Xx.o ?_;unfold Xx.v;exact EV hso ID (λc _=>Sq c) h hR
theorem Is (hso:H4)(h:dZ U F Y tb bud ls){R:Sl->Hp->Prop}
 (hR:∀σ' s (Q:Rg),Ext F U σ'->(∀q,Q q->U.size<=q)->dZ σ' (λq=>Grow F U q/\¬Q q) Y tb bud (QS KE tb ls)->im s (QX KE tb ls) σ' Q->R s σ'):WY.c (aW Y.p) U R:=by
 refine WY.o ?_;unfold WY.v;exact EV hso RU Rn h hR
end Go.Ar