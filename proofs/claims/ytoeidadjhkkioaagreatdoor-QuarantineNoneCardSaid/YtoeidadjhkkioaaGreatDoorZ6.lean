/- Texts joined. -/
import Derived.Test.YtoeidadjhkkioaaGreatDoorZ5
set_option linter.unusedVariables false
set_option linter.unusedSimpArgs false
namespace Go.Ar
variable {c:cA}{ss:List cH}
structure dG (c:cA) (ss:List cH):Prop where
 ok:c.ok
 tk:∀s∈ss,s.tk.length=c.n
 ue:ss.Pairwise λa b=>a.st+c.aF<=b.st
def Tk (c:cA)(ss:List cH)(x:Int):Prop:=dY c ss x=some true
def uA (c:cA)(ss:List cH)(p:Nat):Prop:=∃s∈ss,s.st<=p/\p<s.st+c.aF
theorem dG.pos (h:dG c ss):0<c.size:=by have:=h.ok;unfold cA.ok at this;omega
theorem dG.pg (h:dG c ss):1<=c.aF:=by have:=h.ok;unfold cA.ok at this;omega
theorem dG.qy (h:dG c ss):ss.Pairwise λa b=>a.st<b.st:=h.ue.imp λ{a b} d=>by have:=h.pg;omega
theorem dG.sR (h:dG c ss){i j:Nat}{s t:cH}(hi:ss[i]?=some s)(hj:ss[j]?=some t)(hij:i<j):s.st+c.aF<=t.st:=by
 obtain⟨a,rfl⟩:=cZ.1 hi;obtain⟨b,rfl⟩:=cZ.1 hj;exact mg.1 h.ue i j a b hij
theorem dG.wR (h:dG c ss){i j:Nat}{s t:cH}{p:Nat}(hi:ss[i]?=some s)(hj:ss[j]?=some t)(h1:s.st<=p)(h2:p<s.st+c.aF)(h3:t.st<=p)(h4:p<t.st+c.aF):i=j:=by
 rcases qi i j with hl|hl|hl
 ·have:=h.sR hi hj hl;omega
 ·exact hl
 ·have:=h.sR hj hi hl;omega
theorem JG (hp:0<c.size){s:cH}{i:Nat}(hi:i<c.n):s.st*256<=at_ c s i/\at_ c s i+c.size<=(s.st+c.aF)*256:=by
 have b:=cA.wm c;have a:(i+1)*c.size<=c.n*c.size:=ma _ hi;unfold at_;rw[zl]at a;omega
theorem HY (hp:0<c.size){s:cH}{i x:Nat}(hi:i<c.n)(h1:at_ c s i<=x)(h2:x<at_ c s i+c.size):s.st<=x/256/\x/256<s.st+c.aF:=by
 have:=JG hp (s:=s) hi;omega
theorem UL (h:dG c ss){k l:Nat}{s t:cH}{i j x:Nat}(hk:ss[k]?=some s)(hl:ss[l]?=some t)(hi:i<c.n)(hj:j<c.n)(h1:at_ c s i<=x)(h2:x<at_ c s i+c.size)(h3:at_ c t j<=x)(h4:x<at_ c t j+c.size):k=l/\s=t/\i=j:=by
 have b:=HY h.pos hi h1 h2;have a:=HY h.pos hj h3 h4;have e:=h.wR hk hl b.1 b.2 a.1 a.2;subst e;rw[hk]at hl;cases hl;refine⟨rfl,rfl,?_⟩;unfold at_ at *;have d:=h.pos;rcases qi i j with hl|hl|hl
 ·have:(i+1)*c.size<=j*c.size:=ma _ hl;rw[zl]at this;omega
 ·exact hl
 ·have:(j+1)*c.size<=i*c.size:=ma _ hl;rw[zl]at this;omega
theorem Cg (h:dG c ss){s:cH}(hs:s∈ss){x:Int}{i:Nat}(hi:idx c s x=some i):i<c.n/\((s.st*256:Nat):Int)<=x/\x<(((s.st+c.aF)*256:Nat):Int)/\((at_ c s i:Nat):Int)<=x/\x<((at_ c s i+c.size:Nat):Int):=by
 obtain⟨d,b,a⟩:=(Ud h.pos).1 hi;rw[h.tk s hs]at a;have:=JG h.pos (s:=s) a;have e:at_ c s (i+1)=at_ c s i+c.size:=by unfold at_;rw[zl];omega
 rw[e]at b;omega
theorem IV (h:dG c ss){k:Nat}{s:cH}{x:Int}{i:Nat}(hs:ss[k]?=some s)(hi:idx c s x=some i):kK c ss x=some k:=by
 obtain⟨r,g⟩:=cZ.1 hs;refine nG.2 ⟨r,by rw[g,hi];rfl,λj m p=>?_⟩;have d:j<ss.length:=by omega
 obtain⟨u,e⟩:=oA.1 p;have a:=Cg h (zG hs) hi;have b:=Cg h (ka d) e;have:=h.sR (cX d) hs m;omega
theorem IH (h:dG c ss){x:Int}{b:Bool}:dY c ss x=some b↔∃(k:Nat) (s:cH) (i:Nat),ss[k]?=some s/\i<c.n/\x=((at_ c s i:Nat):Int)/\s.is i=b:=by
 constructor
 ·intro hx;obtain⟨k,s,i,_,a,d,e⟩:=GZ hx;obtain⟨m,j⟩:=(U0 h.pos).1 d;rw[h.tk s (zG a)]at j;exact⟨k,s,i,a,j,m,e⟩
 ·rintro⟨k,s,i,a,hi,rfl,e⟩;have p:=h.tk s (zG a);have d:obj c s ((at_ c s i:Nat):Int)=some i:=(U0 h.pos).2 ⟨rfl,O⟩;have g:idx c s ((at_ c s i:Nat):Int)=some i:=(Ud h.pos).2 ⟨wP _,by have:=h.pos;unfold at_;rw[zl];omega,O⟩;rw[V0 (IV h a g) a,d,←e];rfl
theorem V3 (h:dG c ss){x:Int}:Tk c ss x↔∃(k:Nat) (s:cH) (i:Nat),ss[k]?=some s/\i<c.n/\x=((at_ c s i:Nat):Int)/\s.is i=true:=IH h
theorem Is (h:dG c ss){x:Int}{a:Nat}:rm c ss x=some a↔∃(k:Nat) (s:cH) (i:Nat),ss[k]?=some s/\i<c.n/\a=at_ c s i/\((at_ c s i:Nat):Int)<=x/\x<((at_ c s i+c.size:Nat):Int):=by
 constructor
 ·intro hf;cases ho:kK c ss x with
  | none=>rw[Fu ho]at hf;cases hf
  | some k=>
   have j:=(nG.1 ho).1;have b:ss[k]?=some ss[k]:=cX j;rw[Ge ho b]at hf;obtain⟨i,g,rfl⟩:=nR.1 hf;have:=Cg h (zG b) g;exact⟨k,_,i,b,this.1,rfl,this.2.2.2.1,this.2.2.2.2⟩
 ·rintro⟨k,s,i,b,g,rfl,h1,h2⟩;have m:=h.tk s (zG b);have e:at_ c s (i+1)=at_ c s i+c.size:=by unfold at_;rw[zl];omega
  have d:idx c s x=some i:=(Ud h.pos).2 ⟨h1,by rw[e];exact h2,O⟩;rw[Ge (IV h b d) b,d];rfl
theorem dG.put (h:dG c ss){k i:Nat}{s:cH}(hs:ss[k]?=some s)(v:Bool):dG c (ss.set k (s.put i v)):=by
 have r:=(cZ.1 hs).1;refine⟨h.ok,λt p=>?_,?_⟩
 ·rcases Ak p with p|rfl
  ·exact h.tk t p
  ·rw[show(s.put i v).tk.length=s.tk.length by simp[cH.put]];exact h.tk s (zG hs)
 ·rw[mg];intro a b ha hb hab;have g:a<ss.length:=by simpa using ha
  have m:b<ss.length:=by simpa using hb
  have d:∀j (hj:j<(ss.set k (s.put i v)).length) (hj':j<ss.length),(ss.set k (s.put i v))[j].st=ss[j].st:=by
   intro j hj hj';rw[List.getElem_set];split
   ·rename_i e;subst e;have:ss[k]=s:=(cZ.1 hs).2;rw[this];rfl
   ·rfl
  rw[d a ha g,d b hb m];exact mg.1 h.ue a b g m hab
theorem Ik {k i:Nat}{s:cH}(hs:ss[k]?=some s)(v:Bool):(ss.set k (s.put i v)).map (·.st)=ss.map (·.st):=by
 apply zo;intro j;simp only[za];by_cases hjk:j=k
 ·subst hjk;rw[zN (cZ.1 hs).1,hs];rfl
 ·rw[zg (Ne.symm hjk)]
theorem Cn {s:cH}{i j:Nat}{v:Bool}(hi:i<s.tk.length):(s.put i v).is j=if j=i then v else s.is j:=by
 unfold cH.is cH.put;simp only[zQ];by_cases hj:j=i
 ·subst hj;rw[zN hi,zC rfl];rfl
 ·rw[zg (Ne.symm hj),zB hj]
theorem Fz (h:dG c ss){k i:Nat}{s:cH}(hs:ss[k]?=some s)(hi:i<c.n)(v:Bool){y:Int}:Tk c (ss.set k (s.put i v)) y↔(y=((at_ c s i:Nat):Int)/\v=true)\/(y≠((at_ c s i:Nat):Int)/\Tk c ss y):=by
 have b:=(cZ.1 hs).1;have m:=h.tk s (zG hs);have g:=h.pos;rw[V3 (h.put hs v),V3 h];constructor
 ·rintro⟨l,t,j,ht,hj,rfl,hb⟩;by_cases hlk:l=k
  ·subst hlk;rw[zN b]at ht;cases ht;rw[Cn O]at hb;by_cases a:j=i
   ·subst a;rw[zC rfl]at hb;exact .inl ⟨rfl,hb⟩
   ·rw[zB a]at hb;refine .inr ⟨λe=>a ?_,l,s,j,hs,hj,rfl,hb⟩;have d:at_ c s j=at_ c s i:=by have:=Int.ofNat.inj e;exact this
    exact(UL h hs hs hj hi (zD _) O O O).2.2
  ·rw[zg (Ne.symm hlk)]at ht;refine .inr ⟨λe=>hlk ?_,l,t,j,ht,hj,rfl,hb⟩;have d:at_ c t j=at_ c s i:=Int.ofNat.inj e;exact(UL h ht hs hj hi (zD _) O O O).1
 ·rintro(⟨rfl,rfl⟩|⟨hne,l,t,j,ht,hj,rfl,hb⟩)
  ·exact⟨k,s.put i true,i,zN b,hi,rfl,by rw[Cn O,zC rfl]⟩
  ·by_cases hlk:l=k
   ·subst hlk;rw[hs]at ht;cases ht;have a:j≠i:=λe=>hne (by rw[e]);exact⟨l,s.put i v,j,zN b,hj,rfl,by rw[Cn O,zB a];exact hb⟩
   ·exact⟨l,t,j,(zg (Ne.symm hlk)).trans ht,hj,rfl,hb⟩
theorem JE {p:Nat}:uA c ss p↔∃x∈ss.map (·.st),x<=p/\p<x+c.aF:=by
 constructor
 ·rintro⟨s,a,h⟩;exact⟨_,zF.2 ⟨s,a,rfl⟩,h⟩
 ·rintro⟨x,hx,h⟩;obtain⟨s,a,rfl⟩:=zF.1 hx;exact⟨s,a,h⟩
theorem JH {ss':List cH}(e:ss'.map (·.st)=ss.map (·.st)){p:Nat}:uA c ss' p↔uA c ss p:=by rw[JE,JE,e]
theorem RS (h:dG c ss){x:Nat}{ss':List cH}(ho:iU c ss=some (x,ss')):dG c ss'/\ss'.map (·.st)=ss.map (·.st)/\¬Tk c ss (x:Int)/\∀y,Tk c ss' y↔y=(x:Int)\/Tk c ss y:=by
 unfold iU at ho;split at ho
 ·rename_i k hk;obtain⟨_,s,g,p⟩:=Q6 hk;rw[g]at ho;simp only at ho;split at ho
  ·rename_i i hi;cases ho;obtain⟨r,w,u,m⟩:=G3 p;rw[hi]at w;cases w;have j:i<c.n:=by rw[←h.tk s (zG g)];exact u
   have a:¬Tk c ss ((at_ c s i:Nat):Int):=λd=>by
    have z:=(IH h (x:=((at_ c s i:Nat):Int)) (b:=false)).2 ⟨k,s,i,g,j,rfl,m⟩;unfold Tk at d;rw[z]at d;cases d
   refine⟨h.put g true,Ik g true,a,λy=>?_⟩;rw[Fz h g j];constructor
   ·rintro(⟨e,_⟩|⟨_,d⟩)
    ·exact .inl e
    ·exact .inr d
   ·rintro(e|d)
    ·exact .inl ⟨e,rfl⟩
    ·exact .inr ⟨λe=>a (e▸d),d⟩
  ·cases ho
 ·cases ho
theorem Gn:∀(m:Nat) {ss:List cH},dG c ss->dG c (Kt c m ss).2/\(Kt c m ss).2.map (·.st)=ss.map (·.st)/\(Kt c m ss).1.length<=m/\(Kt c m ss).1.Nodup/\(∀x∈(Kt c m ss).1,¬Tk c ss (x:Int))/\∀y,Tk c (Kt c m ss).2 y↔(∃x∈(Kt c m ss).1,y=((x:Nat):Int))\/Tk c ss y
 | 0,ss,h=>⟨h,rfl,zD _,tz,by simp[Kt],by simp[Kt]⟩
 | m+1,ss,h=>by
  cases ho:iU c ss with
  | none=>
   have e:Kt c (m+1) ss=([],ss):=by simp[Kt,ho]
   rw[e];exact⟨h,rfl,by simp,tz,by simp,by simp⟩
  | some r=>
   obtain⟨x,z⟩:=r;rw[Gq ho];obtain⟨u,d,j,a⟩:=RS h ho;obtain⟨i,p,B,s,b,A⟩:=Gn m u;refine⟨i,p.trans d,by simp;omega,zt.2 ⟨λg=>b x g ((a _).2 (.inl rfl)),s⟩,?_,λy=>?_⟩
   ·intro y hy;rcases zX.1 hy with rfl|hy
    ·exact j
    ·exact λw=>b y hy ((a _).2 (.inr w))
   ·rw[A,a];simp only[zX,exists_eq_or_imp];constructor
    ·rintro(h|h|h)
     ·exact .inl (.inr h)
     ·exact .inl (.inl h)
     ·exact .inr h
    ·rintro((h|h)|h)
     ·exact .inr (.inl h)
     ·exact .inl h
     ·exact .inr (.inr h)
theorem FE:∀(xs:List Int) {ss:List cH},dG c ss->kD c ss xs->dG c (xs.foldl (fE c) ss)/\(xs.foldl (fE c) ss).map (·.st)=ss.map (·.st)/\∀y,Tk c (xs.foldl (fE c) ss) y↔Tk c ss y/\y∉xs
 | [],ss,h,_=>⟨h,rfl,by simp⟩
 | x::xs,ss,h,hA=>by
  have hx:=hA.1 x aA;obtain⟨k,s,i,r,b,j,_⟩:=GZ hx;obtain⟨d,a⟩:=(U0 h.pos).1 j;rw[h.tk s (zG b)]at a;have e:=yX r b j;have p:=h.put b false (i:=i);have g:=hA.next h.pos;obtain⟨u,w,m⟩:=FE xs (ss:=fE c ss x) (by rw[e];exact p) g;rw[qv];refine⟨u,w.trans (by rw[e];exact Ik b false),λy=>?_⟩;rw[m,e,Fz h b a,←d];simp only[zZ,and_false,false_or,zX,not_or];constructor
  ·rintro⟨⟨d,a⟩,h3⟩;exact⟨a,d,h3⟩
  ·rintro⟨a,d,h3⟩;exact⟨⟨d,a⟩,h3⟩
theorem FB {s:cH}(h0:s.many=0)(i:Nat):s.is i=false:=by
 unfold cH.many at h0;rw[yi]at h0;unfold cH.is;rw[zQ];cases hi:s.tk[i]? with
 | none=>rfl
 | some b=>
  cases b
  ·rfl
  ·exact absurd (zG hi) h0
theorem dG.cK (h:dG c ss):dG c (Go.Ar.cK ss):=⟨h.ok,λs a=>h.tk s (zI.1 a).1,h.ue.filter _⟩
theorem IE (h:dG c ss){y:Int}:Tk c (cK ss) y↔Tk c ss y:=by
 rw[V3 h.cK,V3 h];constructor
 ·rintro⟨k,s,i,hs,hi,rfl,hb⟩;obtain⟨l,a⟩:=zO (zI.1 (zG hs)).1;exact⟨l,s,i,a,hi,rfl,hb⟩
 ·rintro⟨k,s,i,hs,hi,rfl,hb⟩;have:s∈cK ss:=zI.2 ⟨zG hs,by
   have:s.many≠0:=λb=>by rw[FB b i]at hb;cases hb
   simpa using this⟩
  obtain⟨l,a⟩:=zO this;exact⟨l,s,i,a,hi,rfl,hb⟩
theorem AO {x:Nat}:x∈QF ss↔∃s∈ss,s.many=0/\s.st=x:=by
 unfold QF;simp only[zF,zI,zT,and_assoc]
theorem FV (h:dG c ss){p:Nat}:uA c (cK ss) p↔uA c ss p/\¬∃x∈QF ss,x<=p/\p<x+c.aF:=by
 constructor
 ·rintro⟨s,hs,h1,h2⟩;have b:=zI.1 hs;refine⟨⟨s,b.1,h1,h2⟩,?_⟩;rintro⟨x,hx,h3,h4⟩;obtain⟨t,m,d,rfl⟩:=AO.1 hx;obtain⟨i,g⟩:=zO b.1;obtain⟨j,a⟩:=zO m;have e:=h.wR g a h1 h2 h3 h4;subst e;rw[g]at a;cases a;simp[d]at b
 ·rintro⟨⟨s,hs,h1,h2⟩,hn⟩;refine⟨s,zI.2 ⟨hs,?_⟩,h1,h2⟩;have:s.many≠0:=λd=>hn ⟨s.st,AO.2 ⟨s,hs,d,rfl⟩,h1,h2⟩;simpa using this
theorem T4 (h:dG c ss):(QF ss).Pairwise λa b=>a+c.aF<=b:=by
 unfold QF;rw[sB];exact h.ue.filter _
theorem VJ {st:Nat}{t:cH}:t∈il c ss st↔t=⟨st,List.replicate c.n false⟩\/t∈ss:=by
 unfold il;rw[zK,zX];have:t∈ss↔t∈ss.takeWhile (λs=>decide (s.st<st))\/t∈ss.dropWhile (λs=>decide (s.st<st)):=by
  rw[←zK,List.takeWhile_append_dropWhile]
 rw[this];constructor
 ·rintro(h|h|h)
  ·exact .inr (.inl h)
  ·exact .inl h
  ·exact .inr (.inr h)
 ·rintro(h|h|h)
  ·exact .inr (.inl h)
  ·exact .inl h
  ·exact .inr (.inr h)
theorem D7 (h:dG c ss){st:Nat}(hd:∀s∈ss,s.st+c.aF<=st\/st+c.aF<=s.st):dG c (il c ss st):=by
 refine⟨h.ok,λs m=>?_,?_⟩
 ·rcases VJ.1 m with rfl|m
  ·simp
  ·exact h.tk s m
 ·have g:=Gm h.qy st;have r:=h.pg;rw[wV];refine pN.2 ⟨h.ue.sublist (Bf _ _),sy.2 ⟨λb e=>?_,h.ue.sublist (List.drop_sublist _ _)⟩,λa u b e=>?_⟩
  ·obtain⟨i,d⟩:=zO e;rw[kQ]at d;have:=g.2 _ _ d;rcases hd b (tG e)with h1|h1
   ·omega
   ·exact h1
  ·obtain⟨i,d⟩:=zO u;rw[zj]at d;split at d
   ·rename_i hlt;rcases zX.1 e with rfl|e
    ·have:=(g.2 _ _ d).2 hlt;rcases hd a (zG d)with h1|h1
     ·exact h1
     ·omega
    ·obtain⟨j,p⟩:=zO e;rw[kQ]at p;exact h.sR d p O
   ·cases d
theorem I7 (h:dG c ss){st:Nat}(hd:∀s∈ss,s.st+c.aF<=st\/st+c.aF<=s.st){y:Int}:Tk c (il c ss st) y↔Tk c ss y:=by
 rw[V3 (D7 h hd),V3 h];constructor
 ·rintro⟨k,s,i,hs,hi,rfl,hb⟩;rcases VJ.1 (zG hs)with rfl|hm
  ·have:(⟨st,List.replicate c.n false⟩:cH).is i=false:=FB (by simp[cH.many,yh]) i;rw[this]at hb;cases hb
  ·obtain⟨l,a⟩:=zO hm;exact⟨l,s,i,a,hi,rfl,hb⟩
 ·rintro⟨k,s,i,hs,hi,rfl,hb⟩;obtain⟨l,a⟩:=zO (VJ.2 (.inr (zG hs)):s∈il c ss st);exact⟨l,s,i,a,hi,rfl,hb⟩
theorem TF {st:Nat}(hd:∀s∈ss,s.st+c.aF<=st\/st+c.aF<=s.st):GN c ss st=0:=by
 unfold GN;rw[zB];simp only[zy,zU,not_exists,not_and];intro s hs hlt;rcases hd s hs with h|h<;>omega
end Go.Ar
namespace Go.Ar
open Go.Bu (Zt Q0 Zr pV VG dE take KI Ve Bounded)
def gf (st:List Nat)(p:Nat):Nat:=st.getD p 0
def AR.f (A:AR)(p:Nat):Nat:=gf A.st p
def mq (rs:List (Nat×Nat))(p:Nat):Prop:=∃r∈rs,r.1<=p/\p<r.1+r.2
theorem FZ {st:List Nat}{p:Nat}(h:gf st p≠0):p<st.length:=by
 apply Classical.byContradiction;intro hn;exact h (by unfold gf;rw[zQ,zW O];rfl)
theorem uy {st:List Nat}{a b v p:Nat}(hb:b<=st.length):gf (gA st a b v) p=if a<=p/\p<b then v else gf st p:=by
 unfold gf;rw[zQ,zQ,HG];by_cases hp:p<st.length
 ·rw[cX hp];simp only[ze,qk]
 ·rw[zW O,zB O];rfl
theorem UJ {n a m:Nat}:Zt n (a:Int) (m:Int)=true↔1<=m/\a+m<=n:=by
 simp only[Zt,zE,zU];omega
theorem Rw {st:List Nat}{a m:Nat}{fr:List Nat}(hl:a+m<=st.length):ve st a m fr=true↔∀p,a<=p->p<a+m->gf st p∈fr:=by
 unfold ve;rw[kf];constructor
 ·intro h p h1 h2;have d:p<st.length:=by omega
  have:st[p]∈(st.drop a).take m:=by
   refine zG (i:=p-a) ?_;rw[zj,zC O,kQ,show a+(p-a)=p by omega,cX d]
  have:=h _ this;unfold gf;rw[zQ,cX d];simpa using this
 ·intro h x hx;obtain⟨i,b⟩:=zO hx;rw[zj]at b;split at b
  ·rename_i hlt;rw[kQ]at b;have:=h (a+i) O O;unfold gf at this;rw[zQ,b]at this;simpa using this
  ·cases b
theorem F4 {st:List Nat}{a m v:Nat}{fr:List Nat}(h1:1<=m)(hl:a+m<=st.length)(h:∀p,a<=p->p<a+m->gf st p∈fr):UI st (a:Int) (m:Int) v fr=gA st a (a+m) v:=by
 unfold UI oC;rw[zC (UJ.2 ⟨h1,hl⟩),dD,dD,(Rw hl).2 h];rfl
structure PG (A:AR):Prop where
 len:A.st.length=A.n
 n1:32<=A.n
 n2:A.n<=1024
 n16:A.n%16=0
 le:∀p,A.f p<=3
 us:∀p,A.f p=1↔A.ow p≠0
 fr:∀p,A.S p=true↔2<=A.f p
 hp:∀p,A.f p=0↔A.f (p/16*16)=0
theorem PG.lt {A:AR}(h:PG A){p:Nat}(hp:A.f p≠0):p<A.n:=h.len▸FZ hp
theorem PG.jr {A:AR}(h:PG A):Bounded A.S A.n:=λp a=>h.lt (by have:=(h.fr p).1 a;omega)
theorem PG.j7 {A:AR}(h:PG A){p q:Nat}(e:p/16=q/16):A.f p=0↔A.f q=0:=by rw[h.hp p,h.hp q,e]
theorem PG.same {A B:AR}(h:PG A)(e1:B.n=A.n)(e2:B.st=A.st)(e3:B.S=A.S)(e4:B.ow=A.ow):PG B:=by
 have a:∀p,B.f p=A.f p:=λp=>by unfold AR.f;rw[e2]
 exact⟨by rw[e2,e1];exact h.len,by rw[e1];exact h.n1,by rw[e1];exact h.n2,by rw[e1];exact h.n16,λp=>by rw[a];exact h.le p,λp=>by rw[a,e4];exact h.us p,λp=>by rw[a,e3];exact h.fr p,λp=>by rw[a,a];exact h.hp p⟩
theorem FN {ow:Nat->Nat}{a m no:Nat}(h1:1<=m)(h2:a+m<=1024)(p:Nat):jD ow a m no p=if a<=p/\p<a+m then no else ow p:=by
 unfold jD;rw[zC (UJ.2 ⟨h1,h2⟩)]
theorem D5 {n:Nat}{S:Nat->Bool}{a m:Nat}(h1:1<=m)(h2:a+m<=n)(h:∀p,a<=p->p<a+m->S p=false):Q0 n S (a:Int) (m:Int)=dE S a (a+m):=by
 unfold Q0;rw[UJ.2 ⟨h1,h2⟩,dD,dD,VG.2 h];rfl
structure Out (A B:AR) (a b:Nat):Prop where
 n:B.n=A.n
 len:B.st.length=A.st.length
 f:∀p,¬(a<=p/\p<b)->B.f p=A.f p
 ow:∀p,¬(a<=p/\p<b)->B.ow p=A.ow p
 S:∀p,¬(a<=p/\p<b)->B.S p=A.S p
theorem Out.pg {A B:AR}{a b v:Nat}(o:Out A B a b)(h:PG A)(hv:v<=3)(hf:∀p,a<=p->p<b->B.f p=v)(hw:∀p,a<=p->p<b->(v=1↔B.ow p≠0))(hS:∀p,a<=p->p<b->(B.S p=true↔2<=v))
 (hz:∀p,B.f p=0↔B.f (p/16*16)=0):PG B:=by
 refine⟨by rw[o.len,o.n];exact h.len,by rw[o.n];exact h.n1,by rw[o.n];exact h.n2,by rw[o.n];exact h.n16,λp=>?_,λp=>?_,λp=>?_,hz⟩
 ·by_cases hp:a<=p/\p<b
  ·rw[hf p hp.1 hp.2];exact hv
  ·rw[o.f p hp];exact h.le p
 ·by_cases hp:a<=p/\p<b
  ·rw[hf p hp.1 hp.2];exact hw p hp.1 hp.2
  ·rw[o.f p hp,o.ow p hp];exact h.us p
 ·by_cases hp:a<=p/\p<b
  ·rw[hf p hp.1 hp.2];exact hS p hp.1 hp.2
  ·rw[o.f p hp,o.S p hp];exact h.fr p
theorem Out.zero {A B:AR}{a b v:Nat}(o:Out A B a b)(h:PG A)(hf:∀p,a<=p->p<b->B.f p=v)(hv:v≠0)(hA:∀p,a<=p->p<b->A.f p≠0):∀p,B.f p=0↔A.f p=0:=by
 intro p;by_cases hp:a<=p/\p<b
 ·rw[hf p hp.1 hp.2];exact⟨λe=>(hv e).elim,λe=>(hA p hp.1 hp.2 e).elim⟩
 ·rw[o.f p hp]
theorem DK {A B:AR}(h:PG A)(e:∀p,B.f p=0↔A.f p=0):∀p,B.f p=0↔B.f (p/16*16)=0:=λp=>by rw[e,e];exact h.hp p
theorem DG {A:AR}(h:PG A){a m:Nat}(h1:1<=m)(hu:∀p,a<=p->p<a+m->A.f p=1):Out A (V8 A (a,m)) a (a+m)/\(∀p,a<=p->p<a+m->(V8 A (a,m)).f p=2/\(V8 A (a,m)).ow p=0)/\PG (V8 A (a,m))/\∀p,(V8 A (a,m)).f p=0↔A.f p=0:=by
 have i:a+m<=A.n:=by have:=h.lt (p:=a+m-1) (by rw[hu _ O O];omega);omega
 have w:=h.n2;have e1:(V8 A (a,m)).st=gA A.st a (a+m) 2:=F4 h1 (by rw[h.len];exact i) λp b d=>by
  have:=hu p b d;unfold AR.f at this;rw[this];simp
 have e2:(V8 A (a,m)).S=dE A.S a (a+m):=D5 h1 i λp b d=>by
  apply nB.2;intro hS;have:=(h.fr p).1 hS;have:=hu p b d;omega
 have s:∀p,(V8 A (a,m)).ow p=if a<=p/\p<a+m then 0 else A.ow p:=λp=>FN h1 O p
 have r:∀p,(V8 A (a,m)).f p=if a<=p/\p<a+m then 2 else A.f p:=λp=>by unfold AR.f;rw[e1,uy (by rw[h.len];exact i)]
 have o:Out A (V8 A (a,m)) a (a+m):=⟨rfl,by rw[e1,Vf],λp e=>by rw[r,zB e],λp e=>by rw[s,zB e],λp e=>by
  rw[e2];unfold dE;have:(decide (a<=p)&&decide (p<a+m))=false:=by simp;omega
  rw[this,Bool.or_false]⟩
 have g:∀p,a<=p->p<a+m->(V8 A (a,m)).f p=2:=λp b d=>by rw[r,zC ⟨b,d⟩]
 have j:∀p,a<=p->p<a+m->(V8 A (a,m)).ow p=0:=λp b d=>by rw[s,zC ⟨b,d⟩]
 have u:=o.zero h g O λp b d=>by rw[hu p b d];omega
 refine⟨o,λp b d=>⟨g p b d,j p b d⟩,o.pg h O g (λp b d=>by rw[j p b d];simp) (λp b d=>?_) (DK h u),u⟩;rw[e2,KI];exact⟨λ_=>zD _,λ_=>.inr ⟨b,d⟩⟩
structure si (A B:AR) (rs:List (Nat×Nat)):Prop where
 pg:PG B
 n:B.n=A.n
 tb:B.tb=A.tb
 room:B.room=A.room
 cO:B.cO=A.cO
 cG:B.cG=A.cG
 runs:B.runs=A.runs
 i:∀p,mq rs p->B.f p=2/\B.ow p=0
 o:∀p,¬mq rs p->B.f p=A.f p/\B.ow p=A.ow p
 z:∀p,B.f p=0↔A.f p=0
theorem En:∀(rs:List (Nat×Nat)) {A:AR},PG A->(∀r∈rs,1<=r.2)->(∀r∈rs,∀p,r.1<=p->p<r.1+r.2->A.f p=1)->rs.Pairwise (λa b=>a.1+a.2<=b.1\/b.1+b.2<=a.1)->si A (Uu A rs) rs
 | [],A,h,_,_,_=>⟨h,rfl,rfl,rfl,rfl,rfl,rfl,λp ⟨r,hr,_⟩=>by simp at hr,λp _=>⟨rfl,rfl⟩,λp=>Iff.rfl⟩
 | (a,m)::rs,A,h,hp,hu,hd=>by
  have hd':=sy.1 hd;obtain⟨o,B,x,C⟩:=DG h (hp _ (ni ..)) (hu _ (ni ..));have d:=En rs x (λr hr=>hp r (mS _ hr)) (λr hr p s u=>by
   have:=hd'.1 r hr;simp only at this;rw[o.f p O];exact hu r (mS _ hr) p s u) hd'.2
  have e:Uu A ((a,m)::rs)=Uu (V8 A (a,m)) rs:=rfl;rw[e];refine⟨d.pg,d.n,d.tb,d.room,d.cO,d.cG,d.runs,λp g=>?_,λp g=>?_,λp=>(d.z p).trans (C p)⟩
  ·by_cases j:mq rs p
   ·exact d.i p j
   ·have:=d.o p j;obtain⟨r,hr,s,u⟩:=g;rcases zX.1 hr with rfl|hr
    ·rw[this.1,this.2];exact B p s u
    ·exact(j ⟨r,hr,s,u⟩).elim
  ·have j:¬mq rs p:=λ⟨r,hr,w⟩=>g ⟨r,mS _ hr,w⟩;have y:¬(a<=p/\p<a+m):=λw=>g ⟨(a,m),ni ..,w⟩;have:=d.o p j;exact⟨this.1.trans (o.f p y),this.2.trans (o.ow p y)⟩
theorem Cy {A:AR}(h:PG A){a m no:Nat}(h1:1<=m)(hn:no≠0)(hS:∀p,a<=p->p<a+m->A.S p=true):Out A (dP A a m no) a (a+m)/\(∀p,a<=p->p<a+m->(dP A a m no).f p=1/\(dP A a m no).ow p=no)/\PG (dP A a m no)/\∀p,(dP A a m no).f p=0↔A.f p=0:=by
 have g:∀p,a<=p->p<a+m->2<=A.f p:=λp b d=>(h.fr p).1 (hS p b d);have u:a+m<=A.n:=by have:=h.lt (p:=a+m-1) (by have:=g (a+m-1) O O;omega);omega
 have y:=h.n2;have e1:(dP A a m no).st=gA A.st a (a+m) 1:=F4 h1 (by rw[h.len];exact u) λp b d=>by
  have z:=g p b d;have x:=h.le p;unfold AR.f at z x;have:gf A.st p=2\/gf A.st p=3:=by omega
  simpa using this
 have s:∀p,(dP A a m no).ow p=if a<=p/\p<a+m then no else A.ow p:=λp=>FN h1 O p
 have r:∀p,(dP A a m no).f p=if a<=p/\p<a+m then 1 else A.f p:=λp=>by unfold AR.f;rw[e1,uy (by rw[h.len];exact u)]
 have o:Out A (dP A a m no) a (a+m):=⟨rfl,by rw[e1,Vf],λp e=>by rw[r,zB e],λp e=>by rw[s,zB e],λp e=>by
  show take A.S a (a+m) p=A.S p;unfold take;have:(decide (a<=p)&&decide (p<a+m))=false:=by simp;omega
  rw[this];simp⟩
 have i:∀p,a<=p->p<a+m->(dP A a m no).f p=1:=λp b d=>by rw[r,zC ⟨b,d⟩]
 have j:∀p,a<=p->p<a+m->(dP A a m no).ow p=no:=λp b d=>by rw[s,zC ⟨b,d⟩]
 have w:=o.zero h i O λp b d=>by have:=g p b d;omega
 refine⟨o,λp b d=>⟨i p b d,j p b d⟩,o.pg h O i (λp b d=>by rw[j p b d];simp[hn]) (λp b d=>?_) (DK h w),w⟩;show take A.S a (a+m) p=true↔_;rw[Ve];constructor
 ·rintro⟨_,hx⟩;exact(hx ⟨b,d⟩).elim
 ·intro hx;omega
theorem D0:∀(m:Nat) {st:List Nat} {a:Nat},(a+m)*16<=st.length->(∀p,a*16<=p->p<(a+m)*16->gf st p=0)->(U2 st a m).length=st.length/\∀p,gf (U2 st a m) p=if a*16<=p/\p<(a+m)*16 then 3 else gf st p
 | 0,st,a,hl,hz=>⟨rfl,λp=>by rw[zB O];rfl⟩
 | m+1,st,a,hl,hz=>by
  obtain⟨i1,i2⟩:=D0 m (st:=st) (a:=a) O λp d g=>hz p d O;rw[Iy];have b:gf (U2 st a m) (16*(a+m))=0:=by rw[i2,zB O];exact hz _ O O
  have ok:kB (U2 st a m) ((a+m:Nat):Int)=0:=by
   unfold kB;rw[Ii (by rw[i1];omega),zC rfl,dD];unfold gf at b;rw[zC b]
  have e:iQ (U2 st a m) ((a+m:Nat):Int)=gA (U2 st a m) (16*(a+m)) (16*(a+m)+16) 3:=by
   unfold iQ;rw[zC ok,dD]
  rw[e];refine⟨by rw[Vf,i1],λp=>?_⟩;rw[uy (by rw[i1];omega),i2];by_cases h1:16*(a+m)<=p/\p<16*(a+m)+16
  ·rw[zC h1,zC O]
  ·rw[zB h1];by_cases h2:a*16<=p/\p<(a+m)*16
   ·rw[zC h2,zC O]
   ·rw[zB h2,zB O]
theorem Bn {sp:Sp}{s m:Nat}(h:fA sp (s:Int) (m:Int)=0):1<=m/\s+m<=sp.st.length/\∀p,s<=p->p<s+m->gf sp.st p=0:=by
 unfold fA at h;split at h
 ·rename_i hr;obtain⟨e,b⟩:=UJ.1 hr;rw[dD,dD]at h;split at h
  ·cases h
  ·rename_i hn;refine⟨e,b,λp g j=>?_⟩;have a:p<sp.st.length:=by omega
   have d:sp.st[p]∈(sp.st.drop s).take m:=by
    refine zG (i:=p-s) ?_;rw[zj,zC O,kQ,show s+(p-s)=p by omega,cX a]
   simp only[zy,not_exists,not_and]at hn;have:=hn _ d;unfold gf;rw[zQ,cX a];simpa using this
 ·cases h
structure Grown (A B:AR) (sp sp':Sp) (s size:Nat):Prop where
 pg:PG B
 n:B.n=A.n
 tb:B.tb=A.tb
 room:B.room=A.room
 cO:B.cO=A.cO
 cG:B.cG=A.cG
 runs:B.runs=A.runs
 ow:B.ow=A.ow
 OD:s%16=0
 s1:16<=s
 sl:s+size<=A.n
 un:∀p,s<=p->p<s+size->gf sp.st p=0
 i:∀p,s<=p->p<s+size->B.f p=3/\gf sp'.st p=1
 o:∀p,¬(s<=p/\p<s+size)->B.f p=A.f p/\gf sp'.st p=gf sp.st p
 w:∀x,¬(s*32<=x/\x<(s+size)*32)->sp'.wd x=sp.wd x
 l:sp'.st.length=sp.st.length
 pk:sp'.pk=sp.pk
theorem U5 {sp:Sp}{size s:Nat}(h1:1<=size)(h:di sp size=some s):fA sp (s:Int) (size:Int)=0/\s≠0/\(∃j,s=j*size)/\∀j,j*size<s->1<=j->fA sp ((j*size:Nat):Int) (size:Int)≠0:=by
 unfold di at h;obtain⟨m,us,vs,u,A⟩:=List.find?_eq_some_iff_append.1 h;simp only[zE,bne_iff_ne,ne_eq,zT]at m;have e:s∈(List.range (sp.st.length/size)).map (· * size):=by rw[u];simp
 obtain⟨j,z,rfl⟩:=zF.1 e;rw[zh]at z;refine⟨m.2,m.1,⟨j,rfl⟩,λi x w=>?_⟩;have y:i<j:=Nat.lt_of_mul_lt_mul_right x;have:i*size∈us:=by
  have g:i*size∈(List.range (sp.st.length/size)).map (· * size):=zF.2 ⟨i,zh.2 O,rfl⟩;have d:((List.range (sp.st.length/size)).map (· * size)).Pairwise (· < ·):=by
   rw[sB];exact List.pairwise_lt_range.imp λ{a b} p=>Nat.mul_lt_mul_of_pos_right p O
  rw[u]at g d;rcases zK.1 g with h|h
  ·exact h
  ·rcases zX.1 h with h|h
   ·have:=xq O h;omega
   ·have:=(sy.1 (pN.1 d).2.1).1 _ h;omega
 have:=A _ this;have r:i*size≠0:=by
  have:=Nat.mul_pos (show 0<i by omega) (show 0<size by omega);omega
 simpa[r]using this
theorem FY {sp:Sp}{s m:Nat}(h:fA sp (s:Int) (m:Int)=0):(fW sp (s:Int) (m:Int)).st.length=sp.st.length/\(∀p,gf (fW sp (s:Int) (m:Int)).st p=if s<=p/\p<s+m then 1 else gf sp.st p)/\(∀x,¬(s*32<=x/\x<(s+m)*32)->(fW sp (s:Int) (m:Int)).wd x=sp.wd x)/\(fW sp (s:Int) (m:Int)).pk=sp.pk:=by
 obtain⟨d,a,_⟩:=Bn h;unfold fW;rw[zC h,dD,dD];refine⟨by simp[Sp.set,Vf],λp=>uy a,λx b=>?_,rfl⟩;show(if s*32<=x/\x<(s+m)*32 then 0 else sp.wd x)=_
 rw[zB b]
theorem TO {A:AR}{sp:Sp}(h:PG A)(hl:sp.st.length=A.n)(hz:∀p,gf sp.st p=0->A.f p=0){size:Nat}(hs:size=16\/size=32\/size=64){B:AR}{sp':Sp}(hg:U3 A sp size=some (B,sp')) :
 ∃s,di sp size=some s/\Grown A B sp sp' s size:=by
 unfold U3 at hg;split at hg
 ·cases hg
 ·rename_i s hgs;cases hg;obtain⟨w,F,⟨j,J⟩,_⟩:=U5 O hgs;obtain⟨H,z,u⟩:=Bn w;have m:s%16=0:=by rcases hs with rfl|rfl|rfl<;>omega
  have y:size%16=0:=by rcases hs with rfl|rfl|rfl<;>omega
  have e1:s/16*16=s:=by omega
  have e2:(s/16+size/16)*16=s+size:=by omega
  have e:∀p,s<=p->p<s+size->A.f p=0:=λp b d=>hz p (u p b d);obtain⟨G,g⟩:=D0 (size/16) (st:=A.st) (a:=s/16) (by rw[e2,h.len,←hl];exact z) (by rw[e1,e2];exact e);rw[e1,e2]at g;obtain⟨E,x,D,b4⟩:=FY w;have i:s+size<=A.n:=by rw[←hl];exact z
  have C:Q0 A.n A.S (s:Int) (size:Int)=dE A.S s (s+size):=D5 H i λp b d=>by
   apply nB.2;intro hS;have:=(h.fr p).1 hS;have:=e p b d;omega
  refine⟨s,hgs,⟨?_,rfl,rfl,rfl,rfl,rfl,rfl,rfl,m,O,i,u,λp b d=>⟨?_,?_⟩,λp hp=>⟨?_,?_⟩,D,E,b4⟩⟩
  ·have o:Out A {A with st:=U2 A.st (s/16) (size/16),S:=Q0 A.n A.S (s:Int) (size:Int)} s (s+size):=⟨rfl,G,λp hp=>by show gf _ p=_;rw[g,zB hp];rfl,λp hp=>rfl,λp hp=>by
    show Q0 A.n A.S (s:Int) (size:Int) p=A.S p;rw[C];unfold dE;have:(decide (s<=p)&&decide (p<s+size))=false:=by simp;omega
    rw[this,Bool.or_false]⟩
   have r:∀p,s<=p->p<s+size->AR.f {A with st:=U2 A.st (s/16) (size/16),S:=Q0 A.n A.S (s:Int) (size:Int)} p=3:=λp b d=>by show gf _ p=3;rw[g,zC ⟨b,d⟩]
   refine o.pg h (zD _) r (λp b d=>?_) (λp b d=>?_) λp=>?_
   ·have F:=e p b d;have:=h.us p;constructor
    ·intro hx;omega
    ·intro hx;have:=this.2 hx;omega
   ·show Q0 A.n A.S (s:Int) (size:Int) p=true↔_;rw[C,KI];exact⟨λ_=>O,λ_=>.inr ⟨b,d⟩⟩
   ·by_cases hp:s<=p/\p<s+size
    ·rw[r p hp.1 hp.2,r (p/16*16) O O]
    ·rw[o.f p hp,o.f (p/16*16) O];exact h.hp p
  ·show gf (U2 A.st (s/16) (size/16)) p=3;rw[g,zC ⟨b,d⟩]
  ·rw[x,zC ⟨b,d⟩]
  ·show gf (U2 A.st (s/16) (size/16)) p=A.f p;rw[g,zB hp];rfl
  ·rw[x,zB hp]
end Go.Ar
namespace Go.Ar
open Go.Bu (Zt Q0 Zr pV VG dE take KI Ve Bounded full can YL UT ZP Kc ZZ YT Kb Qp)
def Cl (A:AR)(k:Nat)(c:cA)(ss:List cH):Prop:=A.tb[k]?=some c/\A.cG[k]?=some ss
def fO (A:AR)(k:Nat)(x:Int):Prop:=∃c ss,Cl A k c ss/\Tk c ss x
def hO (A:AR)(k:Nat)(x:Int):Prop:=∃t,A.cO[k]?=some t/\x∈t.bs.flatten
structure GA (A:AR):Prop where
 pg:PG A
 tb:A.tb.length<=40
 lc:A.cG.length=A.tb.length
 lt:A.cO.length=A.tb.length
 cG:∀k c ss,Cl A k c ss->dG c ss
 one:∀k c ss,Cl A k c ss->∀s∈ss,s.st/16=(s.st+c.aF-1)/16
 ow:∀k c ss,Cl A k c ss->∀p,A.ow p=k+1↔uA c ss p
 jR:∀p,A.ow p=41↔mq A.runs p
 rU:∀p,A.ow p=41\/A.ow p<=A.tb.length
 gY:∀r∈A.runs,1<=r.2
 kE:A.runs.Pairwise λa b=>a.1+a.2<=b.1\/b.1+b.2<=a.1
 pL:∀(k:Nat) (t:gK),A.cO[k]?=some t->t.bs.flatten.Nodup
 l8:∀(k:Nat) c ss (t:gK),Cl A k c ss->A.cO[k]?=some t->∀x∈t.bs.flatten,Tk c ss x
 pa:∀(k:Nat) (c:cA) (t:gK),A.tb[k]?=some c->A.cO[k]?=some t->∀xs∈t.bs,xs.length=c.batch
structure Kp (A B:AR):Prop where
 n:B.n=A.n
 tb:B.tb=A.tb
 room:B.room=A.room
 z:∀p,B.f p=0↔A.f p=0
 t:∀p,B.f p=3->A.f p=3
theorem Kp.refl (A:AR):Kp A A:=⟨rfl,rfl,rfl,λ_=>Iff.rfl,λ_=>id⟩
theorem Kp.trans {A B C:AR}(h:Kp A B)(k:Kp B C):Kp A C:=⟨k.n.trans h.n,k.tb.trans h.tb,k.room.trans h.room,λp=>(k.z p).trans (h.z p),λp a=>h.t p (k.t p a)⟩
theorem Kp.aF {A B:AR}(e1:B.n=A.n)(e2:B.tb=A.tb)(e3:B.room=A.room)(e4:B.st=A.st):Kp A B:=⟨e1,e2,e3,λp=>by unfold AR.f;rw[e4],λp=>by unfold AR.f;rw[e4];exact id⟩
variable {A:AR}{k:Nat}{c:cA}{ss:List cH}
theorem Cl.lt (h:Cl A k c ss):k<A.tb.length:=(cZ.1 h.1).1
theorem Cl.eq {c':cA}{ss':List cH}(h:Cl A k c ss)(h':Cl A k c' ss'):c=c'/\ss=ss':=⟨Option.some.inj (h.1.symm.trans h'.1),Option.some.inj (h.2.symm.trans h'.2)⟩
theorem GA.cl (h:GA A){k:Nat}(hk:k<A.tb.length):∃c ss t,Cl A k c ss/\A.cO[k]?=some t:=by
 have a:=h.lc;have b:=h.lt;exact⟨A.tb[k],A.cG[k],A.cO[k],⟨by simp,by simp⟩,by simp⟩
theorem GA.used (h:GA A)(hk:Cl A k c ss){s:cH}(hs:s∈ss){p:Nat}(h1:s.st<=p)(h2:p<s.st+c.aF):A.f p=1/\A.ow p=k+1:=by
 have:=(h.ow k c ss hk p).2 ⟨s,hs,h1,h2⟩;exact⟨(h.pg.us p).2 O,this⟩
theorem GA.jt (h:GA A){r:Nat×Nat}(hr:r∈A.runs){p:Nat}(h1:r.1<=p)(h2:p<r.1+r.2):A.f p=1/\A.ow p=41:=by
 have:=(h.jR p).2 ⟨r,hr,h1,h2⟩;exact⟨(h.pg.us p).2 O,this⟩
theorem GA.gW (h:GA A){r s:Nat×Nat}(hr:r∈A.runs)(hs:s∈A.runs){x:Nat}(h1:r.1<=x)(h2:x<r.1+r.2)(h3:s.1<=x)(h4:x<s.1+s.2):r=s:=by
 obtain⟨i,d⟩:=zO hr;obtain⟨j,e⟩:=zO hs;obtain⟨b,rfl⟩:=cZ.1 d;obtain⟨a,rfl⟩:=cZ.1 e;rcases qi i j with hl|hl|hl
 ·have:=mg.1 h.kE i j b a hl;omega
 ·subst hl;rfl
 ·have:=mg.1 h.kE j i a b hl;omega
theorem GA.fit (h:GA A){r:Nat×Nat}(hr:r∈A.runs):r.1+r.2<=A.n:=by
 have:=h.gY r hr;have:=h.pg.lt (p:=r.1+r.2-1) (by rw[(h.jt hr (p:=r.1+r.2-1) O O).1];omega);omega
theorem GA.oY (h:GA A):iL A:=by
 have u:=h.pg.n2;refine⟨λr b s j x g d p i=>h.gW b j g d p i,λx m a=>?_,λx m w a=>?_,λr b=>?_⟩
 ·obtain⟨r,b,g,d⟩:=(h.jR x).1 a;unfold rO;rw[A3];exact⟨r,b,by simp[g,d]⟩
 ·rcases h.rU x with e|e
  ·exact(a e).elim
  ·exact e
 ·have:=h.fit b;omega
theorem Uv (hk:Cl A k c ss){ss':List cH}{j:Nat}{d:cA}{tt:List cH}(h:Cl {A with cG:=A.cG.set k ss'} j d tt):(j=k/\d=c/\tt=ss')\/(j≠k/\Cl A j d tt):=by
 obtain⟨b,a⟩:=h;by_cases hjk:j=k
 ·subst hjk;have e:=(cZ.1 hk.2).1;simp only[zN e]at a;exact .inl ⟨rfl,Option.some.inj (b.symm.trans hk.1),(Option.some.inj a).symm⟩
 ·simp only[zg (Ne.symm hjk)]at a;exact .inr ⟨hjk,b,a⟩
theorem Hj (hk:Cl A k c ss)(ss':List cH):Cl {A with cG:=A.cG.set k ss'} k c ss':=⟨hk.1,zN (cZ.1 hk.2).1⟩
theorem R5 {ss':List cH}{j:Nat}{d:cA}{tt:List cH}(hjk:j≠k)(h:Cl A j d tt):Cl {A with cG:=A.cG.set k ss'} j d tt:=⟨h.1,(zg (Ne.symm hjk)).trans h.2⟩
theorem GA.lf (h:GA A)(hk:Cl A k c ss){ss':List cH}(hC:dG c ss')(hst:ss'.map (·.st)=ss.map (·.st))(ht:∀t,A.cO[k]?=some t->∀x∈t.bs.flatten,Tk c ss' x):GA {A with cG:=A.cG.set k ss'}:=by
 refine⟨h.pg.same rfl rfl rfl rfl,h.tb,by simp[h.lc],h.lt,λj d b a=>?_,λj d b a s i=>?_,λj d b a p=>?_,h.jR,h.rU,h.gY,h.kE,h.pL,λj d b t a g=>?_,h.pa⟩
 ·rcases Uv hk a with⟨rfl,rfl,rfl⟩|⟨hne,a⟩
  ·exact hC
  ·exact h.cG j d b a
 ·rcases Uv hk a with⟨rfl,rfl,rfl⟩|⟨hne,a⟩
  ·have:s.st∈ss.map (·.st):=by rw[←hst];exact zF.2 ⟨s,i,rfl⟩
   obtain⟨t,ht,e⟩:=zF.1 this;rw[←e];exact h.one _ _ _ hk t ht
  ·exact h.one j d b a s i
 ·rcases Uv hk a with⟨rfl,rfl,rfl⟩|⟨hne,a⟩
  ·rw[JH hst];exact h.ow _ _ _ hk p
  ·exact h.ow j d b a p
 ·rcases Uv hk a with⟨rfl,rfl,rfl⟩|⟨hne,a⟩
  ·exact ht t g
  ·exact h.l8 j d b t a g
theorem Ab (hk:Cl A k c ss){ss':List cH}{j:Nat}{x:Int}:fO {A with cG:=A.cG.set k ss'} j x↔(j=k/\Tk c ss' x)\/(j≠k/\fO A j x):=by
 constructor
 ·rintro⟨d,tt,hj,hx⟩;rcases Uv hk hj with⟨rfl,rfl,rfl⟩|⟨hne,hj⟩
  ·exact .inl ⟨rfl,hx⟩
  ·exact .inr ⟨hne,d,tt,hj,hx⟩
 ·rintro(⟨rfl,hx⟩|⟨hne,d,tt,hj,hx⟩)
  ·exact⟨c,ss',Hj hk ss',hx⟩
  ·exact⟨d,tt,R5 hne hj,hx⟩
theorem Vv (hk:Cl A k c ss){x:Int}:fO A k x↔Tk c ss x:=by
 constructor
 ·rintro⟨d,tt,hj,hx⟩;obtain⟨rfl,rfl⟩:=hk.eq hj;exact hx
 ·intro hx;exact⟨c,ss,hk,hx⟩
def swp (A:AR)(k:Nat)(c:cA)(ss:List cH):AR:=Uu {A with cG:=A.cG.set k (cK ss)} ((QF ss).map λs=>(s,c.aF))
theorem CL {p:Nat}:mq ((QF ss).map λs=>(s,c.aF)) p↔∃x∈QF ss,x<=p/\p<x+c.aF:=by
 unfold mq;simp only[zF];constructor
 ·rintro⟨_,⟨x,hx,rfl⟩,h⟩;exact⟨x,hx,h⟩
 ·rintro⟨x,hx,h⟩;exact⟨_,⟨x,hx,rfl⟩,h⟩
theorem GA.j4 (h:GA A)(hk:Cl A k c ss){x:Nat}(hx:x∈QF ss){p:Nat}(h1:x<=p)(h2:p<x+c.aF):A.f p=1/\A.ow p=k+1:=by
 obtain⟨s,a,_,rfl⟩:=AO.1 hx;exact h.used hk a h1 h2
theorem GA.qZ (h:GA A)(hk:Cl A k c ss):si {A with cG:=A.cG.set k (cK ss)} (swp A k c ss) ((QF ss).map λs=>(s,c.aF)):=by
 have g:=h.cG k c ss hk;refine En _ (h.pg.same rfl rfl rfl rfl) (λr d=>?_) (λr d p i m=>?_) ?_
 ·obtain⟨x,_,rfl⟩:=zF.1 d;exact g.pg
 ·obtain⟨x,j,rfl⟩:=zF.1 d;exact(h.j4 hk j i m).1
 ·rw[sB];exact(T4 g).imp λ{a b} e=>.inl e
theorem GA.swp (h:GA A)(hk:Cl A k c ss):GA (Go.Ar.swp A k c ss):=by
 have b:=h.qZ hk;have w:=h.cG k c ss hk;have z:=hk.lt;have D:=h.tb;have cl:∀{j d m},Cl (Go.Ar.swp A k c ss) j d m->(j=k/\d=c/\m=cK ss)\/(j≠k/\Cl A j d m):=λ{j d m} a=>Uv hk ⟨by rw[←b.tb];exact a.1,by rw[←b.cG];exact a.2⟩;have own:∀p,mq ((QF ss).map λs=>(s,c.aF)) p->A.ow p=k+1:=λp g=>by
  obtain⟨x,r,E,F⟩:=CL.1 g;exact(h.j4 hk r E F).2
 have cO:(Go.Ar.swp A k c ss).cO=A.cO:=b.cO;have tb:(Go.Ar.swp A k c ss).tb=A.tb:=b.tb;have runs:(Go.Ar.swp A k c ss).runs=A.runs:=b.runs;refine⟨b.pg,by rw[tb];exact h.tb,by rw[b.cG,tb];simp[h.lc],by rw[cO,tb];exact h.lt,λj d m a=>?_,λj d m a s y=>?_,λj d m a p=>?_,λp=>?_,λp=>?_,by rw[runs];exact h.gY,by rw[runs];exact h.kE,by rw[cO];exact h.pL,λj d m t a u=>?_,by rw[cO,tb];exact h.pa⟩
 ·rcases cl a with⟨rfl,rfl,rfl⟩|⟨hne,a⟩
  ·exact w.cK
  ·exact h.cG j d m a
 ·rcases cl a with⟨rfl,rfl,rfl⟩|⟨hne,a⟩
  ·exact h.one _ _ _ hk s (zI.1 y).1
  ·exact h.one j d m a s y
 ·by_cases g:mq ((QF ss).map λs=>(s,c.aF)) p
  ·rw[(b.i p g).2];have C:=own p g;rcases cl a with⟨rfl,rfl,rfl⟩|⟨hne,a⟩
   ·rw[FV w];constructor
    ·intro e;omega
    ·rintro⟨_,hn⟩;exact(hn (CL.1 g)).elim
   ·rw[←h.ow j d m a p,C];omega
  ·rw[(b.o p g).2];rcases cl a with⟨rfl,rfl,rfl⟩|⟨hne,a⟩
   ·rw[FV w];show A.ow p=_↔_;rw[h.ow _ _ _ hk p];exact⟨λr=>⟨r,λB=>g (CL.2 B)⟩,λr=>r.1⟩
   ·exact h.ow j d m a p
 ·rw[runs];by_cases g:mq ((QF ss).map λs=>(s,c.aF)) p
  ·rw[(b.i p g).2,←h.jR,own p g];omega
  ·rw[(b.o p g).2];exact h.jR p
 ·rw[tb];by_cases g:mq ((QF ss).map λs=>(s,c.aF)) p
  ·rw[(b.i p g).2];omega
  ·rw[(b.o p g).2];exact h.rU p
 ·rw[cO]at u;rcases cl a with⟨rfl,rfl,rfl⟩|⟨hne,a⟩
  ·intro x r;exact(IE w).2 (h.l8 _ _ _ t hk u x r)
  ·exact h.l8 j d m t a u
theorem GA.CY (h:GA A)(hk:Cl A k c ss):Kp A (Go.Ar.swp A k c ss):=by
 have b:=h.qZ hk;refine⟨b.n,b.tb,b.room,b.z,λp a=>?_⟩;by_cases hi:mq ((QF ss).map λs=>(s,c.aF)) p
 ·rw[(b.i p hi).1]at a;omega
 ·rw[(b.o p hi).1]at a;exact a
theorem GA.CR (h:GA A)(hk:Cl A k c ss){j:Nat}{x:Int}:fO (Go.Ar.swp A k c ss) j x↔fO A j x:=by
 have b:=h.qZ hk;have a:=h.cG k c ss hk;have e:fO (Go.Ar.swp A k c ss) j x↔fO {A with cG:=A.cG.set k (cK ss)} j x:=by unfold fO Cl;rw[b.tb,b.cG]
 rw[e,Ab hk,IE a];constructor
 ·rintro(⟨rfl,hx⟩|⟨_,hx⟩)
  ·exact(Vv hk).2 hx
  ·exact hx
 ·intro hx;by_cases hjk:j=k
  ·subst hjk;exact .inl ⟨rfl,(Vv hk).1 hx⟩
  ·exact .inr ⟨hjk,hx⟩
theorem Hr {k:Int}:A.ck k=true↔∃j:Nat,k=j/\j<A.tb.length:=by
 unfold AR.ck;simp only[zE,zU];constructor
 ·intro h;exact⟨k.toNat,O,O⟩
 ·rintro⟨j,rfl,h⟩;omega
structure Ob (A B:AR):Prop where
 ga:GA B
 kp:Kp A B
 runs:B.runs=A.runs
theorem Es (h:GA A)(k m:Int):Ob A (YM A k m)/\(YM A k m).cO=A.cO/\(Yt A k m).Nodup/\(Yt A k m≠[]->∃j:Nat,k=j/\j<A.tb.length)/\(∀x∈Yt A k m,¬fO A k.toNat (x:Int)) ∧
 ∀j y,fO (YM A k m) j y↔fO A j y\/(j=k.toNat/\∃x∈Yt A k m,y=((x:Nat):Int)):=by
 by_cases h0:QV A k m=0
 ·have g:A.ck k=true:=by
   unfold QV at h0;split at h0
   ·assumption
   ·cases h0
  obtain⟨j,rfl,s⟩:=Hr.1 g;obtain⟨c,ss,t,b,D⟩:=h.cl s;have r:VP A (j:Int) m=Kt c m.toNat ss:=by unfold VP;rw[dD,b.1,b.2]
  have p:YM A (j:Int) m = {A with cG:=A.cG.set j (Kt c m.toNat ss).2}:=by unfold YM;rw[zC h0,r,dD]
  have e:Yt A (j:Int) m=(Kt c m.toNat ss).1:=by unfold Yt;rw[zC h0,r]
  rw[p,e];obtain⟨s1,s2,C,B,w,u⟩:=Gn m.toNat (h.cG j c ss b);refine⟨⟨h.lf b s1 s2 λz d x a=>(u x).2 (.inr (h.l8 j c ss z b d x a)),Kp.aF rfl rfl rfl rfl,rfl⟩,rfl,B,λ_=>⟨j,rfl,s⟩,λx a=>?_,λi y=>?_⟩
  ·rw[dD,Vv b];exact w x a
  ·rw[Ab b,u,dD];by_cases hij:i=j
   ·subst hij;rw[Vv b];constructor
    ·rintro(⟨_,a|a⟩|⟨a,_⟩)
     ·exact .inr ⟨rfl,a⟩
     ·exact .inl a
     ·exact(a rfl).elim
    ·rintro(a|⟨_,a⟩)
     ·exact .inl ⟨rfl,.inr a⟩
     ·exact .inl ⟨rfl,.inl a⟩
   ·constructor
    ·rintro(⟨a,_⟩|⟨_,a⟩)
     ·exact(hij a).elim
     ·exact .inl a
    ·rintro(a|⟨a,_⟩)
     ·exact .inr ⟨hij,a⟩
     ·exact(hij a).elim
 ·have p:YM A k m=A:=by unfold YM;rw[zB h0]
  have e:Yt A k m=[]:=by unfold Yt;rw[zB h0]
  rw[p,e];exact⟨⟨h,Kp.refl A,rfl⟩,rfl,tz,by simp,by simp,by simp⟩
theorem DL {xs:List Int}(h:kD c ss xs):iE c ss xs=0:=by
 unfold iE;have a:xs.any (λx=>(dY c ss x).isNone)=false:=by
  rw[mc];intro x hx;rw[h.1 x hx];simp
 have b:xs.any (λx=>dY c ss x==some false)=false:=by
  rw[mc];intro x hx;rw[h.1 x hx];simp
 rw[a,b,zJ h.2];rfl
theorem Ga (h:GA A)(hk:Cl A k c ss)(xs:List Int):Kd A (k:Int) xs=iE c ss xs:=by
 unfold Kd;rw[Hr.2 ⟨k,rfl,hk.lt⟩,zC rfl,dD,hk.1,hk.2]
theorem C0 (h:GA A){k:Int}{xs:List Int}(h0:Kd A k xs=0):∃(j:Nat) (c:cA) (ss:List cH),k=j/\Cl A j c ss/\kD c ss xs:=by
 have a:A.ck k=true:=by
  unfold Kd at h0;split at h0
  ·assumption
  ·cases h0
 obtain⟨j,rfl,d⟩:=Hr.1 a;obtain⟨c,ss,t,b,e⟩:=h.cl d;rw[Ga h b]at h0;exact⟨j,c,ss,rfl,b,Il h0⟩
theorem BL (h:GA A){k:Int}{xs:List Int}(hd:Kd A k xs=0->∀x∈xs,¬hO A k.toNat x):Ob A (ZN A k xs)/\(ZN A k xs).cO=A.cO ∧
 (Kd A k xs=0->∀j y,fO (ZN A k xs) j y↔fO A j y/\¬(j=k.toNat/\y∈xs))/\(Kd A k xs≠0->ZN A k xs=A):=by
 by_cases h0:Kd A k xs=0
 ·obtain⟨j,c,g,rfl,e,D⟩:=C0 h h0;obtain⟨w,z,s⟩:=FE xs (h.cG j c g e) D;have p:=h.lf e w z λt u x a=>(s x).2 ⟨h.l8 j c g t e u x a,λB=>hd h0 x B ⟨t,by rw[dD];exact u,a⟩⟩;have d:=Hj e (xs.foldl (fE c) g);have r:ZN A (j:Int) xs=swp {A with cG:=A.cG.set j (xs.foldl (fE c) g)} j c (xs.foldl (fE c) g):=by
   unfold ZN swp;rw[zC h0,dD,e.1,e.2];simp only[nC]
  have b:=p.qZ d;rw[r];refine⟨⟨p.swp d,(Kp.aF rfl rfl rfl rfl:Kp A {A with cG:=A.cG.set j (xs.foldl (fE c) g)}).trans (p.CY d),b.runs⟩,b.cO,λ_ i y=>?_,λC=>(C h0).elim⟩;rw[p.CR d,Ab e,s,dD];by_cases hij:i=j
  ·subst hij;rw[Vv e];constructor
   ·rintro(⟨_,a,hy⟩|⟨a,_⟩)
    ·exact⟨a,λm=>hy m.2⟩
    ·exact(a rfl).elim
   ·rintro⟨a,hy⟩;exact .inl ⟨rfl,a,λm=>hy ⟨rfl,m⟩⟩
  ·constructor
   ·rintro(⟨a,_⟩|⟨_,a⟩)
    ·exact(hij a).elim
    ·exact⟨a,λm=>hij m.1⟩
   ·rintro⟨a,_⟩;exact .inr ⟨hij,a⟩
 ·have r:ZN A k xs=A:=by unfold ZN;rw[zB h0]
  rw[r];exact⟨⟨h,Kp.refl A,rfl⟩,rfl,λa=>(h0 a).elim,λ_=>rfl⟩
theorem GA.j5 (h:GA A){k:Nat}{t':gK}(h1:t'.bs.flatten.Nodup)(h2:∀x∈t'.bs.flatten,fO A k x)(h3:∀c,A.tb[k]?=some c->∀xs∈t'.bs,xs.length=c.batch):GA {A with cO:=A.cO.set k t'}:=by
 have get:∀{j t},(A.cO.set k t')[j]?=some t->(j=k/\t=t')\/(j≠k/\A.cO[j]?=some t):=by
  intro j t a;by_cases hjk:j=k
  ·subst hjk;have g:j<A.cO.length:=by have:=(cZ.1 a).1;simpa using this
   rw[zN g]at a;exact .inl ⟨rfl,(Option.some.inj a).symm⟩
  ·rw[zg (Ne.symm hjk)]at a;exact .inr ⟨hjk,a⟩
 refine⟨h.pg.same rfl rfl rfl rfl,h.tb,h.lc,by simp[h.lt],h.cG,h.one,h.ow,h.jR,h.rU,h.gY,h.kE,λj t a=>?_,λj c e t b a x d=>?_,λj c t b a=>?_⟩
 ·rcases get a with⟨rfl,rfl⟩|⟨_,a⟩
  ·exact h1
  ·exact h.pL j t a
 ·rcases get a with⟨rfl,rfl⟩|⟨_,a⟩
  ·exact(Vv b).1 (h2 x d)
  ·exact h.l8 j c e t b a x d
 ·rcases get a with⟨rfl,rfl⟩|⟨_,a⟩
  ·exact h3 c b
  ·exact h.pa j c t b a
theorem Aj {t':gK}{j:Nat}{x:Int}(hk:k<A.cO.length):hO {A with cO:=A.cO.set k t'} j x↔(j=k/\x∈t'.bs.flatten)\/(j≠k/\hO A j x):=by
 by_cases hjk:j=k
 ·subst hjk;have a:(A.cO.set j t')[j]?=some t':=zN hk;constructor
  ·rintro⟨t,e,hx⟩;have e:(A.cO.set j t')[j]?=some t:=e;rw[a]at e;cases e;exact .inl ⟨rfl,hx⟩
  ·rintro(⟨_,hx⟩|⟨hx,_⟩)
   ·exact⟨_,a,hx⟩
   ·exact(hx rfl).elim
 ·have a:(A.cO.set k t')[j]?=A.cO[j]? := zg (Ne.symm hjk);constructor
  ·rintro⟨t,e,hx⟩;have e:(A.cO.set k t')[j]?=some t:=e;rw[a]at e;exact .inr ⟨hjk,t,e,hx⟩
  ·rintro(⟨hx,_⟩|⟨_,t,e,hx⟩)
   ·exact(hjk hx).elim
   ·exact⟨t,a.trans e,hx⟩
theorem Gi {t:gK}(ht:A.cO[k]?=some t){x:Int}:hO A k x↔x∈t.bs.flatten:=by
 constructor
 ·rintro⟨t',e,hx⟩;rw[ht]at e;cases e;exact hx
 ·intro hx;exact⟨t,ht,hx⟩
theorem EA (h:GA A)(k:Int):Ob A (ZQ A k)/\(∀j y,fO (ZQ A k) j y↔fO A j y)/\(∀x∈YI A k,hO A k.toNat x)/\(YI A k).Nodup/\(YI A k≠[]->∃j:Nat,k=j/\j<A.tb.length) ∧
 ∀j y,hO (ZQ A k) j y↔hO A j y/\¬(j=k.toNat/\y∈YI A k):=by
 by_cases h0:Qi A k=0
 ·have s:A.ck k=true:=by
   unfold Qi at h0;split at h0
   ·assumption
   ·cases h0
  obtain⟨j,rfl,w⟩:=Hr.1 s;obtain⟨c,F,t,E,m⟩:=h.cl w;have hne:t.bs≠[]:=by
   intro e;unfold Qi at h0;rw[s,zC rfl,dD,m]at h0;simp[e]at h0
  have D:ZQ A (j:Int) = {A with cO:=A.cO.set j t.rem}:=by unfold ZQ;rw[zC h0,dD,Vs m]
  have C:YI A (j:Int)=t.bs.getLast?.getD []:=by unfold YI;rw[zC h0,dD,m]
  have u:t.bs=t.bs.dropLast++[t.bs.getLast hne]:=(List.dropLast_concat_getLast hne).symm;have H:YI A (j:Int)=t.bs.getLast hne:=by rw[C,List.getLast?_eq_some_getLast hne];rfl
  have d:t.bs.flatten=t.bs.dropLast.flatten++t.bs.getLast hne:=by
   conv=>lhs;rw[u]
   simp
  have r:=h.pL j t m;rw[d]at r;have b:=nT.1 r;have g:t.rem.bs=t.bs.dropLast:=rfl;rw[D,H];refine⟨⟨h.j5 (by rw[g];exact b.1) (λx a=>(Vv E).2 (h.l8 j c F t E m x (by rw[d];exact kC _ a))) λG z J B=>h.pa j G t z m J ((List.dropLast_sublist _).subset B),Kp.aF rfl rfl rfl rfl,rfl⟩,λ_ _=>Iff.rfl,λx a=>?_,b.2.1,λ_=>⟨j,rfl,w⟩,λi y=>?_⟩
  ·rw[dD,Gi m,d];exact nZ _ a
  ·rw[Aj (by rw[h.lt];exact w),g,dD];by_cases hij:i=j
   ·subst hij;rw[Gi m,d,zK];constructor
    ·rintro(⟨_,a⟩|⟨a,_⟩)
     ·exact⟨.inl a,λp=>b.2.2 y a y p.2 rfl⟩
     ·exact(a rfl).elim
    ·rintro⟨a|a,p⟩
     ·exact .inl ⟨rfl,a⟩
     ·exact(p ⟨rfl,a⟩).elim
   ·constructor
    ·rintro(⟨a,_⟩|⟨_,a⟩)
     ·exact(hij a).elim
     ·exact⟨a,λp=>hij p.1⟩
    ·rintro⟨a,_⟩;exact .inr ⟨hij,a⟩
 ·have D:ZQ A k=A:=by unfold ZQ;rw[zB h0]
  have C:YI A k=[]:=by unfold YI;rw[zB h0]
  rw[D,C];exact⟨⟨h,Kp.refl A,rfl⟩,λ_ _=>Iff.rfl,by simp,tz,by simp,by simp⟩
theorem JK (h:GA A)(k:Int){xs:List Int}(hn:xs.Nodup)(hd:∀x∈xs,¬hO A k.toNat x):Ob A (Ks A k xs)/\(∀j y,fO (Ks A k xs) j y↔fO A j y) ∧
 (VD A k xs=true->(∃j:Nat,k=j/\j<A.tb.length)/\(∀x∈xs,fO A k.toNat x)/\∀j y,hO (Ks A k xs) j y↔hO A j y\/(j=k.toNat/\y∈xs))/\(VD A k xs=false->Ks A k xs=A):=by
 by_cases h0:VD A k xs=true
 ·have C:Hm A k xs=0:=by
   unfold VD at h0;simp only[zE,zU]at h0;exact h0.1
  have w:A.ck k=true:=by
   unfold Hm at C;split at C
   ·assumption
   ·cases C
  obtain⟨j,rfl,D⟩:=Hr.1 w;obtain⟨c,F,t,s,u⟩:=h.cl D;have m:=C;unfold Hm at m;rw[w,zC rfl,dD,s.1,s.2]at m;simp only at m;have p:xs.length=c.batch:=by
   apply Classical.byContradiction;intro d;rw[zB d]at m;cases m
  rw[zC p]at m;have z:∀x∈xs,fO A j x:=by
   intro x d;split at m
   ·rename_i B;rw[kf]at B;rw[Vv s];simpa[Tk]using B x d
   ·cases m
  have E:Ks A (j:Int) xs = {A with cO:=A.cO.set j {t with bs:=t.bs++[xs]}}:=by unfold Ks;rw[zC h0,dD,Vs u]
  have r:(t.bs++[xs]).flatten=t.bs.flatten++xs:=by simp
  rw[E];refine⟨⟨h.j5 ?_ ?_ ?_,Kp.aF rfl rfl rfl rfl,rfl⟩,λ_ _=>Iff.rfl,λ_=>⟨⟨j,rfl,D⟩,by rw[dD];exact z,λi y=>?_⟩,λG=>by rw[G]at h0;cases h0⟩
  ·show(t.bs++[xs]).flatten.Nodup;rw[r,nT];exact⟨h.pL j t u,hn,λa B b H e=>hd b H (by subst e;rw[dD,Gi u];exact B)⟩
  ·intro x d;have d:x∈(t.bs++[xs]).flatten:=d;rw[r,zK]at d;rcases d with d|d
   ·exact(Vv s).2 (h.l8 j c F t s u x d)
   ·exact z x d
  ·intro c' hc' ys g;have g:ys∈t.bs++[xs]:=g;rcases zK.1 g with g|g
   ·exact h.pa j c' t hc' u ys g
   ·simp only[zP]at g;rw[s.1]at hc';cases hc';rw[g];exact p
  ·rw[Aj (by rw[h.lt];exact D),dD];show(i=j/\y∈(t.bs++[xs]).flatten)\/_↔_;rw[r,zK];by_cases hij:i=j
   ·subst hij;rw[Gi u];constructor
    ·rintro(⟨_,d|d⟩|⟨d,_⟩)
     ·exact .inl d
     ·exact .inr ⟨rfl,d⟩
     ·exact(d rfl).elim
    ·rintro(d|⟨_,d⟩)
     ·exact .inl ⟨rfl,.inl d⟩
     ·exact .inl ⟨rfl,.inr d⟩
   ·constructor
    ·rintro(⟨d,_⟩|⟨_,d⟩)
     ·exact(hij d).elim
     ·exact .inl d
    ·rintro(d|⟨d,_⟩)
     ·exact .inr ⟨hij,d⟩
     ·exact(hij d).elim
 ·have E:Ks A k xs=A:=by unfold Ks;rw[zB h0]
  rw[E];exact⟨⟨h,Kp.refl A,rfl⟩,λ_ _=>Iff.rfl,λd=>(h0 d).elim,λ_=>rfl⟩
end Go.Ar
namespace Go.Ar
open Go.Bu (Zt Q0 Zr pV VG dE take KI Ve Bounded full can YL UT ZP Kc ZZ YT Kb Qp Ul Hb kP)
variable {A:AR}{sp:Sp}{k:Nat}{c:cA}{ss:List cH}
structure Ow (A:AR) (sp:Sp):Prop where
 l:sp.st.length=A.n
 own:∀p,A.f p≠0->gf sp.st p≠0
 cl:∀p,A.f p=3->gf sp.st p=1
 le:∀p,gf sp.st p<=2
structure St (A B:AR) (sp sp':Sp):Prop where
 ga:GA B
 ow:Ow B sp'
 n:B.n=A.n
 tb:B.tb=A.tb
 room:B.room=A.room
 same:∀p,A.f p=0->B.f p=0->gf sp'.st p=gf sp.st p
 gone:∀p,A.f p≠0->B.f p=0->gf sp'.st p=0
 new:∀p,A.f p=0->B.f p≠0->gf sp.st p=0/\16<=p
theorem St.refl (h:GA A)(hw:Ow A sp):St A A sp sp:=⟨h,hw,rfl,rfl,rfl,λ_ _ _=>rfl,λp a b=>(a b).elim,λp a b=>(b a).elim⟩
theorem Ow.len {B C:AR}{sp sp':Sp}(h:Ow B sp)(k:Ow C sp')(e:C.n=B.n):sp'.st.length=sp.st.length:=by rw[h.l,k.l,e]
theorem St.trans {B C:AR}{sp' sp'':Sp}(h:St A B sp sp')(k:St B C sp' sp''):St A C sp sp'':=by
 refine⟨k.ga,k.ow,k.n.trans h.n,k.tb.trans h.tb,k.room.trans h.room,λp b a=>?_,λp b a=>?_,λp b a=>?_⟩
 ·by_cases hB:B.f p=0
  ·rw[k.same p hB a,h.same p b hB]
  ·rw[k.gone p hB a,(h.new p b hB).1]
 ·by_cases hB:B.f p=0
  ·rw[k.same p hB a,h.gone p b hB]
  ·exact k.gone p hB a
 ·by_cases hB:B.f p=0
  ·have:=k.new p hB a;rw[h.same p b hB]at this;exact this
  ·exact h.new p b hB
theorem Ow.kp {B:AR}(hw:Ow A sp)(h:Kp A B):Ow B sp:=⟨hw.l.trans h.n.symm,λp a=>hw.own p λe=>a ((h.z p).2 e),λp a=>hw.cl p (h.t p a),hw.le⟩
theorem St.kp {B:AR}(hg:GA B)(hw:Ow A sp)(h:Kp A B):St A B sp sp:=
 ⟨hg,hw.kp h,h.n,h.tb,h.room,λ_ _ _=>rfl,λp a b=>(a ((h.z p).1 b)).elim,λp a b=>(b ((h.z p).2 a)).elim⟩
theorem Ob.st {B:AR}(o:Ob A B)(hw:Ow A sp):St A B sp sp:=St.kp o.ga hw o.kp
theorem GA.grown (h:GA A){B:AR}{sp':Sp}{s size:Nat}(g:Grown A B sp sp' s size):GA B:=by
 have e:∀{j d tt},Cl B j d tt↔Cl A j d tt:=λ{j d tt}=>by unfold Cl;rw[g.tb,g.cG]
 exact⟨g.pg,by rw[g.tb];exact h.tb,by rw[g.cG,g.tb];exact h.lc,by rw[g.cO,g.tb];exact h.lt,λj d tt a=>h.cG j d tt (e.1 a),λj d tt a=>h.one j d tt (e.1 a),λj d tt a p=>by rw[g.ow];exact h.ow j d tt (e.1 a) p,
  λp=>by rw[g.ow,g.runs];exact h.jR p,λp=>by rw[g.ow,g.tb];exact h.rU p,by rw[g.runs];exact h.gY,by rw[g.runs];exact h.kE,by rw[g.cO];exact h.pL,λj d tt t a b=>h.l8 j d tt t (e.1 a) (by rw[←g.cO];exact b),by rw[g.tb,g.cO];exact h.pa⟩
theorem Grown.st (h:GA A)(hw:Ow A sp){B:AR}{sp':Sp}{s size:Nat}(g:Grown A B sp sp' s size):St A B sp sp':=by
 have d:∀p,B.f p≠A.f p->s<=p/\p<s+size:=λp b=>by
  apply Classical.byContradiction;intro hn;exact b (g.o p hn).1
 refine⟨h.grown g,⟨g.l.trans (hw.l.trans g.n.symm),λp b=>?_,λp b=>?_,λp=>?_⟩,g.n,g.tb,g.room,λp j e=>?_,λp j e=>?_,λp j e=>?_⟩
 ·by_cases a:s<=p/\p<s+size
  ·rw[(g.i p a.1 a.2).2];omega
  ·rw[(g.o p a).2];rw[(g.o p a).1]at b;exact hw.own p b
 ·by_cases a:s<=p/\p<s+size
  ·rw[(g.i p a.1 a.2).2]
  ·rw[(g.o p a).2];rw[(g.o p a).1]at b;exact hw.cl p b
 ·by_cases a:s<=p/\p<s+size
  ·rw[(g.i p a.1 a.2).2];omega
  ·rw[(g.o p a).2];exact hw.le p
 ·refine(g.o p λa=>?_).2;rw[(g.i p a.1 a.2).1]at e;omega
 ·have:=d p O;rw[(g.i p this.1 this.2).1]at e;omega
 ·have:=d p O;exact⟨g.un p this.1 this.2,by have:=g.s1;omega⟩
theorem OO {n:Nat}{S:Nat->Bool}(hb:Bounded S n)(hn:n<=1024){j q m a:Nat}(hf:full S j q=true)(hm:m<=2^j)(ha:a<=2^j):Zr n S m a≠none:=by
 intro h0;have r:S (q*2^j)=true:=YL.1 hf _ (AK _ (kL j));obtain⟨i,e⟩:=UT hb r;have g:j<=i:=by
  apply Classical.byContradiction;intro hlt;exact Kc e hf rfl (AK _ (kL j)) O
 have s:=ZZ hb (ZP.1 e).1;have d:i<11:=by
  apply Classical.byContradiction;intro hge;have:2^11<=2^i:=oL O O;omega
 have p:2^j<=2^i:=oL O g;have:=Hb h0 i d O O;have b:=(Kb hb (k:=i)).2 ⟨_,rfl,e⟩;rw[this]at b;simp at b
theorem B8 (m:Nat):Kn m=16\/Kn m=32\/Kn m=64:=by
 unfold Kn;split
 ·exact .inl rfl
 ·split
  ·exact .inr (.inl rfl)
  ·exact .inr (.inr rfl)
theorem Ti {m:Nat}(h:m<=64):m<=Kn m:=by
 unfold Kn;split
 ·omega
 ·split<;>omega
theorem DD (h:GA A)(hw:Ow A sp){m a no:Nat}(h1:1<=m)(h2:m<=64)(ha:1<=a/\a<=16) :
 (dA A sp m a no=(none,A,sp)/\Zr A.n A.S m a=none/\di sp (Kn (max m a))=none) ∨
 ∃x A1 sp1,dA A sp m a no=(some x,dP A1 x m no,sp1)/\Zr A1.n A1.S m a=some x/\(A1=A/\sp1=sp\/Zr A.n A.S m a=none/\∃s,di sp (Kn (max m a))=some s/\Grown A A1 sp sp1 s (Kn (max m a))):=by
 cases ht:Zr A.n A.S m a with
 | some x=>exact .inr ⟨x,A,sp,by unfold dA;rw[ht],ht,.inl ⟨rfl,rfl⟩⟩
 | none=>
  cases hg:U3 A sp (Kn (max m a))with
  | none=>
   refine .inl ⟨by unfold dA;rw[ht,hg],rfl,?_⟩;unfold U3 at hg;split at hg
   ·assumption
   ·cases hg
  | some r=>
   obtain⟨A1,sp1⟩:=r;obtain⟨s,u,g⟩:=TO h.pg hw.l (λp b=>Classical.byContradiction λB=>hw.own p B b) (B8 _) hg;have d:Zr A1.n A1.S m a≠none:=by
    have C:=Ti (m:=max m a) O;obtain⟨_,_,⟨i,z⟩,_⟩:=U5 (by have:=B8 (max m a);omega) u;have key:∃j,Kn (max m a)=2^j:=by
     rcases B8 (max m a)with e|e|e
     ·exact⟨4,e⟩
     ·exact⟨5,e⟩
     ·exact⟨6,e⟩
    obtain⟨j,y⟩:=key;refine OO g.pg.jr g.pg.n2 (j:=j) (q:=i) (YL.2 λp b=>?_) O O;rw[g.pg.fr];rw[Qp,←y,←z]at b;rw[(g.i p b.1 b.2).1];omega
   obtain⟨x,w⟩:=Option.ne_none_iff_exists'.1 d;exact .inr ⟨x,A1,sp1,by unfold dA;rw[ht,hg];simp only;rw[w],w,.inr ⟨rfl,s,u,g⟩⟩
theorem EW (h:PG A){m a x:Nat}(hx:Zr A.n A.S m a=some x):∀p,x<=p->p<x+m->A.S p=true:=λp d b=>(kP h.jr hx).2 p d b
theorem SB (h:PG A){m a x:Nat}(h1:1<=m)(h4:m<=4)(hx:Zr A.n A.S m a=some x):x/16=(x+m-1)/16:=by
 obtain⟨j,_,b,_,d,_⟩:=Ul hx;obtain⟨q,rfl,g⟩:=(Kb h.jr).1 (List.mem_of_head? d)
 match j,b with
 | 0,b=>
  have:m=1:=by omega
  subst this;rfl
 | 1,b=>
  have:m<=2:=by omega
  simp only[Nat.pow_one]at *;omega
 | j+2,b=>
  have e:2^(j+2)=4*2^j:=by rw[Nat.pow_add];omega
  rw[e,←vL,Nat.mul_comm q 4,vL];generalize q*2^j=z;omega
theorem Ia (h:PG A){a m no:Nat}(h1:1<=m)(hn:no≠0)(hS:∀p,a<=p->p<a+m->A.S p=true):Kp A (dP A a m no):=by
 obtain⟨o,g,d,e⟩:=Cy h h1 hn hS;refine⟨rfl,rfl,rfl,e,λp b=>?_⟩;by_cases hin:a<=p/\p<a+m
 ·rw[(g p hin.1 hin.2).1]at b;omega
 ·rw[o.f p hin]at b;exact b
theorem GA.rh (h:GA A)(hk:Cl A k c ss){x:Nat}(hS:∀p,x<=p->p<x+c.aF->A.S p=true)(h1:x/16=(x+c.aF-1)/16) :
 GA {dP A x c.aF (k+1)with cG:=(dP A x c.aF (k+1)).cG.set k (il c ss x)}/\(∀s∈ss,s.st+c.aF<=x\/x+c.aF<=s.st):=by
 have r:=h.cG k c ss hk;have m:=r.pg;have z:=hk.lt;have D:=h.tb;obtain⟨o,i,pg,F⟩:=Cy h.pg m (no:=k+1) O hS;have u:∀p,x<=p->p<x+c.aF->A.ow p=0:=λp C B=>by
  have E:=(h.pg.fr p).1 (hS p C B);apply Classical.byContradiction;intro hne;have:=(h.pg.us p).2 hne;omega
 have hd:∀s∈ss,s.st+c.aF<=x\/x+c.aF<=s.st:=λs b=>by
  apply Classical.byContradiction;intro hn;have E:=u (max x s.st) O O;have:=(h.used hk b (p:=max x s.st) O O).2;omega
 refine⟨?_,hd⟩;have e:Cl (dP A x c.aF (k+1)) k c ss:=hk;refine⟨pg.same rfl rfl rfl rfl,h.tb,by show(A.cG.set k _).length=_;simp[h.lc];rfl,h.lt,λj d g a=>?_,λj d g a s b=>?_,λj d g a p=>?_,λp=>?_,λp=>?_,h.gY,h.kE,h.pL,λj d g t a w=>?_,h.pa⟩
 ·rcases Uv e a with⟨rfl,rfl,rfl⟩|⟨hne,a⟩
  ·exact D7 r hd
  ·exact h.cG j d g a
 ·rcases Uv e a with⟨rfl,rfl,rfl⟩|⟨hne,a⟩
  ·rcases VJ.1 b with rfl|b
   ·exact h1
   ·exact h.one _ _ _ hk s b
  ·exact h.one j d g a s b
 ·show(dP A x c.aF (k+1)).ow p=j+1↔_;by_cases hp:x<=p/\p<x+c.aF
  ·rw[(i p hp.1 hp.2).2];rcases Uv e a with⟨rfl,rfl,rfl⟩|⟨hne,a⟩
   ·exact⟨λ_=>⟨_,VJ.2 (.inl rfl),hp.1,hp.2⟩,λ_=>rfl⟩
   ·rw[←h.ow j d g a p,u p hp.1 hp.2];omega
  ·rw[o.ow p hp];rcases Uv e a with⟨rfl,rfl,rfl⟩|⟨hne,a⟩
   ·rw[h.ow _ _ _ hk p];constructor
    ·rintro⟨s,b,h3⟩;exact⟨s,VJ.2 (.inr b),h3⟩
    ·rintro⟨s,b,h3⟩;rcases VJ.1 b with rfl|b
     ·exact(hp h3).elim
     ·exact⟨s,b,h3⟩
   ·exact h.ow j d g a p
 ·show(dP A x c.aF (k+1)).ow p=41↔mq A.runs p;by_cases hp:x<=p/\p<x+c.aF
  ·rw[(i p hp.1 hp.2).2,←h.jR,u p hp.1 hp.2];omega
  ·rw[o.ow p hp];exact h.jR p
 ·show(dP A x c.aF (k+1)).ow p=41\/(dP A x c.aF (k+1)).ow p<=A.tb.length;by_cases hp:x<=p/\p<x+c.aF
  ·rw[(i p hp.1 hp.2).2];omega
  ·rw[o.ow p hp];exact h.rU p
 ·rcases Uv e a with⟨rfl,rfl,rfl⟩|⟨hne,a⟩
  ·intro y hy;exact(I7 r hd).2 (h.l8 _ _ _ t hk w y hy)
  ·exact h.l8 j d g t a w
theorem GA.tj (h:GA A){x m:Nat}(hm:1<=m)(hS:∀p,x<=p->p<x+m->A.S p=true):GA {dP A x m 41 with runs:=A.runs++[(x,m)]}:=by
 have y:=h.tb;obtain⟨o,e,pg,B⟩:=Cy h.pg hm (no:=41) O hS;have i:∀p,x<=p->p<x+m->A.ow p=0:=λp u w=>by
  have z:=(h.pg.fr p).1 (hS p u w);apply Classical.byContradiction;intro hne;have:=(h.pg.us p).2 hne;omega
 refine⟨pg.same rfl rfl rfl rfl,h.tb,h.lc,h.lt,h.cG,h.one,λj d tt b p=>?_,λp=>?_,λp=>?_,λr a=>?_,?_,h.pL,h.l8,h.pa⟩
 ·have b:Cl A j d tt:=b;have:=b.lt;show(dP A x m 41).ow p=j+1↔_;by_cases hp:x<=p/\p<x+m
  ·rw[(e p hp.1 hp.2).2,←h.ow j d tt b p,i p hp.1 hp.2];omega
  ·rw[o.ow p hp];exact h.ow j d tt b p
 ·show(dP A x m 41).ow p=41↔mq (A.runs++[(x,m)]) p;by_cases hp:x<=p/\p<x+m
  ·rw[(e p hp.1 hp.2).2];exact⟨λ_=>⟨(x,m),by simp,hp⟩,λ_=>rfl⟩
  ·rw[o.ow p hp,h.jR];constructor
   ·rintro⟨r,a,h3⟩;exact⟨r,by simp[a],h3⟩
   ·rintro⟨r,a,h3⟩;rcases zK.1 a with a|a
    ·exact⟨r,a,h3⟩
    ·simp only[zP]at a;subst a;exact(hp h3).elim
 ·show(dP A x m 41).ow p=41\/(dP A x m 41).ow p<=A.tb.length;by_cases hp:x<=p/\p<x+m
  ·rw[(e p hp.1 hp.2).2];omega
  ·rw[o.ow p hp];exact h.rU p
 ·rcases zK.1 a with a|a
  ·exact h.gY r a
  ·simp only[zP]at a;subst a;exact hm
 ·refine pN.2 ⟨h.kE,by simp,λr a s g=>?_⟩;simp only[zP]at g;subst g;apply Classical.byContradiction;intro hn;simp only at hn;have:=h.gY r a;have z:=i (max x r.1) O O;have:=(h.jt a (p:=max x r.1) O O).2;omega
theorem SX {l:List (Nat×Nat)}{x m:Nat}(h:∀r∈l,r.1≠x):cC.mset2 l x m=l++[(x,m)]:=by
 unfold cC.mset2;rw[zB];simp only[zy,zT,not_exists,not_and];exact h
theorem Ft (h:GA A)(hw:Ow A sp)(k:Int) :
 ((cN A sp k=(A,sp))/\Vl A sp k≠0/\(A.ck k=true->Vl A sp k=6)) ∨
 ∃(j:Nat) (c:cA) (ss:List cH) (x:Nat) (A1:AR) (sp1:Sp),k=j/\Cl A j c ss/\Cl A1 j c ss/\Vl A sp k=0/\cN A sp k=({dP A1 x c.aF (j+1)with cG:=(dP A1 x c.aF (j+1)).cG.set j (il c ss x)},sp1) ∧
  St A A1 sp sp1/\A1.runs=A.runs/\A1.cO=A.cO/\A1.cG=A.cG/\Zr A1.n A1.S c.aF 1=some x/\(∀s∈ss,s.st+c.aF<=x\/x+c.aF<=s.st)/\St A (cN A sp k).1 sp (cN A sp k).2:=by
 by_cases hck:A.ck k=true
 ·obtain⟨j,rfl,E⟩:=Hr.1 hck;obtain⟨c,ss,t,b,H⟩:=h.cl E;have F:=h.cG j c ss b;have w:=F.ok;unfold cA.ok at w;have C:=b.lt;rcases DD h hw (m:=c.aF) (a:=1) (no:=j+1) O O O with⟨hg,_⟩|⟨x,A1,sp1,hg,htk,hor⟩
  ·left;have y:Vl A sp (j:Int)=6:=by unfold Vl;rw[hck,zC rfl,dD,b.1,b.2];simp only;rw[hg]
   have G:cN A sp (j:Int)=(A,sp):=by unfold cN;rw[hck,zC rfl,dD,b.1,b.2];simp only;rw[hg]
   rw[G,y];exact⟨rfl,by simp,λ_=>rfl⟩
  ·right;have y:Vl A sp (j:Int)=GN c ss x:=by unfold Vl;rw[hck,zC rfl,dD,b.1,b.2];simp only;rw[hg]
   have u:GA A1:=by
    rcases hor with⟨rfl,rfl⟩|⟨_,s,_,g⟩
    ·exact h
    ·exact h.grown g
   have e:St A A1 sp sp1:=by
    rcases hor with⟨rfl,rfl⟩|⟨_,s,_,g⟩
    ·exact St.refl h hw
    ·exact g.st h hw
   have d:A1.runs=A.runs/\A1.cO=A.cO/\A1.cG=A.cG:=by
    rcases hor with⟨rfl,rfl⟩|⟨_,s,_,g⟩
    ·exact⟨rfl,rfl,rfl⟩
    ·exact⟨g.runs,g.cO,g.cG⟩
   have i:Cl A1 j c ss:=⟨by rw[e.tb];exact b.1,by rw[d.2.2];exact b.2⟩;have B:=EW u.pg htk;obtain⟨D,hd⟩:=u.rh i B (SB u.pg O O htk);have z:=TF hd;have p:cN A sp (j:Int)=({dP A1 x c.aF (j+1)with cG:=(dP A1 x c.aF (j+1)).cG.set j (il c ss x)},sp1):=by
    unfold cN;rw[hck,zC rfl,dD,b.1,b.2];simp only;rw[hg];simp only;rw[zC z]
   refine⟨j,c,ss,x,A1,sp1,rfl,b,i,by rw[y];exact z,p,e,d.1,d.2.1,d.2.2,htk,hd,?_⟩;rw[p];have kp:=Ia u.pg (no:=j+1) O O B;exact e.trans (St.kp D e.ow (kp.trans (Kp.aF rfl rfl rfl rfl)))
 ·left;have r:A.ck k=false:=by simpa using hck
  unfold cN Vl;rw[r];exact⟨rfl,by simp,λh=>by cases h⟩
theorem Oi (h:GA A)(hw:Ow A sp)(k:Int):St A (cN A sp k).1 sp (cN A sp k).2/\(cN A sp k).1.runs=A.runs/\(cN A sp k).1.cO=A.cO/\(∀j y,fO (cN A sp k).1 j y↔fO A j y)/\(Vl A sp k≠0->cN A sp k=(A,sp)):=by
 rcases Ft h hw k with⟨e,_⟩|⟨j,c,ss,x,A1,sp1,rfl,hk,hk1,hE,e,hst,r1,r2,r3,_,hd,hS⟩
 ·rw[e];exact⟨St.refl h hw,rfl,rfl,λ_ _=>Iff.rfl,λ_=>rfl⟩
 ·refine⟨hS,by rw[e];exact r1,by rw[e];exact r2,λi y=>?_,λd=>(d hE).elim⟩;rw[e];have b:Cl (dP A1 x c.aF (j+1)) j c ss:=hk1;rw[Ab b,I7 (h.cG j c ss hk) hd];have e2:fO (dP A1 x c.aF (j+1)) i y↔fO A i y:=by
   have:(dP A1 x c.aF (j+1)).tb=A.tb/\(dP A1 x c.aF (j+1)).cG=A.cG:=⟨hst.tb,r3⟩;unfold fO Cl;rw[this.1,this.2]
  rw[e2];by_cases hij:i=j
  ·subst hij;rw[Vv hk];exact⟨λa=>by rcases a with⟨_,a⟩|⟨a,_⟩;exact a;exact(a rfl).elim,λa=>.inl ⟨rfl,a⟩⟩
  ·exact⟨λa=>by rcases a with⟨a,_⟩|⟨_,a⟩;exact(hij a).elim;exact a,λa=>.inr ⟨hij,a⟩⟩
theorem Pn {m a:Int}(h:Kz m a=true):∃x y:Nat,m=x/\a=y/\1<=x/\x<=64/\(y=1\/y=2\/y=4\/y=8\/y=16):=by
 unfold Kz at h;simp only[zE,zU,nr,zT]at h;exact⟨m.toNat,a.toNat,O,O,O,O,O⟩
theorem Ls (h:GA A)(hw:Ow A sp)(m a:Int) :
 (cC A sp m a=(A,sp)/\QJ A sp m a≠0/\(Kz m a=true->QJ A sp m a=6/\Zr A.n A.S m.toNat a.toNat=none/\di sp (Kn (max m.toNat a.toNat))=none)) ∨
 ∃(x:Nat) (A1:AR) (sp1:Sp),Kz m a=true/\QJ A sp m a=0/\Qh A sp m a=x/\cC A sp m a=({dP A1 x m.toNat 41 with runs:=A.runs++[(x,m.toNat)]},sp1) ∧
  Zr A1.n A1.S m.toNat a.toNat=some x/\(A1=A/\sp1=sp\/Zr A.n A.S m.toNat a.toNat=none/\∃s,di sp (Kn (max m.toNat a.toNat))=some s/\Grown A A1 sp sp1 s (Kn (max m.toNat a.toNat))) ∧
  St A (cC A sp m a).1 sp (cC A sp m a).2/\(cC A sp m a).1.cO=A.cO/\(∀j y,fO (cC A sp m a).1 j y↔fO A j y):=by
 by_cases hp:Kz m a=true
 ·obtain⟨b,w,rfl,rfl,L,M,Q⟩:=Pn hp;have G:QJ A sp (b:Int) (w:Int)=if(dA A sp b w 41).1.isSome then 0 else 6:=by unfold QJ;rw[zC hp,dD,dD]
  have H:Qh A sp (b:Int) (w:Int)=(dA A sp b w 41).1.getD 0:=by unfold Qh;rw[zC hp,dD,dD]
  rcases DD h hw (m:=b) (a:=w) (no:=41) L M O with⟨hg,hn1,hn2⟩|⟨x,A1,sp1,hg,htk,hor⟩
  ·left;have N:cC A sp (b:Int) (w:Int)=(A,sp):=by unfold cC;rw[zC hp,dD,dD,hg]
   rw[N,G,hg,dD,dD];exact⟨rfl,by simp,λ_=>⟨rfl,hn1,hn2⟩⟩
  ·right;have z:GA A1:=by
    rcases hor with⟨rfl,rfl⟩|⟨_,s,_,g⟩
    ·exact h
    ·exact h.grown g
   have u:St A A1 sp sp1:=by
    rcases hor with⟨rfl,rfl⟩|⟨_,s,_,g⟩
    ·exact St.refl h hw
    ·exact g.st h hw
   have d:A1.runs=A.runs/\A1.cO=A.cO/\A1.cG=A.cG:=by
    rcases hor with⟨rfl,rfl⟩|⟨_,s,_,g⟩
    ·exact⟨rfl,rfl,rfl⟩
    ·exact⟨g.runs,g.cO,g.cG⟩
   have D:=EW z.pg htk;have C:∀r∈A.runs,r.1≠x:=λr K e=>by
    have B:r∈A1.runs:=by rw[d.1];exact K
    have:=z.gY r B;have R:=(z.jt B (p:=x) O O).1;have P:=(z.pg.fr x).1 (D x O O);omega
   have i:cC A sp (b:Int) (w:Int)=({dP A1 x b 41 with runs:=A.runs++[(x,b)]},sp1):=by
    unfold cC;rw[zC hp,dD,dD,hg];show({dP A1 x b 41 with runs:=cC.mset2 A1.runs x b},sp1)=_;rw[d.1,SX C]
   have F:=z.tj O D;rw[d.1]at F;have kp:=Ia z.pg (no:=41) O O D;refine⟨x,A1,sp1,hp,by rw[G,hg];rfl,by rw[H,hg];rfl,by rw[dD];exact i,by rw[dD,dD];exact htk,by rw[dD,dD];exact hor,?_,by rw[i];exact d.2.1,λj y=>?_⟩
   ·rw[i];exact u.trans (St.kp F u.ow (kp.trans (Kp.aF rfl rfl rfl rfl)))
   ·rw[i];have e1:({dP A1 x b 41 with runs:=A.runs++[(x,b)]}:AR).tb=A.tb:=u.tb;have e2:({dP A1 x b 41 with runs:=A.runs++[(x,b)]}:AR).cG=A.cG:=d.2.2;unfold fO Cl;rw[e1,e2]
 ·left;have E:Kz m a=false:=by simpa using hp
  unfold cC QJ;rw[E];exact⟨rfl,by simp,λJ=>by cases J⟩
theorem Ly {x:Int}{r:Nat×Nat}(h:pO A x=some r):r∈A.runs/\x=(r.1:Int):=by
 unfold pO at h;exact⟨s7 h,by have:=tK h;simpa using Eq.symm (by simpa using this)⟩
theorem J5 (h:GA A)(x:Int):(Kp A (QT A x)/\GA (QT A x))/\(QT A x).cO=A.cO/\(∀j y,fO (QT A x) j y↔fO A j y)/\(Vp A x≠0->QT A x=A) ∧
 (Vp A x=0->∃r∈A.runs,x=(r.1:Int)/\(QT A x).runs=A.runs.filter λq=>!(q==r)):=by
 cases hr:pO A x with
 | none=>
  have e:QT A x=A:=by unfold QT;rw[hr]
  have E:Vp A x=8:=by unfold Vp;rw[hr];rfl
  rw[e,E];exact⟨⟨Kp.refl A,h⟩,rfl,λ_ _=>Iff.rfl,λ_=>rfl,λi=>by cases i⟩
 | some r=>
  obtain⟨b,i⟩:=Ly hr;have w:=h.gY r b;have u:A.runs.filter (λq=>!((q.1:Int)==x))=A.runs.filter λq=>!(q==r):=by
   apply vS;intro q g;have:((q.1:Int)==x)=(q==r):=by
    rw[kT];simp only[zT];constructor
    ·intro e;have J:=h.gY q g;exact h.gW g b (x:=q.1) O O O O
    ·rintro rfl;exact i.symm
   rw[this]
  have e:QT A x=V8 {A with runs:=A.runs.filter λq=>!(q==r)} r:=by unfold QT;rw[hr];simp only;rw[u]
  have E:Vp A x=0:=by unfold Vp;rw[hr];rfl
  obtain⟨a,m⟩:=r;obtain⟨o,B,pg,G⟩:=DG (A:={A with runs:=A.runs.filter λq=>!(q==(a,m))}) (h.pg.same rfl rfl rfl rfl) w (λp F D=>(h.jt b F D).1);have own:∀p,a<=p->p<a+m->A.ow p=41:=λp F D=>(h.jt b F D).2;have H:=h.tb;rw[e,E];refine⟨⟨⟨rfl,rfl,rfl,G,λp C=>?_⟩,?_⟩,rfl,λ_ _=>Iff.rfl,λi=>(i rfl).elim,λ_=>⟨_,b,i,rfl⟩⟩
  ·by_cases hin:a<=p/\p<a+m
   ·rw[(B p hin.1 hin.2).1]at C;omega
   ·rw[o.f p hin]at C;exact C
  ·refine⟨pg,h.tb,h.lc,h.lt,h.cG,h.one,λj d tt s p=>?_,λp=>?_,λp=>?_,λq g=>h.gY q (zI.1 g).1,h.kE.filter _,h.pL,h.l8,h.pa⟩
   ·have s:Cl A j d tt:=s;have:=s.lt;by_cases hin:a<=p/\p<a+m
    ·rw[(B p hin.1 hin.2).2,←h.ow j d tt s p,own p hin.1 hin.2];omega
    ·rw[o.ow p hin];exact h.ow j d tt s p
   ·show _↔mq (A.runs.filter λq=>!(q==(a,m))) p;by_cases hin:a<=p/\p<a+m
    ·rw[(B p hin.1 hin.2).2];constructor
     ·intro i;omega
     ·rintro⟨q,g,q1,q2⟩;have z:=zI.1 g;have:=h.gW z.1 b q1 q2 hin.1 hin.2;subst this;simp at z
    ·rw[o.ow p hin];show A.ow p=41↔_;rw[h.jR];constructor
     ·rintro⟨q,g,q1⟩;refine⟨q,zI.2 ⟨g,?_⟩,q1⟩;have:q≠(a,m):=by rintro rfl;exact hin q1
      simpa using this
     ·rintro⟨q,g,q1⟩;exact⟨q,(zI.1 g).1,q1⟩
   ·by_cases hin:a<=p/\p<a+m
    ·rw[(B p hin.1 hin.2).2];omega
    ·rw[o.ow p hin];exact h.rU p
theorem BE (k:Nat):∀(outs:List (List Int)) {A:AR},GA A->outs.flatten.Nodup->(∀x∈outs.flatten,fO A k x/\¬hO A k x) →
 Ob A (outs.foldl (λA' xs=>ZN A' (k:Int) xs) A)/\(outs.foldl (λA' xs=>ZN A' (k:Int) xs) A).cO=A.cO/\∀j y,fO (outs.foldl (λA' xs=>ZN A' (k:Int) xs) A) j y↔fO A j y/\¬(j=k/\y∈outs.flatten)
 | [],A,h,_,_=>⟨⟨h,Kp.refl A,rfl⟩,rfl,by simp⟩
 | xs::outs,A,h,hn,ht=>by
  rw[vu]at hn ht;have hn':=nT.1 hn;have p:∀x∈xs,fO A k x/\¬hO A k x:=λx i=>ht x (kC _ i);rw[qv];cases xs with
  | nil=>
   have u:ZN A (k:Int) []=A\/Kd A (k:Int) []=0:=by
    by_cases w:Kd A (k:Int) []=0
    ·exact .inr w
    ·exact .inl (by unfold ZN;rw[zB w])
   obtain⟨o,e,t,_⟩:=BL h (k:=(k:Int)) (xs:=[]) (λ_=>by simp);have s:∀j y,fO (ZN A (k:Int) []) j y↔fO A j y:=λj y=>by
    rcases u with u|u
    ·rw[u]
    ·rw[t u];simp
   have m:∀j y,hO (ZN A (k:Int) []) j y↔hO A j y:=λj y=>by unfold hO;rw[e]
   obtain⟨o2,e2,z⟩:=BE k outs o.ga hn'.2.1 λx i=>by rw[s,m];exact ht x (nZ _ i)
   exact⟨⟨o2.ga,o.kp.trans o2.kp,o2.runs.trans o.runs⟩,e2.trans e,λj y=>by rw[z,s];simp⟩
  | cons x0 xs=>
   obtain⟨c,C,B,_⟩:=(p x0 aA).1;have w:Kd A (k:Int) (x0::xs)=0:=by
    rw[Ga h B];exact DL ⟨λx i=>(Vv B).1 (p x i).1,hn'.1⟩
   obtain⟨o,e,t,_⟩:=BL h (k:=(k:Int)) (xs:=x0::xs) (λ_ x i=>by rw[dD];exact(p x i).2);have s:=t w;have m:∀j y,hO (ZN A (k:Int) (x0::xs)) j y↔hO A j y:=λj y=>by unfold hO;rw[e]
   obtain⟨o2,e2,z⟩:=BE k outs o.ga hn'.2.1 λx i=>by
    rw[s,m];have:=ht x (nZ _ i);exact⟨⟨this.1,λg=>hn'.2.2 x g.2 x i rfl⟩,this.2⟩
   refine⟨⟨o2.ga,o.kp.trans o2.kp,o2.runs.trans o.runs⟩,e2.trans e,λj y=>?_⟩;rw[z,s,dD,vu,zK];constructor
   ·rintro⟨⟨a,b⟩,d⟩;refine⟨a,λ⟨r,g⟩=>?_⟩;rcases g with g|g
    ·exact b ⟨r,g⟩
    ·exact d ⟨r,g⟩
   ·rintro⟨a,b⟩;exact⟨⟨a,λ⟨r,g⟩=>b ⟨r,.inl g⟩⟩,λ⟨r,g⟩=>b ⟨r,.inr g⟩⟩
structure tY (A B:AR):Prop where
 ob:Ob A B
 sub:∀j y,hO B j y->hO A j y
 tk:∀j y,fO B j y↔fO A j y/\(hO A j y->hO B j y)
theorem tY.trans {B C:AR}(h:tY A B)(k:tY B C):tY A C:=
 ⟨⟨k.ob.ga,h.ob.kp.trans k.ob.kp,k.ob.runs.trans h.ob.runs⟩,λj y g=>h.sub j y (k.sub j y g),λj y=>by
  rw[k.tk,h.tk];exact⟨λ⟨⟨a,b⟩,d⟩=>⟨a,λe=>d (b e)⟩,λ⟨a,b⟩=>⟨⟨a,λe=>k.sub j y (b e)⟩,λe=>b (h.sub j y e)⟩⟩⟩
theorem NV (h:GA A)(hk:k<A.tb.length):tY A (uQ A k):=by
 obtain⟨c,F,t,D,m⟩:=h.cl hk;have p:k<A.cO.length:=by rw[h.lt];exact hk
 have e:uQ A k=t.out.foldl (λA' w=>ZN A' (k:Int) w) {A with cO:=A.cO.set k t.tick}:=by unfold uQ;rw[m]
 have z:t.bs=t.out++t.tick.bs:=(oa ((t.low+1)/2) t.bs).symm;have i:t.bs.flatten=t.out.flatten++t.tick.bs.flatten:=by conv=>lhs;rw[z];rw[List.flatten_append]
 have r:=h.pL k t m;rw[i]at r;have g:=nT.1 r;have s:∀x∈t.bs.flatten,fO A k x:=λx d=>(Vv D).2 (h.l8 k c F t D m x d);have G:GA {A with cO:=A.cO.set k t.tick}:=h.j5 g.2.1 (λx d=>s x (by rw[i];exact nZ _ d)) λH B w C=>h.pa k H t B m w (t.pz w C);obtain⟨o,e2,E⟩:=BE k t.out G g.1 λx d=>by
  refine⟨s x (by rw[i];exact kC _ d),?_⟩;rw[Aj p];rintro(⟨_,hy⟩|⟨hy,_⟩)
  ·exact g.2.2 x d x hy rfl
  ·exact hy rfl
 rw[←e]at o e2 E;have u:∀j y,hO (uQ A k) j y↔(j=k/\y∈t.tick.bs.flatten)\/(j≠k/\hO A j y):=λj y=>by
  rw[←Aj p];unfold hO;rw[e2]
 refine⟨⟨o.ga,(Kp.aF rfl rfl rfl rfl:Kp A {A with cO:=A.cO.set k t.tick}).trans o.kp,o.runs⟩,λj y d=>?_,λj y=>?_⟩
 ·rcases(u j y).1 d with⟨rfl,hy⟩|⟨_,hy⟩
  ·rw[Gi m,i];exact nZ _ hy
  ·exact hy
 ·rw[E,u];show fO A j y/\_↔_;by_cases hjk:j=k
  ·subst hjk;rw[Gi m,i,zK];constructor
   ·rintro⟨a,b⟩;refine⟨a,λd=>?_⟩;rcases d with d|d
    ·exact(b ⟨rfl,d⟩).elim
    ·exact .inl ⟨rfl,d⟩
   ·rintro⟨a,b⟩;refine⟨a,λ⟨_,d⟩=>?_⟩;rcases b (.inl d)with⟨_,hy⟩|⟨hy,_⟩
    ·exact g.2.2 y d y hy rfl
    ·exact hy rfl
  ·exact⟨λ⟨a,_⟩=>⟨a,λd=>.inr ⟨hjk,d⟩⟩,λ⟨a,_⟩=>⟨a,λ⟨d,_⟩=>hjk d⟩⟩
theorem Iz (h:GA A):∀m,m<=A.tb.length->tY A ((List.range m).foldl uQ A)
 | 0,_=>⟨⟨h,Kp.refl A,rfl⟩,λ_ _=>id,λ_ _=>⟨λa=>⟨a,id⟩,λa=>a.1⟩⟩
 | m+1,hm=>by
  have t:=Iz h m O;rw[pZ,vt,qv,List.foldl_nil];exact t.trans (NV t.ob.ga (by rw[t.ob.kp.tb];omega))
theorem SR (h:GA A):tY A (r6 A):=Iz h _ (by rw[h.lt];exact zD _)
end Go.Ar
namespace Go.Ar
open Go.Bu (Zt Q0 Zr pV VG dE take KI Ve Bounded)
variable {A:AR}{sp:Sp}{k:Nat}{c:cA}{ss:List cH}
end Go.Ar
namespace Go.Ar
structure Pc where
 k:Nat
 cls:Int
 addr:Nat
 size:Nat
 eN:Bool
 deriving DecidableEq
structure Wd where
 tb:List cA
 sp:Sp
 bY:List AR
 held:List Pc
structure Act where
 kd:Int
 ar:Int
 cl:Int
 a:Int
 b:Int
 l:List Int
abbrev Key:=Nat×Int×Nat
def Pc.key (p:Pc):Key:=(p.k,p.cls,p.addr)
def lM (k:Nat)(cls x:Int)(p:Pc):Bool:=p.k==k&&(p.cls==cls&&((p.addr:Int)==x && !p.eN))
def u7 (held:List Pc)(k:Nat)(cls x:Int):Option Nat:=held.findIdx? (lM k cls x)
def jh (held:List Pc)(k:Nat)(cls:Int)(l:List Int):Bool:=l.all (λx=>(u7 held k cls x).isSome)&&decide l.Nodup
def lX (k:Nat)(cls:Int)(held:List Pc)(x:Int):List Pc:=match u7 held k cls x with
 | some i=>held.take i++held.drop (i+1)
 | none=>held
def vO (held:List Pc)(k:Nat)(cls:Int)(l:List Int):List Pc:=l.foldl (lX k cls) held
def dX (k:Nat)(cls:Int)(l:List Int)(p:Pc):Bool:=p.k==k&&(p.cls==cls&&l.contains (p.addr:Int))
def Gr (held:List Pc)(k:Nat)(cls:Int)(l:List Int)(m:Bool):List Pc:=held.map λp=>if dX k cls l p then{p with eN:=m}else p
def DO (held:List Pc)(x:Int):Bool:=held.any λp=>decide ((p.addr:Int)<=x)&&decide (x-(p.addr:Int)<(p.size:Int))
def Aa (us:List AR)(held:List Pc):List Pc:=held.filter λp=>!p.eN||(match us[p.k]? with
 | some A=>wQ A (p.addr:Int)
 | none=>false)
def pv (tb:List cA)(k:Int):Nat:=((tb[k.toNat]?).map (·.size)).getD 0
def Wd.put (W:Wd)(k:Nat)(A:AR)(sp:Sp)(held:List Pc):Wd:={W with sp:=sp,bY:=W.bY.set k A,held:=held}
def Hd (A:AR)(p:Pc):Prop:=(p.cls = -1/\p.eN=false/\∃r∈A.runs,p.addr=r.1*256/\p.size=r.2*256) ∨
 ∃(j:Nat) (c:cA),p.cls=j/\A.tb[j]?=some c/\p.size=c.size/\fO A j (p.addr:Int)/\(p.eN=true↔hO A j (p.addr:Int))
structure WI (W:Wd):Prop where
 ga:∀(k:Nat) (A:AR),W.bY[k]?=some A->GA A
 ow:∀(k:Nat) (A:AR),W.bY[k]?=some A->Ow A W.sp
 tb:∀(k:Nat) (A:AR),W.bY[k]?=some A->A.tb=W.tb
 low:∀(k:Nat) (A:AR),W.bY[k]?=some A->∀p,p<16->A.f p=0
 own:∀p,gf W.sp.st p≠0->∃(k:Nat) (A:AR),W.bY[k]?=some A/\A.f p≠0
 one:∀p (k l:Nat) (A B:AR),W.bY[k]?=some A->W.bY[l]?=some B->A.f p≠0->B.f p≠0->k=l
 hk:(W.held.map Pc.key).Nodup
 hf:∀p∈W.held,∃A,W.bY[p.k]?=some A/\Hd A p
 ht:∀(k:Nat) (A:AR),W.bY[k]?=some A->∀(j:Nat) (y:Int),fO A j y->∃p∈W.held,p.k=k/\p.cls=j/\(p.addr:Int)=y
 hr:∀(k:Nat) (A:AR),W.bY[k]?=some A->∀r∈A.runs,∃p∈W.held,p.k=k/\p.cls = -1/\p.addr=r.1*256
variable {W:Wd}{k:Nat}{A:AR}
theorem Vz {α:Type}{l:List α}{k j:Nat}{x y:α}(h:(l.set k x)[j]?=some y):(j=k/\y=x/\k<l.length)\/(j≠k/\l[j]?=some y):=by
 by_cases hjk:j=k
 ·subst hjk;have a:j<l.length:=by have:=(cZ.1 h).1;simpa using this
  rw[zN a]at h;exact .inl ⟨rfl,(Option.some.inj h).symm,a⟩
 ·rw[zg (Ne.symm hjk)]at h;exact .inr ⟨hjk,h⟩
theorem WI.unique (h:WI W){p q:Pc}(hp:p∈W.held)(hq:q∈W.held)(e:p.key=q.key):p=q:=by
 obtain⟨i,d⟩:=zO hp;obtain⟨j,g⟩:=zO hq;obtain⟨b,rfl⟩:=cZ.1 d;obtain⟨a,rfl⟩:=cZ.1 g;have:=mg.1 h.hk;rcases qi i j with hl|hl|hl
 ·exact(this i j (by simpa using b) (by simpa using a) hl (by simpa using e)).elim
 ·subst hl;rfl
 ·exact(this j i (by simpa using a) (by simpa using b) hl (by simpa using e.symm)).elim
theorem WI.step (h:WI W)(hk:W.bY[k]?=some A){B:AR}{sp':Sp}{held':List Pc}(s:St A B W.sp sp')(h1:(held'.map Pc.key).Nodup)(h2:∀p∈held',p.k=k->Hd B p)(h3:∀p,p.k≠k->(p∈held'↔p∈W.held))
 (h4:∀(j:Nat) (y:Int),fO B j y->∃p∈held',p.k=k/\p.cls=j/\(p.addr:Int)=y) (h5:∀r∈B.runs,∃p∈held',p.k=k/\p.cls = -1/\p.addr=r.1*256):WI (W.put k B sp' held'):=by
 have E:=(cZ.1 hk).1;have m:(W.bY.set k B)[k]?=some B:=zN E;have H:∀{j:Nat} {C:AR},j≠k->W.bY[j]?=some C->(W.bY.set k B)[j]?=some C:=λa e=>(zg (Ne.symm a)).trans e;have g:∀{j:Nat} {C:AR},j≠k->W.bY[j]?=some C->∀p,C.f p≠0->A.f p=0/\B.f p=0/\gf sp'.st p=gf W.sp.st p:=by
  intro j C a e p b;have u:A.f p=0:=Classical.byContradiction λx=>a (h.one p j k C A e hk b x);have w:B.f p=0:=Classical.byContradiction λx=>by
   have:=(s.new p u x).1;exact(h.ow j C e).own p b this
  exact⟨u,w,s.same p u w⟩
 refine⟨λj C a=>?_,λj C a=>?_,λj C a=>?_,λj C a p b=>?_,λp b=>?_,λp j l C D a J e z=>?_,h1,λp b=>?_,λj C a i y G=>?_,λj C a r hr=>?_⟩
 ·rcases Vz a with⟨rfl,rfl,_⟩|⟨_,a⟩
  ·exact s.ga
  ·exact h.ga j C a
 ·rcases Vz a with⟨rfl,rfl,_⟩|⟨d,a⟩
  ·exact s.ow
  ·have o:=h.ow j C a;have K:=h.ow k A hk;refine⟨?_,λp b=>?_,λp b=>?_,s.ow.le⟩
   ·show sp'.st.length=C.n;rw[s.ow.l,s.n,←K.l,o.l]
   ·show gf sp'.st p≠0;rw[(g d a p b).2.2];exact o.own p b
   ·show gf sp'.st p=1;rw[(g d a p O).2.2];exact o.cl p b
 ·rcases Vz a with⟨rfl,rfl,_⟩|⟨_,a⟩
  ·exact s.tb.trans (h.tb _ A hk)
  ·exact h.tb j C a
 ·rcases Vz a with⟨rfl,rfl,_⟩|⟨_,a⟩
  ·apply Classical.byContradiction;intro x;have:=s.new p (h.low _ A hk p b) x;omega
  ·exact h.low j C a p b
 ·have b:gf sp'.st p≠0:=b;by_cases w:B.f p=0
  ·by_cases u:A.f p=0
   ·rw[s.same p u w]at b;obtain⟨j,C,a,e⟩:=h.own p b;have d:j≠k:=by
     rintro rfl;rw[hk]at a;cases a;exact e u
    exact⟨j,C,H d a,e⟩
   ·exact(b (s.gone p u w)).elim
  ·exact⟨k,B,m,w⟩
 ·rcases Vz a with⟨rfl,rfl,_⟩|⟨d,hj'⟩
  ·rcases Vz J with⟨rfl,rfl,_⟩|⟨hne2,hl'⟩
   ·rfl
   ·exact(e (g hne2 hl' p z).2.1).elim
  ·rcases Vz J with⟨rfl,rfl,_⟩|⟨hne2,hl'⟩
   ·exact(z (g d hj' p e).2.1).elim
   ·exact h.one p j l C D hj' hl' e z
 ·by_cases hpk:p.k=k
  ·exact⟨B,by rw[hpk];exact m,h2 p b hpk⟩
  ·obtain⟨C,e,L⟩:=h.hf p ((h3 p hpk).1 b);exact⟨C,H hpk e,L⟩
 ·rcases Vz a with⟨rfl,rfl,_⟩|⟨d,a⟩
  ·exact h4 i y G
  ·obtain⟨p,b,e1,e2,F⟩:=h.ht j C a i y G;exact⟨p,(h3 p (by rw[e1];exact d)).2 b,e1,e2,F⟩
 ·rcases Vz a with⟨rfl,rfl,_⟩|⟨d,a⟩
  ·exact h5 r hr
  ·obtain⟨p,b,e1,e2,F⟩:=h.hr j C a r hr;exact⟨p,(h3 p (by rw[e1];exact d)).2 b,e1,e2,F⟩
theorem Hd.to {B:AR}{p:Pc}(h:Hd A p)(e1:B.tb=A.tb)(e2:B.runs=A.runs)(e3:∀j y,fO A j y->fO B j y)(e4:∀j y,hO B j y↔hO A j y):Hd B p:=by
 rcases h with⟨h1,h2,r,hr,h3⟩|⟨j,c,h1,h2,h3,h4,h5⟩
 ·exact .inl ⟨h1,h2,r,by rw[e2];exact hr,h3⟩
 ·exact .inr ⟨j,c,h1,by rw[e1];exact h2,h3,e3 _ _ h4,by rw[e4];exact h5⟩
theorem WI.hd (h:WI W)(hk:W.bY[k]?=some A){p:Pc}(hp:p∈W.held)(e:p.k=k):Hd A p:=by
 obtain⟨C,a,b⟩:=h.hf p hp;rw[e,hk]at a;cases a;exact b
theorem WI.lJ (h:WI W)(hk:W.bY[k]?=some A){B:AR}{sp':Sp}(s:St A B W.sp sp')(e2:B.runs=A.runs)(e3:∀j y,fO B j y↔fO A j y)(e4:B.cO=A.cO):WI (W.put k B sp' W.held):=
 h.step hk s h.hk (λp a e=>(h.hd hk a e).to s.tb e2 (λj y=>(e3 j y).2) λj y=>by unfold hO;rw[e4]) (λ_ _=>Iff.rfl) (λj y b=>h.ht k A hk j y ((e3 j y).1 b)) λr hr=>h.hr k A hk r (by rw[←e2];exact hr)
theorem WI.cls (h:WI W){p:Pc}(hp:p∈W.held){j:Nat}(e:p.cls=j)(hk:W.bY[p.k]?=some A):∃c,A.tb[j]?=some c/\p.size=c.size/\fO A j (p.addr:Int)/\(p.eN=true↔hO A j (p.addr:Int)):=by
 rcases h.hd hk hp rfl with⟨h1,_⟩|⟨i,c,h1,h2,h3,h4,h5⟩
 ·omega
 ·obtain rfl:i=j:=by omega
  exact⟨c,h2,h3,h4,h5⟩
theorem WI.run (h:WI W){p:Pc}(hp:p∈W.held)(e:p.cls = -1)(hk:W.bY[p.k]?=some A):p.eN=false/\∃r∈A.runs,p.addr=r.1*256/\p.size=r.2*256:=by
 rcases h.hd hk hp rfl with⟨_,h2⟩|⟨i,c,h1,_⟩
 ·exact h2
 ·omega
theorem KZ {k:Nat}{cls x:Int}{p:Pc}:lM k cls x p=true↔p.k=k/\p.cls=cls/\(p.addr:Int)=x/\p.eN=false:=by
 simp[lM]
theorem Qe {k:Nat}{cls:Int}{l:List Int}{p:Pc}:dX k cls l p=true↔p.k=k/\p.cls=cls/\(p.addr:Int)∈l:=by
 simp[dX]
theorem OC {held:List Pc}{k:Nat}{cls x:Int}{i:Nat}(h:u7 held k cls x=some i):∃p,held[i]?=some p/\lM k cls x p=true:=by
 obtain⟨b,a,_⟩:=nG.1 h;exact⟨held[i],cX b,a⟩
theorem LO {held:List Pc}{k:Nat}{cls x:Int}{p:Pc}(hp:p∈held)(h:lM k cls x p=true):(u7 held k cls x).isSome=true:=by
 unfold u7;rw[List.findIdx?_isSome,zy];exact⟨p,hp,h⟩
theorem K0 {held:List Pc}{k:Nat}{cls:Int}{l:List Int}:jh held k cls l=true↔(∀x∈l,∃p∈held,lM k cls x p=true)/\l.Nodup:=by
 unfold jh;rw[zE,kf,zU];refine and_congr_left λ_=>forall_congr' λx=>imp_congr_right λa=>?_;unfold u7;rw[List.findIdx?_isSome,zy]
theorem LP {held:List Pc}(hn:(held.map Pc.key).Nodup){i:Nat}{p:Pc}(hi:held[i]?=some p):held.take i++held.drop (i+1)=held.filter λq=>!(q.key==p.key):=by
 induction held generalizing i with
 | nil=>simp at hi
 | cons q l ih=>
  rw[zS,zt]at hn;cases i with
  | zero=>
   simp only[yY,Option.some.injEq]at hi;subst hi;have:l.filter (λr=>!(r.key==q.key))=l:=by
    rw[qW];intro r hr;have:r.key≠q.key:=λe=>hn.1 (zF.2 ⟨r,hr,e⟩);simpa using this
   simp[this]
  | succ i=>
   have hi:l[i]?=some p:=by simpa using hi
   have a:q.key≠p.key:=λe=>hn.1 (zF.2 ⟨p,zG hi,e.symm⟩);rw[yd,uM,lp,ih hn.2 hi,tM];have:(!(q.key==p.key))=true:=by simpa using a
   rw[this];rfl
theorem Uf {held:List Pc}(hn:(held.map Pc.key).Nodup)(f:Pc->Bool):((held.filter f).map Pc.key).Nodup:=hn.sublist (List.filter_sublist.map _)
theorem Fg {k:Nat}{cls:Int}:∀(l:List Int) {held:List Pc},(held.map Pc.key).Nodup->(∀x∈l,∃p∈held,lM k cls x p=true)->l.Nodup->vO held k cls l=held.filter λp=>!dX k cls l p
 | [],held,_,_,_=>by
  have:∀p,dX k cls [] p=false:=λp=>by simp[dX]
  exact(qW.2 λp _=>by rw[this];rfl).symm
 | x::l,held,hn,ho,hl=>by
  obtain⟨p,A,B⟩:=ho x aA;obtain⟨i,s⟩:=oA.1 (LO A B);obtain⟨q,C,j⟩:=OC s;have d:=zt.1 hl;have e1:lX k cls held x=held.filter λr=>!(r.key==q.key):=by unfold lX;rw[s];exact LP hn C
  obtain⟨q1,q2,q3,q4⟩:=KZ.1 j;have w:=Fg l (held:=held.filter λr=>!(r.key==q.key)) (Uf hn _) (λy m=>by
   obtain⟨r,u,g⟩:=ho y (by simp[m]);refine⟨r,zI.2 ⟨u,?_⟩,g⟩;have:r.key≠q.key:=λe=>by
    have D:r.addr=q.addr:=congrArg (λz:Key=>z.2.2) e;have:=(KZ.1 g).2.2.1;have:y=x:=by omega
    subst this;exact d.1 m
   simpa using this) d.2
  unfold vO at w ⊢;rw[qv,e1,w,Dp];apply vS;intro r u;have e:(r.key==q.key)=(r.k==k&&(r.cls==cls&&(r.addr:Int)==x)):=by
   rw[kT];simp only[Pc.key,zT,zE,Prod.mk.injEq];constructor
   ·rintro⟨a,b,c⟩;exact⟨O,O,O⟩
   ·rintro⟨a,b,c⟩;exact⟨O,O,O⟩
  rw[e];unfold dX;rw[List.contains_cons];cases r.k==k<;>cases r.cls==cls<;>cases((r.addr:Int)==x)<;>cases l.contains (r.addr:Int)<;>rfl
theorem Q1 {held:List Pc}{k:Nat}{cls:Int}{l:List Int}{m:Bool}{p:Pc}:p∈Gr held k cls l m↔∃q∈held,p=if dX k cls l q then{q with eN:=m}else q:=by
 unfold Gr;rw[zF];constructor
 ·rintro⟨q,hq,rfl⟩;exact⟨q,hq,rfl⟩
 ·rintro⟨q,hq,rfl⟩;exact⟨q,hq,rfl⟩
theorem Nj {held:List Pc}{k:Nat}{cls:Int}{l:List Int}{m:Bool}:(Gr held k cls l m).map Pc.key=held.map Pc.key:=by
 unfold Gr;rw[lB];apply ke;intro p _;simp only[Function.comp];split<;>rfl
theorem G6 (hk:W.bY[k]?=some A)(h:WI W):WI (W.put k A W.sp W.held):=h.lJ hk (St.refl (h.ga k A hk) (h.ow k A hk)) rfl (λ_ _=>Iff.rfl) rfl
theorem Nq (h:GA A){j:Nat}{c:cA}{ss:List cH}(hc:Cl A j c ss){l:Nat}{s:cH}{i:Nat}(hs:ss[l]?=some s)(hi:i<c.n){x:Nat}(h1:at_ c s i<=x)(h2:x<at_ c s i+c.size):U7 A (x:Int)=some ((j:Int),at_ c s i):=by
 have b:=h.cG j c ss hc;have a:=HY b.pos hi h1 h2;have d:=h.used hc (zG hs) a.1 a.2;have m:=h.pg.lt (p:=x/256) (by rw[d.1];omega);have r:=h.pg.n2;have g:=hc.lt;have e:=h.tb;unfold U7;rw[zB O,dD];simp only;rw[zC (show x/256<1024 by omega),d.2,zB O,zB O,Nat.add_sub_cancel,hc.1,hc.2];simp only;rw[(Is b).2 ⟨l,s,i,hs,hi,rfl,O,O⟩];rfl
theorem F0 (h:GA A){r:Nat×Nat}(hr:r∈A.runs){x:Nat}(h1:r.1*256<=x)(h2:x<(r.1+r.2)*256):U7 A (x:Int)=some (-1,r.1*256):=by
 have a:=h.jt hr (p:=x/256) O O;have b:=h.pg.lt (p:=x/256) (by rw[a.1];omega);have d:=h.pg.n2;unfold U7;rw[zB O,dD];simp only;rw[zC (show x/256<1024 by omega),a.2,zB O,zC rfl,CJ h.oY hr O O];rfl
theorem RA (h:GA A){x:Int}{k:Int}{a:Nat}(hf:U7 A x=some (k,a)):(k = -1/\∃r∈A.runs,a=r.1*256/\((r.1*256:Nat):Int)<=x/\x<(((r.1+r.2)*256:Nat):Int)) ∨
 ∃(j:Nat) (c:cA) (ss:List cH) (l:Nat) (s:cH) (i:Nat),k=j/\Cl A j c ss/\ss[l]?=some s/\i<c.n/\a=at_ c s i/\((at_ c s i:Nat):Int)<=x/\x<((at_ c s i+c.size:Nat):Int):=by
 unfold U7 at hf;split at hf
 ·cases hf
 ·rename_i hx;obtain⟨y,rfl⟩:=zc (show 0<=x by omega);rw[dD]at hf;simp only at hf;by_cases hlt:y/256<1024
  ·rw[zC hlt]at hf;split at hf
   ·cases hf
   ·split at hf
    ·rename_i h0 h41;obtain⟨r,e,b⟩:=nR.1 hf;have u:=s7 e;have p:=tK e;simp at p;cases b;exact .inl ⟨rfl,r,u,rfl,O,O⟩
    ·rename_i h0 h41;split at hf
     ·rename_i c ss h1 h2;obtain⟨C,B,b⟩:=nR.1 hf;cases b;have d:Cl A (A.ow (y/256)-1) c ss:=⟨h1,h2⟩;obtain⟨l,s,i,m,z,rfl,w,g⟩:=(Is (h.cG _ _ _ d)).1 B;exact .inr ⟨_,c,ss,l,s,i,rfl,d,m,z,rfl,w,g⟩
     ·cases hf
  ·rw[zB hlt,zC rfl]at hf;cases hf
theorem fO.find (h:GA A){j:Nat}{x:Int}(hx:fO A j x):∃y:Nat,x=y/\U7 A x=some ((j:Int),y):=by
 obtain⟨c,d,a,m⟩:=hx;have b:=h.cG j c d a;obtain⟨l,s,i,e,g,rfl,p⟩:=(V3 b).1 m;exact⟨_,rfl,Nq h a e g (zD _) (by have:=b.pos;omega)⟩
theorem CD (h:GA A){x:Int}:wQ A x=true↔(∃j,fO A j x)\/∃r∈A.runs,x=((r.1*256:Nat):Int):=by
 constructor
 ·intro hx;unfold wQ at hx;split at hx
  ·rename_i k a e;split at hx
   ·rename_i he;rcases RA h e with⟨rfl,r,hr,rfl,_⟩|⟨j,c,d,l,s,i,rfl,b,hs,hi,rfl,_⟩
    ·exact .inr ⟨r,hr,he.symm⟩
    ·rw[zB O,dD,b.1,b.2]at hx;exact .inl ⟨j,c,d,b,by simpa[Tk]using hx⟩
   ·cases hx
  ·cases hx
 ·rintro(⟨j,hj⟩|⟨r,hr,rfl⟩)
  ·obtain⟨y,rfl,e⟩:=hj.find h;obtain⟨c,d,b,g⟩:=hj;unfold wQ;rw[e];simp only;rw[zC True.intro,zB O,dD,b.1,b.2];unfold Tk at g;show(dY c d (y:Int)==some true)=true;rw[g];rfl
  ·unfold wQ;have:=h.gY r hr;rw[F0 h hr (zD _) O];simp
theorem WI.wL (h:WI W)(hk:W.bY[k]?=some A){cl:Int}{l:List Int}(ho:jh W.held k cl l=true){j:Nat}(e:cl=j):∀x∈l,¬hO A j x:=by
 intro x hx hin;obtain⟨p,m,a⟩:=(K0.1 ho).1 x hx;obtain⟨i,r,g,d⟩:=KZ.1 a;obtain⟨c,_,_,_,b⟩:=h.cls m (j:=j) (by rw[r,e]) (by rw[i];exact hk);rw[g]at b;rw[b.2 hin]at d;cases d
theorem WI.grow (h:WI W)(hk:W.bY[k]?=some A)(x:Int):WI (W.put k (cN A W.sp x).1 (cN A W.sp x).2 W.held):=by
 obtain⟨s,e1,e2,a,_⟩:=Oi (h.ga k A hk) (h.ow k A hk) x;exact h.lJ hk s e1 a e2
theorem WI.from (h:WI W)(hk:W.bY[k]?=some A)(cl m:Int):WI (W.put k (YM A cl m) W.sp (W.held++(Yt A cl m).map λy=>⟨k,cl,y,pv W.tb cl,false⟩)):=by
 obtain⟨o,e1,e2,J,E,z⟩:=Es (h.ga k A hk) cl m;have tb:(YM A cl m).tb=A.tb:=o.kp.tb;have i:∀y∈Yt A cl m,∃j:Nat,cl=j/\j<A.tb.length:=λy g=>J (λe=>by rw[e]at g;simp at g);have w:∀y∈Yt A cl m,∀p∈W.held,¬(p.k=k/\p.cls=cl/\p.addr=y):=by
  rintro y g p d ⟨H,M,L⟩;obtain⟨j,rfl,_⟩:=i y g;obtain⟨c,_,_,ht,_⟩:=h.cls d M (by rw[H];exact hk);rw[L]at ht;exact E y g (by rw[dD];exact ht)
 refine h.step hk (o.st (h.ow k A hk)) ?_ (λp d e=>?_) (λp C=>?_) (λj y g=>?_) λr hr=>?_
 ·rw[jU,nT];refine⟨h.hk,?_,λa N b K e=>?_⟩
  ·rw[lB];exact List.Pairwise.map (R:=(· ≠ ·)) _ (λa b B e=>B (by simpa[Pc.key]using e)) e2
  ·subst e;obtain⟨p,d,rfl⟩:=zF.1 N;obtain⟨q,G,e⟩:=zF.1 K;obtain⟨y,g,rfl⟩:=zF.1 G;simp only[Pc.key,Prod.mk.injEq]at e;exact w y g p d ⟨e.1.symm,e.2.1.symm,e.2.2.symm⟩
 ·rcases zK.1 d with d|d
  ·exact(h.hd hk d e).to tb o.runs (λj y u=>(z j y).2 (.inl u)) λj y=>by unfold hO;rw[e1]
  ·obtain⟨y,g,rfl⟩:=zF.1 d;obtain⟨j,rfl,u⟩:=i y g;refine .inr ⟨j,A.tb[j],rfl,by rw[tb];exact cX u,?_,(z j y).2 (.inr ⟨(dD j).symm,y,g,rfl⟩),?_⟩
   ·show pv W.tb (j:Int)=_;unfold pv;rw[dD,←h.tb k A hk,cX u];rfl
   ·constructor
    ·intro hx;cases hx
    ·rintro⟨t,ht,hx⟩;rw[e1]at ht;obtain⟨c,F,P,D,s⟩:=(h.ga k A hk).cl u;rw[ht]at s;cases s;exact(E y g (by rw[dD];exact(Vv D).2 ((h.ga k A hk).l8 j c F t D ht _ hx))).elim
 ·rw[zK];constructor
  ·rintro(d|d)
   ·exact d
   ·obtain⟨y,_,rfl⟩:=zF.1 d;exact(C rfl).elim
  ·exact .inl
 ·rcases(z j y).1 g with g|⟨rfl,x,hx,rfl⟩
  ·obtain⟨p,d,q⟩:=h.ht k A hk j y g;exact⟨p,kC _ d,q⟩
  ·obtain⟨j,rfl,_⟩:=i x hx;exact⟨_,nZ _ (zF.2 ⟨x,hx,rfl⟩),rfl,by simp,rfl⟩
 ·rw[o.runs]at hr;obtain⟨p,d,q⟩:=h.hr k A hk r hr;exact⟨p,kC _ d,q⟩
theorem WI.yM (h:WI W){cl:Int}{l:List Int}(ho:jh W.held k cl l=true):vO W.held k cl l=W.held.filter λp=>!dX k cl l p:=
 Fg l h.hk (K0.1 ho).1 (K0.1 ho).2
theorem WI.PE (h:WI W)(hk:W.bY[k]?=some A){cl:Int}{l:List Int}(ho:jh W.held k cl l=true):WI (W.put k (ZN A cl l) W.sp (if Kd A cl l=0 then vO W.held k cl l else W.held)):=by
 have ga:=h.ga k A hk;obtain⟨o,e1,e2,K⟩:=BL ga (k:=cl) (xs:=l) λm x g=>by
  obtain⟨j,c,G,rfl,_⟩:=C0 ga m;rw[dD];exact h.wL hk ho rfl x g
 by_cases m:Kd A cl l=0
 ·rw[zC m,h.yM ho];obtain⟨j,c,G,rfl,L,N⟩:=C0 ga m;have e2:=e2 m;rw[dD]at e2;refine h.step hk (o.st (h.ow k A hk)) (Uf h.hk _) (λp s e=>?_) (λp D=>?_) (λi y J=>?_) λr hr=>?_
  ·have u:=zI.1 s;have C:dX k (j:Int) l p=false:=by simpa using u.2
   rcases h.hd hk u.1 e with⟨h1,h2,r,hr,h3⟩|⟨i,d,h1,h2,h3,h4,h5⟩
   ·exact .inl ⟨h1,h2,r,by rw[o.runs];exact hr,h3⟩
   ·refine .inr ⟨i,d,h1,by rw[o.kp.tb];exact h2,h3,(e2 i _).2 ⟨h4,λ⟨a,b⟩=>?_⟩,by unfold hO at h5 ⊢;rw[e1];exact h5⟩;have:dX k (j:Int) l p=true:=Qe.2 ⟨e,by rw[h1,a],b⟩;rw[C]at this;cases this
  ·rw[zI];have:dX k (j:Int) l p=false:=by
    apply nB.2;intro g;exact D (Qe.1 g).1
   rw[this];simp
  ·obtain⟨E,B⟩:=(e2 i y).1 J;obtain⟨p,s,z,F,w⟩:=h.ht k A hk i y E;refine⟨p,zI.2 ⟨s,?_⟩,z,F,w⟩;have:dX k (j:Int) l p=false:=by
    apply nB.2;intro g;obtain⟨_,M,H⟩:=Qe.1 g;exact B ⟨O,by rw[←w];exact H⟩
   rw[this];rfl
  ·rw[o.runs]at hr;obtain⟨p,s,z,F,w⟩:=h.hr k A hk r hr;refine⟨p,zI.2 ⟨s,?_⟩,z,F,w⟩;have:dX k (j:Int) l p=false:=by
    apply nB.2;intro g;have:=(Qe.1 g).2.1;omega
   rw[this];rfl
 ·rw[zB m,K m];exact G6 hk h
theorem WI.move (h:WI W)(hk:W.bY[k]?=some A){B:AR}{j:Nat}{l:List Int}{m:Bool}(o:Ob A B)(e1:∀i y,fO B i y↔fO A i y)(e2:∀i y,hO B i y↔if i=j/\y∈l then m=true else hO A i y):WI (W.put k B W.sp (Gr W.held k (j:Int) l m)):=by
 refine h.step hk (o.st (h.ow k A hk)) (by rw[Nj];exact h.hk) (λp a e=>?_) (λp b=>?_) (λi y g=>?_) λr hr=>?_
 ·obtain⟨q,u,rfl⟩:=Q1.1 a;have d:q.k=k:=by
   split at e<;>exact e
  rcases h.hd hk u d with⟨h1,h2,r,hr,h3⟩|⟨i,c,h1,h2,h3,h4,h5⟩
  ·have:dX k (j:Int) l q=false:=by
    apply nB.2;intro hx;have:=(Qe.1 hx).2.1;omega
   rw[this];exact .inl ⟨h1,h2,r,by rw[o.runs];exact hr,h3⟩
  ·by_cases hx:dX k (j:Int) l q=true
   ·rw[zC hx];obtain⟨_,D,C⟩:=Qe.1 hx;have w:i=j:=by omega
    refine .inr ⟨i,c,h1,by rw[o.kp.tb];exact h2,h3,(e1 _ _).2 h4,?_⟩;show m=true↔hO B i (q.addr:Int);rw[e2,zC ⟨w,C⟩]
   ·rw[zB hx];refine .inr ⟨i,c,h1,by rw[o.kp.tb];exact h2,h3,(e1 _ _).2 h4,?_⟩;rw[e2,zB λg=>hx (Qe.2 ⟨d,by rw[h1,g.1],g.2⟩)];exact h5
 ·rw[Q1];constructor
  ·rintro⟨q,u,rfl⟩;have:dX k (j:Int) l q=false:=by
    apply nB.2;intro hx;rw[zC hx]at b;exact b (Qe.1 hx).1
   rw[this];exact u
  ·intro a;refine⟨p,a,?_⟩;have:dX k (j:Int) l p=false:=by
    apply nB.2;intro hx;exact b (Qe.1 hx).1
   rw[this];rfl
 ·obtain⟨p,a,x,z,s⟩:=h.ht k A hk i y ((e1 i y).1 g);refine⟨_,Q1.2 ⟨p,a,rfl⟩,?_,?_,?_⟩
  ·split<;>exact x
  ·split<;>exact z
  ·split<;>exact s
 ·rw[o.runs]at hr;obtain⟨p,a,x,z,s⟩:=h.hr k A hk r hr;refine⟨_,Q1.2 ⟨p,a,rfl⟩,?_,?_,?_⟩
  ·split<;>exact x
  ·split<;>exact z
  ·split<;>exact s
theorem RE {held:List Pc}{k:Nat}{cls:Int}{m:Bool}:Gr held k cls [] m=held:=by
 unfold Gr;have:∀p,dX k cls [] p=false:=λp=>by simp[dX]
 simp[this]
theorem WI.wM (h:WI W)(hk:W.bY[k]?=some A)(cl:Int):WI (W.put k (ZQ A cl) W.sp (Gr W.held k cl (YI A cl) false)):=by
 obtain⟨o,e1,e2,s,m,a⟩:=EA (h.ga k A hk) cl;by_cases hv:YI A cl=[]
 ·rw[hv,RE];have b:∀j y,hO (ZQ A cl) j y↔hO A j y:=λj y=>by rw[a,hv];simp
  refine h.step hk (o.st (h.ow k A hk)) h.hk (λp d e=>(h.hd hk d e).to o.kp.tb o.runs (λj y=>(e1 j y).2) b) (λ_ _=>Iff.rfl) (λj y g=>h.ht k A hk j y ((e1 j y).1 g)) λr hr=>h.hr k A hk r (by rw[←o.runs];exact hr)
 ·obtain⟨j,rfl,_⟩:=m hv;rw[dD]at a;exact h.move hk o e1 λi y=>by
   rw[a];split
   ·rename_i hx;simp[hx]
   ·rename_i hx;simp[hx]
theorem WI.Ru (h:WI W)(hk:W.bY[k]?=some A){cl:Int}{l:List Int}(ho:jh W.held k cl l=true):WI (W.put k (Ks A cl l) W.sp (if VD A cl l then Gr W.held k cl l true else W.held)):=by
 by_cases a:VD A cl l=true
 ·have b:∃j:Nat,cl=j:=by
   have d:Hm A cl l=0:=by
    unfold VD at a;simp only[zE,zU]at a;exact a.1
   have b:A.ck cl=true:=by
    unfold Hm at d;split at d
    ·assumption
    ·cases d
   obtain⟨j,g,_⟩:=Hr.1 b;exact⟨j,g⟩
  obtain⟨j,rfl⟩:=b;obtain⟨o,e1,e2,_⟩:=JK (h.ga k A hk) (j:Int) (xs:=l) (K0.1 ho).2 (by rw[dD];exact h.wL hk ho rfl);obtain⟨_,_,e2⟩:=e2 a;rw[dD]at e2;rw[a,zC rfl];exact h.move hk o e1 λi y=>by
   rw[e2];split
   ·rename_i hx;simp[hx]
   ·rename_i hx;simp[hx]
 ·have a:VD A cl l=false:=by simpa using a
  have e:Ks A cl l=A:=by unfold Ks;rw[a];rfl
  rw[a,e];exact G6 hk h
theorem WI.wZ (h:WI W)(hk:W.bY[k]?=some A)(m a:Int):WI (W.put k (cC A W.sp m a).1 (cC A W.sp m a).2 (if QJ A W.sp m a=0 then W.held++[⟨k, -1,Qh A W.sp m a*256,m.toNat*256,false⟩]else W.held)):=by
 rcases Ls (h.ga k A hk) (h.ow k A hk) m a with⟨e,hE,_⟩|⟨x,A1,sp1,g,hE,hV,e,htk,hor,s,et,ek⟩
 ·rw[zB hE,e];exact G6 hk h
 ·rw[zC hE,hV];have u:(cC A W.sp m a).1.runs=A.runs++[(x,m.toNat)]:=by rw[e]
  have w:∀r∈A.runs,r.1≠x:=by
   have hd:=s.ga.kE;rw[u]at hd;intro r hr e2;have z:=(pN.1 hd).2.2 r hr (x,m.toNat) aA;have B:=(h.ga k A hk).gY r hr;have i:=s.ga.gY (x,m.toNat) (by rw[u];simp);simp only at z i;omega
  refine h.step hk s ?_ (λp g e=>?_) (λp C=>?_) (λj y D=>?_) λr hr=>?_
  ·rw[jU,nT];refine⟨h.hk,by simp,λb E d hd e2=>?_⟩;subst e2;obtain⟨p,g,rfl⟩:=zF.1 E;simp only[zS,rp,zP,Pc.key,Prod.mk.injEq]at hd;obtain⟨_,r,hr,i,_⟩:=h.run g hd.2.1 (A:=A) (by rw[hd.1];exact hk);exact w r hr O
  ·rcases zK.1 g with g|g
   ·rcases h.hd hk g e with⟨z,B,r,hr,i⟩|⟨j,c,z,B,i,h4,h5⟩
    ·exact .inl ⟨z,B,r,by rw[u];exact kC _ hr,i⟩
    ·exact .inr ⟨j,c,z,by rw[s.tb];exact B,i,(ek _ _).2 h4,by unfold hO at h5 ⊢;rw[et];exact h5⟩
   ·simp only[zP]at g;subst g;exact .inl ⟨rfl,rfl,(x,m.toNat),by rw[u];simp,rfl,rfl⟩
  ·rw[zK];constructor
   ·rintro(g|g)
    ·exact g
    ·simp only[zP]at g;subst g;exact(C rfl).elim
   ·exact .inl
  ·obtain⟨p,g,q⟩:=h.ht k A hk j y ((ek j y).1 D);exact⟨p,kC _ g,q⟩
  ·rw[u]at hr;rcases zK.1 hr with hr|hr
   ·obtain⟨p,g,q⟩:=h.hr k A hk r hr;exact⟨p,kC _ g,q⟩
   ·simp only[zP]at hr;subst hr;exact⟨_,nZ _ (zP.2 rfl),rfl,rfl,rfl⟩
theorem WI.mY (h:WI W)(hk:W.bY[k]?=some A){r:Nat×Nat}(hr:r∈A.runs):jh W.held k (-1) [(r.1:Int)*256]=true:=by
 refine K0.2 ⟨λx e=>?_,by simp⟩;simp only[zP]at e;subst e;obtain⟨p,d,b,a,g⟩:=h.hr k A hk r hr;exact⟨p,d,KZ.2 ⟨b,a,O,(h.run d a (by rw[b];exact hk)).1⟩⟩
theorem WI.vH (h:WI W)(hk:W.bY[k]?=some A)(x:Int):WI (W.put k (QT A x) W.sp (if Vp A x=0 then vO W.held k (-1) [x*256]else W.held)):=by
 have ga:=h.ga k A hk;obtain⟨⟨kp,g⟩,L,G,e1,e2⟩:=J5 ga x;by_cases h0:Vp A x=0
 ·rw[zC h0];obtain⟨r,hr,rfl,H⟩:=e2 h0;rw[h.yM (h.mY hk hr)];have m:∀p:Pc,dX k (-1) [(r.1:Int)*256] p=true↔p.k=k/\p.cls = -1/\p.addr=r.1*256:=λp=>by
   rw[Qe];simp only[zP];constructor
   ·rintro⟨a,b,c⟩;exact⟨a,b,O⟩
   ·rintro⟨a,b,c⟩;exact⟨a,b,O⟩
  refine h.step hk (St.kp g (h.ow k A hk) kp) (Uf h.hk _) (λp s e=>?_) (λp D=>?_) (λi y K=>?_) λq d=>?_
  ·have z:=zI.1 s;have u:¬dX k (-1) [(r.1:Int)*256] p=true:=by simpa using z.2
   rw[m]at u;rcases h.hd hk z.1 e with⟨h1,h2,q,d,w⟩|⟨j,c,h1,h2,w,J,E⟩
   ·refine .inl ⟨h1,h2,q,?_,w⟩;rw[H,zI];refine⟨d,?_⟩;have:q≠r:=by rintro rfl;exact u ⟨e,h1,w.1⟩
    simpa using this
   ·exact .inr ⟨j,c,h1,by rw[kp.tb];exact h2,w,(G _ _).2 J,by unfold hO at E ⊢;rw[L];exact E⟩
  ·rw[zI];have:dX k (-1) [(r.1:Int)*256] p=false:=by
    apply nB.2;intro hx;exact D (Qe.1 hx).1
   rw[this];simp
  ·obtain⟨p,s,C,F,B⟩:=h.ht k A hk i y ((G i y).1 K);refine⟨p,zI.2 ⟨s,?_⟩,C,F,B⟩;have:dX k (-1) [(r.1:Int)*256] p=false:=by
    apply nB.2;intro hx;have:=((m p).1 hx).2.1;omega
   rw[this];rfl
  ·rw[H,zI]at d;obtain⟨p,s,C,F,B⟩:=h.hr k A hk q d.1;refine⟨p,zI.2 ⟨s,?_⟩,C,F,B⟩;have:dX k (-1) [(r.1:Int)*256] p=false:=by
    apply nB.2;intro hx;have w:=((m p).1 hx).2.2;have J:=ga.gY q d.1;have E:=ga.gY r hr;have:q=r:=ga.gW d.1 hr (x:=q.1) O O O O;subst this;simp at d
   rw[this];rfl
 ·rw[zB h0,e1 h0];exact G6 hk h
theorem WI.tick (h:WI W)(hk:W.bY[k]?=some A):WI (W.put k (r6 A) W.sp (Aa (W.bY.set k (r6 A)) W.held)):=by
 have ga:=h.ga k A hk;have t:=SR ga;have m:=(cZ.1 hk).1;have d:(W.bY.set k (r6 A))[k]?=some (r6 A):=zN m;have bT:∀p∈W.held,p∈Aa (W.bY.set k (r6 A)) W.held↔(p.k=k->∀j:Nat,p.cls=j->fO (r6 A) j (p.addr:Int)):=by
  intro p a;unfold Aa;rw[zI];simp only[a,tD,nr,mM];by_cases hpk:p.k=k
  ·rw[hpk,d];simp only[true_implies];rcases h.hd hk a hpk with⟨h1,h2,r,hr,h3⟩|⟨j,c,h1,h2,h3,h4,h5⟩
   ·exact⟨λ_ j u=>O,λ_=>.inl h2⟩
   ·constructor
    ·intro hx i F;obtain rfl:i=j:=by omega
     rcases hx with hx|hx
     ·refine(t.tk i _).2 ⟨h4,λB=>?_⟩;rw[h5.2 B]at hx;cases hx
     ·rcases(CD t.ob.ga).1 hx with⟨j',hj'⟩|⟨r,hr,e⟩
      ·obtain⟨y,e,hf⟩:=((t.tk j' _).1 hj').1.find ga;obtain⟨L,K,b⟩:=h4.find ga;rw[hf]at b;have:j'=i:=by
        have:=congrArg Prod.fst (Option.some.inj b);simp only at this;omega
       rw[←this];exact hj'
      ·rw[t.ob.runs]at hr;have:=ga.gY r hr;have H:=F0 ga hr (x:=r.1*256) (zD _) O;obtain⟨L,K,b⟩:=h4.find ga;rw[e,H]at b;have:=congrArg Prod.fst (Option.some.inj b);simp only at this;omega
    ·intro hx;by_cases hm:p.eN=true
     ·exact .inr ((CD t.ob.ga).2 (.inl ⟨j,hx j h1⟩))
     ·exact .inl (by simpa using hm)
  ·constructor
   ·intro _ hx;exact(hpk hx).elim
   ·intro _;obtain⟨C,G,J⟩:=h.hf p a;rw[zg (Ne.symm hpk),G];rcases J with⟨h1,h2,_⟩|⟨j,c,_,_,_,h4,_⟩
    ·exact .inl h2
    ·exact .inr ((CD (h.ga _ C G)).2 (.inl ⟨j,h4⟩))
 have sub:∀p,p∈Aa (W.bY.set k (r6 A)) W.held->p∈W.held:=λp a=>(zI.1 a).1;refine h.step hk (t.ob.st (h.ow k A hk)) (Uf h.hk _) (λp a e=>?_) (λp z=>⟨sub p,λa=>(bT p a).2 λe=>(z e).elim⟩) (λj y E=>?_) λr hr=>?_
 ·have w:=(bT p (sub p a)).1 a e;rcases h.hd hk (sub p a) e with⟨h1,h2,r,hr,h3⟩|⟨j,c,h1,h2,h3,h4,h5⟩
  ·exact .inl ⟨h1,h2,r,by rw[t.ob.runs];exact hr,h3⟩
  ·have u:=w j h1;refine .inr ⟨j,c,h1,by rw[t.ob.kp.tb];exact h2,h3,u,?_⟩;rw[h5];exact⟨((t.tk j _).1 u).2,t.sub j _⟩
 ·obtain⟨p,a,s,D,g⟩:=h.ht k A hk j y ((t.tk j y).1 E).1;refine⟨p,(bT p a).2 λ_ i F=>?_,s,D,g⟩;obtain rfl:i=j:=by omega
  rw[g];exact E
 ·rw[t.ob.runs]at hr;obtain⟨p,a,s,D,g⟩:=h.hr k A hk r hr;exact⟨p,(bT p a).2 λ_ i F=>O,s,D,g⟩
theorem WI.oT (h:WI W){p:Pc}(hp:p∈W.held)(hk:W.bY[p.k]?=some A){x:Nat}(h1:p.addr<=x)(h2:x<p.addr+p.size):A.f (x/256)=1:=by
 have ga:=h.ga _ A hk;rcases h.hd hk hp rfl with⟨_,_,r,hr,e1,e2⟩|⟨j,c,_,hc,e1,ht,_⟩
 ·exact(ga.jt hr O O).1
 ·obtain⟨b,m,a,d⟩:=ht;have:b=c:=Option.some.inj (a.1.symm.trans hc);subst this;have g:=ga.cG j b m a;obtain⟨l,s,i,u,w,e,_⟩:=(V3 g).1 d;have y:p.addr=at_ b s i:=Int.ofNat.inj e;have:=HY g.pos w (s:=s) (x:=x) O O;exact(ga.used a (zG u) this.1 this.2).1
theorem WI.write (h:WI W){x v:Int}(hi:DO W.held x=true):WI {W with sp:=ZM W.sp x v}:=by
 unfold DO at hi;rw[zy]at hi;obtain⟨p,i,s⟩:=hi;simp only[zE,zU]at s;obtain⟨y,rfl⟩:=zc (show 0<=x by omega);obtain⟨A,hk,_⟩:=h.hf p i;have w:=h.oT i hk (x:=y) O O;have m:=(h.ow _ A hk).own (y/256) O;by_cases hacc:eO W.sp (y:Int)=0
 ·have e:(ZM W.sp (y:Int) v).st=W.sp.st.set (y/256) 2:=by
   unfold ZM;rw[zC hacc];show W.sp.st.set (_/32) 2=_;rw[dD,show y/8/32=y/256 by omega]
  have g:=FZ m;have d:∀q,gf (ZM W.sp (y:Int) v).st q=if q=y/256 then 2 else gf W.sp.st q:=λq=>by
   rw[e];unfold gf;simp only[zQ];by_cases a:q=y/256
   ·subst a;rw[zN g,zC rfl];rfl
   ·rw[zg (Ne.symm a),zB a]
  have r:∀q,gf (ZM W.sp (y:Int) v).st q≠0↔gf W.sp.st q≠0:=λq=>by
   rw[d];split
   ·rename_i a;subst a;simp[m]
   ·exact Iff.rfl
  refine⟨h.ga,λj C b=>?_,h.tb,h.low,λq a=>h.own q ((r q).1 a),h.one,h.hk,h.hf,h.ht,h.hr⟩;have o:=h.ow j C b;refine⟨by show(ZM W.sp (y:Int) v).st.length=_;rw[e,oZ];exact o.l,λq a=>(r q).2 (o.own q a),λq a=>?_,λq=>?_⟩
  ·show gf (ZM W.sp (y:Int) v).st q=1;rw[d,zB]
   ·exact o.cl q a
   ·rintro rfl;have u:j=p.k:=h.one (y/256) j p.k C A b hk O O;subst u;rw[hk]at b;cases b;omega
  ·show gf (ZM W.sp (y:Int) v).st q<=2;rw[d];have:=o.le q;split<;>omega
 ·have e:ZM W.sp (y:Int) v=W.sp:=by unfold ZM;rw[zB hacc]
  rw[e];exact h
theorem fO.lt (h:GA A){j:Nat}{x:Int}(hx:fO A j x):∃y:Nat,x=y/\y<262144:=by
 obtain⟨c,e,b,r⟩:=hx;have a:=h.cG j c e b;obtain⟨l,s,i,g,m,rfl,u⟩:=(V3 a).1 r;have d:=HY a.pos (s:=s) (x:=at_ c s i) m (zD _) (by have:=a.pos;omega);have w:=(h.used b (zG g) d.1 d.2).1;have:=h.pg.lt (p:=at_ c s i/256) O;have:=h.pg.n2;exact⟨_,rfl,O⟩
theorem WI.jL (h:WI W){p:Pc}(hp:p∈W.held):p.addr<262144/\p.addr+p.size<=270000:=by
 obtain⟨A,m,g⟩:=h.hf p hp;have ga:=h.ga _ A m;have x:=ga.pg.n2;rcases g with⟨_,_,r,hr,h1,h2⟩|⟨j,c,_,hc,h2,h3,_⟩
 ·have s:=ga.fit hr;have u:=ga.gY r hr;omega
 ·obtain⟨y,e,w⟩:=h3.lt ga;obtain⟨i,d,a,_⟩:=h3;have:i=c:=Option.some.inj (a.1.symm.trans hc);subst this;have b:=(ga.cG j _ d a).ok;unfold cA.ok at b;omega
theorem IT:∀(N:Nat) (l:List Nat),l.Nodup->(∀x∈l,x<N)->l.length<=N
 | 0,l,_,h=>by
  cases l with
  | nil=>simp
  | cons x l=>have:=h x aA;omega
 | N+1,l,hn,h=>by
  have i:=IT N (l.filter (· != N)) (hn.sublist tf) λx b=>by
   have b:=zI.1 b;have:=h x b.1;have:x≠N:=by simpa using b.2
   omega
  have d:=List.length_eq_countP_add_countP (l:=l) (p:=(· != N));have g:l.countP (λa=>¬(a != N)=true)<=1:=by
   have e:l.countP (λa=>¬(a != N)=true)=l.count N:=by
    unfold List.count;apply List.countP_congr;intro x _;simp
   rw[e];exact CM.1 hn N
  rw[yR]at d;omega
theorem WI.apart (h:WI W){p q:Pc}(hp:p∈W.held)(hq:q∈W.held){x:Nat}(p1:p.addr<=x)(p2:x<p.addr+p.size)(q1:q.addr<=x)(q2:x<q.addr+q.size):p=q:=by
 obtain⟨A,y,J⟩:=h.hf p hp;obtain⟨B,m,E⟩:=h.hf q hq;have e1:=h.oT hp y p1 p2;have e2:=h.oT hq m q1 q2;have z:p.k=q.k:=h.one (x/256) p.k q.k A B y m O O;rw[←z,y]at m;cases m;have ga:=h.ga _ A y;have H:=ga.tb;have own:∀{r:Pc},Hd A r->r.addr<=x->x<r.addr+r.size->(r.cls = -1/\A.ow (x/256)=41/\∃u∈A.runs,r.addr=u.1*256/\u.1<=x/256/\x/256<u.1+u.2) ∨
  ∃(j:Nat) (c:cA) (b:List cH) (l:Nat) (s:cH) (i:Nat),r.cls=j/\A.ow (x/256)=j+1/\Cl A j c b/\b[l]?=some s/\i<c.n/\r.addr=at_ c s i/\r.size=c.size:=by
  intro r hr r1 r2;rcases hr with⟨c1,_,u,hu,c2,c3⟩|⟨j,c,c1,c2,c3,c4,_⟩
  ·exact .inl ⟨c1,(ga.jt hu O O).2,u,hu,c2,O,O⟩
  ·obtain⟨d,b,a,L⟩:=c4;have:d=c:=Option.some.inj (a.1.symm.trans c2);subst this;have F:=ga.cG j d b a;obtain⟨l,s,i,C,D,e,_⟩:=(V3 F).1 L;have G:r.addr=at_ d s i:=Int.ofNat.inj e;have g:=HY F.pos (s:=s) (x:=x) D O O;exact .inr ⟨j,d,b,l,s,i,c1,(ga.used a (zG C) g.1 g.2).2,a,C,D,G,c3⟩
 refine h.unique hp hq ?_;rcases own J p1 p2 with⟨a1,a2,u,hu,a3,a4,a5⟩|⟨j,c,b,l,s,i,a1,a2,a3,a4,a5,a6,a7⟩
 ·rcases own E q1 q2 with⟨b1,b2,w,hw,b3,b4,b5⟩|⟨j',d,ss',l',s',i',b1,b2,b3,b4,b5,b6,b7⟩
  ·have:=ga.gW hu hw a4 a5 b4 b5;subst this;unfold Pc.key;rw[z,a1,b1,a3,b3]
  ·have:=b3.lt;omega
 ·rcases own E q1 q2 with⟨b1,b2,w,hw,b3,b4,b5⟩|⟨j',d,ss',l',s',i',b1,b2,b3,b4,b5,b6,b7⟩
  ·have:=a3.lt;omega
  ·have K:j=j':=by omega
   subst K;obtain⟨rfl,rfl⟩:=a3.eq b3;have:=UL (ga.cG j c b a3) a4 b4 a5 b5 (x:=x) O O O O;unfold Pc.key;rw[z,a1,b1,a6,b6,this.2.1,this.2.2]
theorem WI.size_pos (h:WI W){p:Pc}(hp:p∈W.held):8<=p.size/\p.size%8=0:=by
 obtain⟨A,i,e⟩:=h.hf p hp;have ga:=h.ga _ A i;rcases e with⟨_,_,r,hr,h1,h2⟩|⟨j,c,_,hc,h2,h3,_⟩
 ·have m:=ga.gY r hr;omega
 ·obtain⟨g,d,a,_⟩:=h3;have:g=c:=Option.some.inj (a.1.symm.trans hc);subst this;have b:=(ga.cG j _ d a).ok;unfold cA.ok at b;omega
theorem WI.len (h:WI W):W.held.length<=262144:=by
 have s:(W.held.map (·.addr)).Nodup:=by
  have u:=mg.1 h.hk;refine mg.2 λi j r w d e=>?_;have a:i<W.held.length:=by simpa using r
  have b:j<W.held.length:=by simpa using w
  refine u i j (by simpa using a) (by simpa using b) d ?_;simp only[uf]at e ⊢;have s1:=(h.size_pos (ka a)).1;have s2:=(h.size_pos (ka b)).1;rw[h.apart (ka a) (ka b) (x:=W.held[i].addr) (zD _) O O O]
 have:=IT 262144 _ s λx m=>by
  obtain⟨p,g,rfl⟩:=zF.1 m;exact(h.jL g).1
 simpa using this
end Go.Ar
namespace Go.Ar
open Go.Vc (bU dB cT)
def mj (live:List (Int×Bk))(k x:Int):Nat:=live.countP λe=>e.2.2.2.1==k&&e.1==x
def lL (ls:List Li)(k x:Int):Nat:=if 0<=k then(ls.getD k.toNat ir).os.count x else 0
def lH (bs:List Bt)(k x:Int):Nat:=(bs.map λb=>if(b.1:Int)=k then b.2.count x else 0).sum
def jB (p:Option Ph)(k x:Int):Nat:=match p with
 | some (.dE s _)=>if k = -1/\x=s*256 then 1 else 0
 | _=>0
def gN (g:Th)(k x:Int):Nat:=lL g.ls k x+lH g.bQ k x+jB g.ph k x
def qu (H:Hw)(k x:Int):Nat:=mj H.live k x+(H.bR.map λg=>gN g k x).sum
def Um (held:List Pc)(k x:Int):Prop:=∃p∈held,p.eN=false/\p.cls=k/\(p.addr:Int)=x
open Classical in
noncomputable def k5 (held:List Pc)(k x:Int):Nat:=if Um held k x then 1 else 0
theorem DZ (held:List Pc)(k x:Int):k5 held k x<=1:=by unfold k5;split<;>omega
theorem B1 {held:List Pc}{k x:Int}(h:1<=k5 held k x):Um held k x:=by
 unfold k5 at h;split at h
 ·assumption
 ·omega
theorem VQ {held:List Pc}{k x:Int}(h:Um held k x):k5 held k x=1:=by unfold k5;rw[zC h]
theorem KA {held:List Pc}{k x:Int}(h:¬Um held k x):k5 held k x=0:=by unfold k5;rw[zB h]
theorem Ec {l:List Int}(hn:l.Nodup)(x:Int):l.count x=if x∈l then 1 else 0:=by
 split
 ·rename_i h;have a:=CM.1 hn x;have b:=Cd.2 h;omega
 ·rename_i h;exact yi.2 h
theorem As {held held':List Pc}{cl:Int}{l:List Int}(hn:l.Nodup)(h0:∀x∈l,¬Um held cl x)(h:∀k x,Um held' k x↔Um held k x\/(k=cl/\x∈l))(k x:Int):k5 held' k x=k5 held k x+(if cl=k then l.count x else 0):=by
 by_cases hk:cl=k
 ·subst hk;rw[zC rfl,Ec hn];by_cases hx:x∈l
  ·rw[zC hx,KA (h0 x hx),VQ ((h _ _).2 (.inr ⟨rfl,hx⟩))]
  ·rw[zB hx,kc];by_cases hu:Um held cl x
   ·rw[VQ hu,VQ ((h _ _).2 (.inl hu))]
   ·rw[KA hu,KA λa=>by rcases(h _ _).1 a with a|⟨_,a⟩;exact hu a;exact hx a]
 ·rw[zB hk,kc];by_cases hu:Um held k x
  ·rw[VQ hu,VQ ((h _ _).2 (.inl hu))]
  ·rw[KA hu,KA λa=>by rcases(h _ _).1 a with a|⟨a,_⟩;exact hu a;exact hk a.symm]
theorem Iu {held held':List Pc}{cl:Int}{l:List Int}(hn:l.Nodup)(h0:∀x∈l,Um held cl x)(h:∀k x,Um held' k x↔Um held k x/\¬(k=cl/\x∈l))(k x:Int):k5 held k x=k5 held' k x+(if cl=k then l.count x else 0):=by
 by_cases hk:cl=k
 ·subst hk;rw[zC rfl,Ec hn];by_cases hx:x∈l
  ·rw[zC hx,VQ (h0 x hx),KA λa=>((h _ _).1 a).2 ⟨rfl,hx⟩]
  ·rw[zB hx,kc];by_cases hu:Um held cl x
   ·rw[VQ hu,VQ ((h _ _).2 ⟨hu,λa=>hx a.2⟩)]
   ·rw[KA hu,KA λa=>hu ((h _ _).1 a).1]
 ·rw[zB hk,kc];by_cases hu:Um held k x
  ·rw[VQ hu,VQ ((h _ _).2 ⟨hu,λa=>hk a.1.symm⟩)]
  ·rw[KA hu,KA λa=>hu ((h _ _).1 a).1]
theorem Ey {α:Type}(f:α->Nat):∀{l:List α} {t:Nat} {g:α} (g':α),l[t]?=some g->((l.set t g').map f).sum+f g=(l.map f).sum+f g'
 | [],t,g,g',h=>by simp at h
 | a::l,0,g,g',h=>by
  simp only[yY,Option.some.injEq]at h;subst h;simp only[List.set_cons_zero,zS,nU];omega
 | a::l,t+1,g,g',h=>by
  have:=Ey f (l:=l) (t:=t) g' (by simpa using h);simp only[rZ,zS,nU];omega
theorem Db {α:Type}(f:α->Nat){l:List α}{g:α}(h:g∈l):f g<=(l.map f).sum:=by
 induction l with
 | nil=>simp at h
 | cons a l ih=>
  simp only[zS,nU];rcases zX.1 h with rfl|h
  ·omega
  ·have:=ih h;omega
theorem vM (ls:List Li)(k:Nat)(x:Int):lL ls (k:Int) x=(ls.getD k ir).os.count x:=by
 unfold lL;rw[zC O,dD]
theorem EE {ls:List Li}{j:Nat}(l:Li)(k:Nat)(h:j<ls.length):(ls.set j l).getD k ir=if k=j then l else ls.getD k ir:=by
 rw[zQ,nm];by_cases hkj:k=j
 ·subst hkj;simp[h]
 ·rw[zB hkj,zB (Ne.symm hkj),zQ]
theorem T6 {ls:List Li}{j:Nat}(l:Li)(h:j<ls.length)(k x:Int):lL (ls.set j l) k x+(if(j:Int)=k then(ls.getD j ir).os.count x else 0)=lL ls k x+(if(j:Int)=k then l.os.count x else 0):=by
 by_cases hk:0<=k
 ·obtain⟨k,rfl⟩:=zc hk;rw[vM,vM,EE l k h];by_cases hjk:j=k
  ·subst hjk;simp;omega
  ·have:¬(j:Int)=(k:Int):=by omega
   rw[zB (Ne.symm hjk),zB this,zB this]
 ·unfold lL;rw[zB hk,zB hk,zB O,zB O]
theorem VW (k x:Int):lH [] k x=0:=rfl
theorem Va (b:Bt)(bs:List Bt)(k x:Int):lH (b::bs) k x=(if(b.1:Int)=k then b.2.count x else 0)+lH bs k x:=by
 unfold lH;rw[zS,nU]
theorem ID (a b:List Bt)(k x:Int):lH (a++b) k x=lH a k x+lH b k x:=by
 unfold lH;rw[jU,List.sum_append]
theorem Jr {f:cA->Li->List Int×Li}(hf:∀c l x,(f c l).1.count x+(f c l).2.os.count x=l.os.count x){tb:List cA}{ls:List Li}(hl:ls.length=tb.length)(k x:Int):lH (Kx f tb ls) k x+lL (Kr f tb ls) k x=lL ls k x:=by
 have key:∀n,n<=tb.length->lH ((List.range n).filterMap λk=>match tb[k]?,ls[k]? with
  | some c,some l=>if(f c l).1=[]then none else some (k,(f c l).1)
  | _,_=>none) k x=if 0<=k/\k<(n:Int)then(match tb[k.toNat]?,ls[k.toNat]? with
  | some c,some l=>(f c l).1.count x
  | _,_=>0)else 0:=by
  intro n
  induction n with
  | zero=>intro _;rw[zB O];rfl
  | succ n i=>
   intro hn;have i:=i O;rw[pZ,vI,ID,i];have d:tb[n]?=some tb[n]:=cX O;have a:ls[n]?=some ls[n]:=cX O;have e:lH ([n].filterMap λk=>match tb[k]?,ls[k]? with
    | some c,some l=>if(f c l).1=[]then none else some (k,(f c l).1)
    | _,_=>none) k x=if(n:Int)=k then(f tb[n] ls[n]).1.count x else 0:=by
    rw[Dr,d,a];simp only;by_cases he:(f tb[n] ls[n]).1=[]
    ·rw[zC he,he];simp[VW]
    ·rw[zB he];simp only[List.filterMap_nil,Va,VW,kc]
   rw[e];by_cases b:0<=k/\k<(n:Int)
   ·rw[zC b,zB (show ¬(n:Int)=k by omega),kc,zC (show 0<=k/\k<((n+1:Nat):Int)from⟨b.1,O⟩)]
   ·rw[zB b,zH];by_cases g:(n:Int)=k
    ·subst g;rw[zC rfl,zC (show(0:Int)<=(n:Int)/\(n:Int)<((n+1:Nat):Int)from⟨O,O⟩),dD,d,a]
    ·rw[zB g,zB O]
 have b:=key tb.length (zD _);have e:Kx f tb ls=(List.range tb.length).filterMap λk=>match tb[k]?,ls[k]? with
  | some c,some l=>if(f c l).1=[]then none else some (k,(f c l).1)
  | _,_=>none:=rfl
 rw[e,b];by_cases hk:0<=k
 ·obtain⟨k,rfl⟩:=zc hk;rw[vM,vM,dD];by_cases hkl:k<tb.length
  ·have d:tb[k]?=some tb[k]:=cX hkl;have a:ls[k]?=some ls[k]:=cX O;rw[zC ⟨O,O⟩,d,a];simp only;have:(Kr f tb ls).getD k ir=(f tb[k] ls[k]).2:=by
    unfold Kr;rw[zQ,Bj,d,a];rfl
   rw[this,zQ,a];exact hf _ _ _
  ·rw[zB O,zH];have b:(Kr f tb ls).getD k ir=ir:=by
    unfold Kr;rw[zQ,zW (by rw[List.length_zipWith];omega)];rfl
   have g:ls.getD k ir=ir:=by rw[zQ,zW O];rfl
   rw[b,g]
 ·rw[zB O,zH];unfold lL;rw[zB hk,zB hk]
theorem AQ (m:Nat)(l:Li)(x:Int):(gG m l).1.count x+(gG m l).2.os.count x=l.os.count x:=by
 show(l.os.take m).count x+(l.os.drop m).count x=_;rw[←xA,oa]
theorem Mn (c:cA)(l:Li)(x:Int):(Vk c l).1.count x+(Vk c l).2.os.count x=l.os.count x:=AQ _ l x
theorem RL (c:cA)(l:Li)(x:Int):(ZY c l).1.count x+(ZY c l).2.os.count x=l.os.count x:=AQ _ l x
theorem Pg (c:cA)(y:Int)(l:Li)(hl:l.os.length<=255)(x:Int):(dL c y l).1.count x+(dL c y l).2.os.count x=l.os.count x + [y].count x:=by
 have a:(eB [y] l).os=l.os++[y]:=by
  unfold eB;rw[zB aE]
 unfold dL;rw[zB O];split
 ·rw[a,List.count_nil,zH,xA]
 ·rw[AQ];have:(mJ c (eB [y] l)).os=(eB [y] l).os:=by unfold mJ;split<;>rfl
  rw[this,a,xA]
theorem DS {c:cA}{l l':Li}{y:Int}(h:Ky c l=(some y,l'))(x:Int):l.os.count x=l'.os.count x + [y].count x:=by
 unfold Ky at h;split at h
 ·simp at h
 ·rename_i z hz;cases h;have:l.os=l.os.dropLast++[y]:=by
   obtain⟨b,a⟩:=List.getLast?_eq_some_iff.1 hz;rw[a];simp
  conv=>lhs;rw[this]
  rw[xA]
theorem Mj {c:cA}{l l':Li}(h:Ky c l=(none,l')):l.os=[]/\l'.os=[]:=by
 unfold Ky at h;split at h
 ·rename_i hz;have:l.os=[]:=by simpa using hz
  cases h;refine⟨this,?_⟩;split<;>exact this
 ·simp at h
theorem BM {live:List (Int×Bk)}{x:Int}(b:Bk)(h:bU live x=none)(k y:Int):mj (dB live x b) k y=mj live k y+(if b.2.2.1=k then[x].count y else 0):=by
 have a:live.any (λe=>e.1==x)=false:=by
  rw[mc];intro e he hx;unfold bU at h;rw[r5,nY]at h;exact h e he hx
 unfold dB;rw[a,zB aA];unfold mj;rw[List.countP_append]
 congr 1
 rw[wA,List.countP_nil,zH];by_cases h1:b.2.2.1=k
 ·by_cases h2:x=y
  ·subst h2;simp[h1]
  ·simp[h1,h2]
 ·simp[h1]
theorem G8 {live:List (Int×Bk)}{x:Int}{b:Bk}(h:bU live x=none){e:Int×Bk}:e∈dB live x b↔e∈live\/e=(x,b):=by
 have a:live.any (λe=>e.1==x)=false:=by
  rw[mc];intro e he hx;unfold bU at h;rw[r5,nY]at h;exact h e he hx
 unfold dB;rw[a,zB aA,zK,zP]
theorem GX {live:List (Int×Bk)}{x:Int}{e:Int×Bk}:e∈cT live x↔e∈live/\e.1≠x:=by
 unfold cT;rw[zI];simp
theorem Di:∀{live:List (Int×Bk)} {x:Int} {b:Bk},(live.map (·.1)).Nodup->bU live x=some b->∀k y,mj live k y=mj (cT live x) k y+(if b.2.2.1=k then[x].count y else 0)
 | [],x,b,_,h,_,_=>by simp[bU]at h
 | e::l,x,b,hn,h,k,y=>by
  rw[zS,zt]at hn;by_cases he:e.1=x
  ·have hb:e.2=b:=by
    unfold bU at h;rw[List.find?_cons_of_pos (by simpa using he)]at h;simpa using h
   have hd:cT (e::l) x=l:=by
    unfold cT;rw[wN (by simpa using he),qW];intro a ha;have:a.1≠x:=λi=>hn.1 (zF.2 ⟨a,ha,i.trans he.symm⟩);simpa using this
   rw[hd];unfold mj;rw[wA,hb,he]
   congr 1
   by_cases h1:b.2.2.1=k
   ·by_cases h2:x=y
    ·subst h2;simp[h1]
    ·simp[h1,h2]
   ·simp[h1]
  ·have g:bU l x=some b:=by
    unfold bU at h ⊢
    rwa [List.find?_cons_of_neg (by simpa using he)]at h
   have d:=Di hn.2 g k y;have hd:cT (e::l) x=e::cT l x:=by
    unfold cT;rw[vW (by simpa using he)]
   rw[hd];unfold mj at d ⊢;rw[wA,wA,d];omega
theorem DV {live:List (Int×Bk)}{e:Int×Bk}(h:e∈live):1<=mj live e.2.2.2.1 e.1:=by
 unfold mj;exact List.countP_pos_iff.2 ⟨e,h,by simp⟩
structure jv (s s':Sp):Prop where
 l:s'.st.length=s.st.length
 z:∀p,gf s'.st p=0↔gf s.st p=0
 w:s'.wd=s.wd
def iu (m:Nat)(g:Th):Prop:=match g.ph with
 | none=>g.bQ=[]
 | some (.take k)=>g.bQ=[]/\k<m
 | some (.cJ k w)=>g.bQ=[]/\k<m/\(g.li k).os=[]/\1<=w/\w<=32
 | some (.cL k w)=>g.bQ=[]/\k<m/\(g.li k).os=[]/\1<=w/\w<=32
 | some (.grow k w)=>g.bQ=[]/\k<m/\(g.li k).os=[]/\1<=w/\w<=32
 | some .fill=>∃k x xs,g.bQ=[(k,x::xs)]/\k<m/\(g.li k).os=[]/\xs.length<=128
 | some (.eI n)=>g.bQ=[]/\1<=n/\n<=64
 | some (.find x)=>g.bQ=[]/\iH x
 | some (.put k x)=>g.bQ=[(k,[x])]/\k<m
 | some .back=>g.bQ≠[]
 | some (.dE _ _)=>g.bQ=[]
 | some .drain=>g.bQ=[]
structure tL (m:Nat) (g:Th):Prop where
 ll:g.ls.length=m
 lo:∀l∈g.ls,fL l/\l.os.length<=128
 hb:∀b∈g.bQ,b.1<m/\b.2≠[]/\b.2.length<=256
 hl:g.bQ.length<=41
 ph:iu m g
def Lv (held:List Pc)(e:Int×Bk):Prop:=e.2.1=e.1/\∃p∈held,p.eN=false/\p.cls=e.2.2.2.1/\(p.addr:Int)=e.1/\e.2.2.1=(p.size:Int)/\e.2.2.2.2=(p.k:Int)
def Gv (held:List Pc)(s a:Int):Prop:=∃p∈held,p.eN=false/\p.cls = -1/\(p.addr:Int)=s*256/\a=(p.k:Int)
structure HI (H:Hw) (held:List Pc) (s0:Sp):Prop where
 wi:WI ⟨H.tb,s0,H.bY,held⟩
 m4:jv s0 H.sp
 cn:∀k x,qu H k x=k5 held k x
 lk:(H.live.map (·.1)).Nodup
 lv:∀e∈H.live,Lv held e
 gv:∀g∈H.bR,∀s a,g.ph=some (.dE s a)->Gv held s a
 th:∀g∈H.bR,tL H.tb.length g
 ok:∀c∈H.tb,c.ok
 a1:1<=H.bY.length
 sl:H.sp.st.length=H.cf.aF
variable {H:Hw}{held:List Pc}{s0:Sp}{t k:Nat}{g:Th}{A:AR}
theorem jv.refl (s:Sp):jv s s:=⟨rfl,λ_=>Iff.rfl,rfl⟩
theorem HI.apart (h:HI H held s0){p q:Pc}(hp:p∈held)(hq:q∈held){x:Nat}(p1:p.addr<=x)(p2:x<p.addr+p.size)(q1:q.addr<=x)(q2:x<q.addr+q.size):p=q:=h.wi.apart hp hq p1 p2 q1 q2
theorem WI.same {W:Wd}(h:WI W){p q:Pc}(hp:p∈W.held)(hq:q∈W.held)(e:p.addr=q.addr):p=q:=by
 have a:=(h.size_pos hp).1;have b:=(h.size_pos hq).1;exact h.apart hp hq (x:=p.addr) (zD _) O O O
theorem WI.um {W:Wd}(h:WI W){p:Pc}(hp:p∈W.held){k x:Int}(hu:Um W.held k x)(e:(p.addr:Int)=x):p.eN=false/\p.cls=k:=by
 obtain⟨q,a,d,b,g⟩:=hu;obtain rfl:=h.same hp a O;exact⟨d,b⟩
theorem HI.mT (h:HI H held s0){e:Int×Bk}(he:e∈H.live):Um held e.2.2.2.1 e.1:=by
 obtain⟨_,p,g,d,b,a,_⟩:=h.lv e he;exact⟨p,g,d,b,a⟩
theorem HI.pK (h:HI H held s0){g:Th}(hg:g∈H.bR)(k x:Int):gN g k x<=k5 held k x:=by
 rw[←h.cn];unfold qu;have:=Db (λg=>gN g k x) hg;omega
theorem HI.qU (h:HI H held s0){g:Th}(hg:g∈H.bR){k x:Int}(hc:1<=gN g k x):Um held k x:=B1 (j9 hc (h.pK hg k x))
theorem HI.l3 (h:HI H held s0){g:Th}(hg:g∈H.bR){k x:Int}(hc:1<=gN g k x):bU H.live x=none:=by
 cases hm:bU H.live x with
 | none=>rfl
 | some b=>
  have a:=KK hm;have u:=h.qU hg hc;obtain⟨q,r,w,m,p⟩:=h.mT a;have s:k=b.2.2.1:=by
   have:=(h.wi.um (W:=⟨H.tb,s0,H.bY,held⟩) r u p).2;exact this.symm.trans m
  have i:=DV a;have e:=h.cn k x;have j:=DZ held k x;have d:=Db (λg=>gN g k x) hg;simp only at i d;unfold qu at e;rw[s]at e j d hc;omega
theorem HI.tT (h:HI H held s0){x:Int}(hn:∀k,¬Um held k x):bU H.live x=none:=by
 cases hm:bU H.live x with
 | none=>rfl
 | some b=>exact(hn _ (h.mT (KK hm))).elim
theorem HI.eZ (h:HI H held s0)(hg:H.bR[t]?=some g){g':Th}{live':List (Int×Bk)}{s0' sp':Sp}{ars':List AR}{held':List Pc}(wi:WI ⟨H.tb,s0',ars',held'⟩)(m4:jv s0' sp')(hsl:sp'.st.length=H.sp.st.length)(hl:ars'.length=H.bY.length)
 (sub:∀p∈held',p.eN=false->p∈held\/∀k,¬Um held k (p.addr:Int))
 (cn:∀k x,mj live' k x+gN g' k x+k5 held k x=mj H.live k x+gN g k x+k5 held' k x)
 (lk:(live'.map (·.1)).Nodup) (lv:∀e∈live',e∈H.live\/Lv held' e) (gv:∀s a,g'.ph=some (.dE s a)->Gv held' s a) (th:tL H.tb.length g') :
 HI {H with live:=live',sp:=sp',bY:=ars',bR:=H.bR.set t g'} held' s0':=by
 have u:∀k x,qu {H with live:=live',sp:=sp',bY:=ars',bR:=H.bR.set t g'} k x=k5 held' k x:=λk x=>by
  have d:=h.cn k x;have r:=cn k x;have b:=Ey (λg=>gN g k x) g' hg;unfold qu at d ⊢;simp only at b ⊢;omega
 have G:=(cZ.1 hg).1;have bT:∀p∈held,p.eN=false->Um held' p.cls (p.addr:Int)->p∈held':=λp m C ⟨q,B,d,r,b⟩=>by
  rcases sub q B d with hs|hs
  ·have:q=p:=h.wi.same (W:=⟨H.tb,s0,H.bY,held⟩) hs m O;rw[←this];exact B
  ·exact(hs p.cls ⟨p,m,C,rfl,b.symm⟩).elim
 refine⟨wi,m4,u,lk,λe A=>?_,λw i s a m=>?_,λw i=>?_,h.ok,by simp only;rw[hl];exact h.a1,hsl.trans h.sl⟩
 ·rcases lv e A with he'|he'
  ·obtain⟨D,p,m,d,r,b,y⟩:=h.lv e he';refine⟨D,p,bT p m d ?_,d,r,b,y⟩;rw[r,b];apply B1;rw[←u];have:1<=mj live' e.2.2.2.1 e.1:=DV A;unfold qu;simp only;omega
  ·exact he'
 ·rcases List.mem_iff_getElem?.1 i with⟨j,hj⟩;rcases Vz hj with⟨rfl,rfl,_⟩|⟨hne,hj'⟩
  ·exact gv s a m
  ·obtain⟨p,z,d,r,b,y⟩:=h.gv w (zG hj') s a m;refine⟨p,bT p z d ?_,d,r,b,y⟩;rw[r,b];apply B1;rw[←u];have E:=Db (λg=>gN g (-1) (s*256)) i;have F:1<=gN w (-1) (s*256):=by unfold gN;rw[m];simp[jB]
   unfold qu;simp only at E ⊢;omega
 ·rcases List.mem_iff_getElem?.1 i with⟨j,hj⟩;rcases Vz hj with⟨rfl,rfl,_⟩|⟨hne,hj'⟩
  ·exact th
  ·exact h.th w (zG hj')
theorem HI.kA (h:HI H held s0)(hg:H.bR[t]?=some g){g':Th}{live':List (Int×Bk)}(cn:∀k x,mj live' k x+gN g' k x=mj H.live k x+gN g k x)(lk:(live'.map (·.1)).Nodup)(lv:∀e∈live',e∈H.live\/Lv held e)
 (gv:∀s a,g'.ph=some (.dE s a)->Gv held s a) (th:tL H.tb.length g'):HI {H with live:=live',bR:=H.bR.set t g'} held s0:=
 h.eZ hg h.wi h.m4 rfl rfl (λp b _=>.inl b) (λk x=>by have:=cn k x;omega) lk lv gv th
theorem JS {A:AR}{x:Int}:oQ A x=true↔0<=x/\A.f x.toNat≠0:=by
 unfold oQ AR.f gf;simp
theorem WI.owner {W:Wd}(h:WI W){p:Pc}(hp:p∈W.held){x:Nat}(h1:p.addr<=x)(h2:x<p.addr+p.size):X9 W.bY (x:Int)=(p.k:Int):=by
 obtain⟨A,b,_⟩:=h.hf p hp;have g:=h.oT hp b h1 h2;have a:=(cZ.1 b).1;have own:∀(j:Nat) (B:AR),W.bY[j]?=some B->(oQ B ((x:Int)/256)=true↔j=p.k):=λj B d=>by
  have e:((x:Int)/256).toNat=x/256:=by omega
  rw[JS,e];constructor
  ·rintro⟨_,hf⟩;exact h.one (x/256) j p.k B A d b hf O
  ·rintro rfl;rw[b]at d;cases d;exact⟨O,O⟩
 unfold X9;rw[zB O];have hf:W.bY.findIdx? (λA=>oQ A ((x:Int)/256))=some p.k:=by
  rw[nG];refine⟨a,(own p.k _ (cX a)).2 rfl,λj i=>?_⟩;have:=own j W.bY[j] (cX O);intro hx;have:=this.1 hx;omega
 rw[hf]
theorem HI.owner (h:HI H held s0){p:Pc}(hp:p∈held){x:Nat}(h1:p.addr<=x)(h2:x<p.addr+p.size):X9 H.bY (x:Int)=(p.k:Int):=h.wi.owner (W:=⟨H.tb,s0,H.bY,held⟩) hp h1 h2
theorem HI.oV (h:HI H held s0){p:Pc}(hp:p∈held):X9 H.bY (p.addr:Int)=(p.k:Int):=h.owner hp (zD _) (by have:=(h.wi.size_pos (W:=⟨H.tb,s0,H.bY,held⟩) hp).1;omega)
theorem HI.i63 (h:HI H held s0){k x:Int}(hu:Um held k x):iH x/\0<=x/\0<=X9 H.bY x:=by
 obtain⟨p,a,_,_,rfl⟩:=hu;have:=(h.wi.jL (W:=⟨H.tb,s0,H.bY,held⟩) a).1;refine⟨by unfold iH;omega,O,?_⟩;rw[h.oV a];omega
end Go.Ar
namespace Go.Ar
open Go.Vc (bU dB cT)
open Go.Bu (Zt)
structure KS (s s':Sp):Prop where
 l:s'.st.length=s.st.length
 k:∀p,gf s.st p≠0->gf s'.st p≠0/\∀w,w/32=p->s'.wd w=s.wd w
theorem KS.refl (s:Sp):KS s s:=⟨rfl,λp a=>⟨a,λ_ _=>rfl⟩⟩
theorem KS.trans {a b c:Sp}(h:KS a b)(k:KS b c):KS a c:=⟨k.l.trans h.l,λp d=>⟨(k.k p (h.k p d).1).1,λw e=>((k.k p (h.k p d).1).2 w e).trans ((h.k p d).2 w e)⟩⟩
variable {s s' sp sp' s0 s0':Sp}{A B:AR}{k:Nat}
theorem jv.mz (h:jv s s'):s'.st.map (λx=>decide (x=0))=s.st.map λx=>decide (x=0):=by
 refine zo λi=>?_;rw[za,za];have a:=h.z i;unfold gf at a;rw[zQ,zQ]at a;by_cases hi:i<s.st.length
 ·have b:i<s'.st.length:=by rw[h.l];exact hi
  rw[cX hi,cX b]at a ⊢;simp only[qk]at a;simp[a]
 ·have d:=h.l;rw[zW O,zW O]
theorem Lw {l l':List Nat}(h:l'.map (λx=>decide (x=0))=l.map λx=>decide (x=0))(a m:Nat)(f:Bool->Bool):((l'.drop a).take m).any (λx=>f (decide (x=0)))=((l.drop a).take m).any λx=>f (decide (x=0)):=by
 have e:∀l:List Nat,((l.drop a).take m).any (λx=>f (decide (x=0)))=(((l.map λx=>decide (x=0)).drop a).take m).any f:=λl=>by
  rw[←List.map_drop,←List.map_take,List.any_map];rfl
 rw[e,e,h]
theorem jv.fA (h:jv s s')(a m:Int):fA s' a m=fA s a m:=by
 unfold Go.Ar.fA;rw[h.l];have:=Lw h.mz a.toNat m.toNat (λb=>!b);have e:∀l:List Nat,l.any (λx=>x != 0)=l.any λx=>!decide (x=0):=λl=>by
  refine congrArg l.any (funext λx=>?_);cases x<;>rfl
 rw[e,e,this]
theorem jv.set (h:jv s s'){a m v:Nat}(hl:a+m<=s.st.length):jv (s.set a m v) (s'.set a m v):=by
 refine⟨by simp[Sp.set,Vf,h.l],λp=>?_,?_⟩
 ·show gf (gA s'.st a (a+m) v) p=0↔gf (gA s.st a (a+m) v) p=0;rw[uy (by rw[h.l];exact hl),uy hl];split
  ·exact Iff.rfl
  ·exact h.z p
 ·show(λw=>if a*32<=w/\w<(a+m)*32 then 0 else s'.wd w)=_
  rw[h.w];rfl
theorem Sv {n:Nat}{a m:Int}(h:Zt n a m=true):a.toNat+m.toNat<=n:=by
 by_cases h0:0<=a/\0<=m
 ·obtain⟨a,rfl⟩:=zc h0.1;obtain⟨m,rfl⟩:=zc h0.2;rw[dD,dD];exact(UJ.1 h).2
 ·exfalso;unfold Zt at h;simp at h;omega
theorem jv.fW (h:jv s s')(a m:Int):jv (fW s a m) (fW s' a m):=by
 unfold Go.Ar.fW;rw[h.fA];split
 ·rename_i h0;refine h.set ?_;unfold Go.Ar.fA at h0;split at h0
  ·rename_i hr;exact Sv hr
  ·simp at h0
 ·exact h
theorem IX (s:Sp)(a m:Nat):KS s (fW s (a:Int) (m:Int)):=by
 by_cases h:fA s (a:Int) (m:Int)=0
 ·have i:=Bn h;obtain⟨r,g,j,_⟩:=FY h;refine⟨r,λp d=>?_⟩;have b:¬(a<=p/\p<a+m):=λe=>d (i.2.2 p e.1 e.2);exact⟨by rw[g,zB b];exact d,λw u=>j w O⟩
 ·unfold fW;rw[zB h];exact KS.refl s
theorem jv.di (h:jv s s')(size:Nat):di s' size=di s size:=by
 unfold Go.Ar.di;rw[h.l]
 congr 1
 funext x
 rw[h.fA]
theorem jv.dA (h:jv s s')(A:AR)(m a no:Nat):(dA A s' m a no).1=(dA A s m a no).1/\(dA A s' m a no).2.1=(dA A s m a no).2.1/\jv (dA A s m a no).2.2 (dA A s' m a no).2.2/\KS s' (dA A s' m a no).2.2:=by
 unfold Go.Ar.dA;split
 ·exact⟨rfl,rfl,h,KS.refl _⟩
 ·unfold U3;rw[h.di];cases hg:Go.Ar.di s (Kn (max m a))with
  | none=>exact⟨rfl,rfl,h,KS.refl _⟩
  | some x=>
   simp only;split
   ·exact⟨rfl,rfl,h.fW _ _,IX _ _ _⟩
   ·exact⟨rfl,rfl,h.fW _ _,IX _ _ _⟩
theorem jv.cN (h:jv s s')(A:AR)(k:Int):(cN A s' k).1=(cN A s k).1/\Vl A s' k=Vl A s k/\jv (cN A s k).2 (cN A s' k).2/\KS s' (cN A s' k).2:=by
 unfold Go.Ar.cN Vl;split
 ·split
  ·rename_i c ss _ _;obtain⟨d,e,a,b⟩:=h.dA A c.aF 1 (k.toNat+1);cases e1:Go.Ar.dA A s c.aF 1 (k.toNat+1)with
   | mk o1 r1=>cases e2:Go.Ar.dA A s' c.aF 1 (k.toNat+1)with
    | mk o2 r2=>
     obtain⟨j,i⟩:=r1;obtain⟨m,g⟩:=r2;rw[e1,e2]at d e a;rw[e2]at b;simp only at d e a b;subst d;subst e;cases o2<;>exact⟨rfl,rfl,a,b⟩
  ·exact⟨rfl,rfl,h,KS.refl _⟩
 ·exact⟨rfl,rfl,h,KS.refl _⟩
theorem jv.cC (h:jv s s')(A:AR)(m a:Int):(cC A s' m a).1=(cC A s m a).1/\QJ A s' m a=QJ A s m a/\Qh A s' m a=Qh A s m a/\jv (cC A s m a).2 (cC A s' m a).2/\KS s' (cC A s' m a).2:=by
 unfold Go.Ar.cC QJ Qh;split
 ·obtain⟨e,g,b,d⟩:=h.dA A m.toNat a.toNat 41;cases e1:Go.Ar.dA A s m.toNat a.toNat 41 with
  | mk o1 r1=>cases e2:Go.Ar.dA A s' m.toNat a.toNat 41 with
   | mk o2 r2=>
    obtain⟨p,j⟩:=r1;obtain⟨r,i⟩:=r2;rw[e1,e2]at e g b;rw[e2]at d;simp only at e g b d;subst e;subst g;cases o2<;>exact⟨rfl,rfl,rfl,b,d⟩
 ·exact⟨rfl,rfl,rfl,h,KS.refl _⟩
variable {W:Wd}
theorem M7 (h:WI W){cl:Int}{l:List Int}(ho:jh W.held k cl l=true)(c x:Int):Um (W.held.filter λp=>!dX k cl l p) c x↔Um W.held c x/\¬(c=cl/\x∈l):=by
 constructor
 ·rintro⟨p,hp,h1,h2,h3⟩;obtain⟨a,d⟩:=zI.1 hp;refine⟨⟨p,a,h1,h2,h3⟩,?_⟩;rintro⟨rfl,b⟩;obtain⟨q,m,e⟩:=(K0.1 ho).1 x b;obtain⟨g,u,r,s⟩:=KZ.1 e;obtain rfl:=h.same (p:=p) (q:=q) a m O;have:dX k c l p=true:=Qe.2 ⟨g,h2,by rw[h3];exact b⟩;rw[this]at d;cases d
 ·rintro⟨⟨p,hp,h1,h2,h3⟩,d⟩;refine⟨p,zI.2 ⟨hp,?_⟩,h1,h2,h3⟩;have:dX k cl l p=false:=nB.2 λb=>by
   obtain⟨_,j,i⟩:=Qe.1 b;exact d ⟨h2.symm.trans j,by rw[←h3];exact i⟩
  rw[this];rfl
theorem Ri {held:List Pc}{cl:Int}{l:List Int}(ho:jh held k cl l=true):∀x∈l,Um held cl x:=λx d=>by
 obtain⟨q,g,a⟩:=(K0.1 ho).1 x d;obtain⟨j,i,b,e⟩:=KZ.1 a;exact⟨q,g,e,i,b⟩
theorem Nl (h:WI W){cl:Int}{l:List Int}(ho:jh W.held k cl l=true)(c x:Int):Um (Gr W.held k cl l true) c x↔Um W.held c x/\¬(c=cl/\x∈l):=by
 constructor
 ·rintro⟨p,hp,h1,h2,h3⟩;obtain⟨q,b,rfl⟩:=Q1.1 hp;by_cases hof:dX k cl l q=true
  ·rw[zC hof]at h1;cases h1
  ·rw[zB hof]at h1 h2 h3;refine⟨⟨q,b,h1,h2,h3⟩,?_⟩;rintro⟨rfl,hx⟩;obtain⟨r,i,a⟩:=(K0.1 ho).1 x hx;obtain⟨d,s,j,m⟩:=KZ.1 a;obtain rfl:=h.same b i O;exact hof (Qe.2 ⟨d,h2,by rw[h3];exact hx⟩)
 ·rintro⟨⟨p,hp,h1,h2,h3⟩,hn⟩;refine⟨p,Q1.2 ⟨p,hp,?_⟩,h1,h2,h3⟩;rw[zB];intro hx;obtain⟨_,g,e⟩:=Qe.1 hx;exact hn ⟨h2.symm.trans g,by rw[←h3];exact e⟩
theorem Sn {held:List Pc}{cl:Int}{l:List Int}:∀p∈Gr held k cl l true,p.eN=false->p∈held:=λp d a=>by
 obtain⟨q,b,rfl⟩:=Q1.1 d;by_cases hof:dX k cl l q=true
 ·rw[zC hof]at a;cases a
 ·rw[zB hof];exact b
theorem Rh (h:WI W)(hk:W.bY[k]?=some A){j:Nat}:(∀x∈YI A (j:Int),∀c,¬Um W.held c x)/\(YI A (j:Int)).Nodup/\(∀c x,Um (Gr W.held k j (YI A (j:Int)) false) c x↔Um W.held c x\/(c=j/\x∈YI A (j:Int))) ∧
 (∀p∈Gr W.held k j (YI A (j:Int)) false,p.eN=false->p∈W.held\/∀c,¬Um W.held c (p.addr:Int)):=by
 obtain⟨o,e1,e2,z,G,E⟩:=EA (h.ga k A hk) (j:Int);rw[dD]at e2;have s:∀x∈YI A (j:Int),∃q∈W.held,q.k=k/\q.cls=j/\(q.addr:Int)=x/\q.eN=true:=λx b=>by
  have m:=e2 x b;obtain⟨t,ht,e⟩:=m;have i:j<A.tb.length:=by rw[←(h.ga k A hk).lt];exact(cZ.1 ht).1
  obtain⟨c,u,F,r,w⟩:=(h.ga k A hk).cl i;have g:fO A j x:=(Vv r).2 ((h.ga k A hk).l8 j c u t r ht x e);obtain⟨q,a,q1,q2,q3⟩:=h.ht k A hk j x g;obtain⟨_,_,_,_,B⟩:=h.cls a q2 (by rw[q1];exact hk);exact⟨q,a,q1,q2,q3,B.2 (by rw[q3];exact⟨t,ht,e⟩)⟩
 have new:∀x∈YI A (j:Int),∀c,¬Um W.held c x:=λx b c D=>by
  obtain⟨q,a,_,_,q3,q4⟩:=s x b;have:=(h.um a D q3).1;rw[q4]at this;cases this
 refine⟨new,z,λc x=>⟨?_,?_⟩,λp d H=>?_⟩
 ·rintro⟨p,d,h1,h2,h3⟩;obtain⟨q,a,rfl⟩:=Q1.1 d;by_cases hof:dX k (j:Int) (YI A (j:Int)) q=true
  ·rw[zC hof]at h2 h3;obtain⟨_,C,y⟩:=Qe.1 hof;exact .inr ⟨h2.symm.trans C,by rw[←h3];exact y⟩
  ·rw[zB hof]at h1 h2 h3;exact .inl ⟨q,a,h1,h2,h3⟩
 ·rintro(⟨p,d,h1,h2,h3⟩|⟨rfl,b⟩)
  ·refine⟨p,Q1.2 ⟨p,d,?_⟩,h1,h2,h3⟩;split
   ·rw[←h1]
   ·rfl
  ·obtain⟨q,a,q1,q2,q3,q4⟩:=s x b;refine⟨{q with eN:=false},Q1.2 ⟨q,a,?_⟩,rfl,q2,q3⟩;rw[zC (Qe.2 ⟨q1,q2,by rw[q3];exact b⟩)]
 ·obtain⟨q,a,rfl⟩:=Q1.1 d;by_cases hof:dX k (j:Int) (YI A (j:Int)) q=true
  ·rw[zC hof];exact .inr (new _ (Qe.1 hof).2.2)
  ·rw[zB hof];exact .inl a
theorem Cw {tb:List cA}{bY:List AR}{sp:Sp}{held new:List Pc}(h:WI ⟨tb,sp,bY,held++new⟩):∀p∈new,∀c,¬Um held c (p.addr:Int):=by
 rintro p b c ⟨q,d,_,_,g⟩;have e:=h.same (p:=p) (q:=q) (nZ _ b) (kC _ d) O;have a:=h.hk;simp only[jU]at a;rw[nT]at a;exact a.2.2 q.key (zF.2 ⟨q,d,rfl⟩) p.key (zF.2 ⟨p,b,rfl⟩) (by rw[e])
theorem Jj {held new:List Pc}{cl:Int}{l:List Int}(h1:∀p∈new,p.eN=false/\p.cls=cl/\(p.addr:Int)∈l)(h2:∀x∈l,∃p∈new,(p.addr:Int)=x)(c x:Int):Um (held++new) c x↔Um held c x\/(c=cl/\x∈l):=by
 constructor
 ·rintro⟨p,b,a1,a2,a3⟩;rcases zK.1 b with b|b
  ·exact .inl ⟨p,b,a1,a2,a3⟩
  ·obtain⟨_,d,g⟩:=h1 p b;exact .inr ⟨a2.symm.trans d,by rw[←a3];exact g⟩
 ·rintro(⟨p,b,a⟩|⟨rfl,hx⟩)
  ·exact⟨p,kC _ b,a⟩
  ·obtain⟨p,b,e⟩:=h2 x hx;exact⟨p,nZ _ b,(h1 p b).1,(h1 p b).2.1,e⟩
theorem DR {tb:List cA}{bY:List AR}{sp:Sp}{held new:List Pc}(h:WI ⟨tb,sp,bY,held++new⟩):∀p∈held++new,p.eN=false->p∈held\/∀c,¬Um held c (p.addr:Int):=λp a _=>by
 rcases zK.1 a with a|a
 ·exact .inl a
 ·exact .inr (Cw h p a)
theorem Vr {ss:List cH}:∀{i:Nat},Zs ss i=none->∀k,k<i->∀s,ss[k]?=some s->¬s.many<s.tk.length
 | 0,_,k,hk,_,_=>by omega
 | i+1,h,k,hk,s,hs=>by
  unfold Zs at h;by_cases hki:k=i
  ·subst hki;rw[hs]at h;simp only at h;intro hlt;rw[zC hlt]at h;split at h
   ·split at h
    ·split at h<;>cases h
    ·cases h
   ·cases h
  ·cases hi:ss[i]? with
   | none=>
    rw[hi]at h;exact Vr h k O s hs
   | some x=>
    rw[hi]at h;simp only at h;split at h
    ·split at h
     ·split at h
      ·split at h<;>cases h
      ·cases h
     ·exact Vr (by assumption) k O s hs
    ·exact Vr h k O s hs
theorem Rb (h:GA A)(hw:Ow A sp){j:Nat}(hE:Vl A sp (j:Int)=0){w:Nat}(h1:1<=w):Yt (cN A sp (j:Int)).1 (j:Int) (w:Int)≠[]:=by
 rcases Ft h hw (j:Int)with⟨_,hn,_⟩|⟨j',c,ss,x,A1,sp1,hj,hk,hk1,_,e,hst,r1,r2,r3,_,hd,hS⟩
 ·exact(hn hE).elim
 ·obtain rfl:j=j':=by omega
  have a:Cl (cN A sp (j:Int)).1 j c (il c ss x):=by
   rw[e];have d:Cl (dP A1 x c.aF (j+1)) j c ss:=hk1;exact Hj d _
  have D:=hS.ga.cG j c _ a;have b:(⟨x,List.replicate c.n false⟩:cH)∈il c ss x:=VJ.2 (.inl rfl);have m:(cN A sp (j:Int)).1.ck (j:Int)=true:=Hr.2 ⟨j,rfl,a.lt⟩;unfold Yt QV VP;rw[m,zC rfl,zB (show ¬((w:Int)<0) by omega),zC rfl,dD,dD,a.1,a.2];simp only;obtain⟨w,rfl⟩:∃v,w=v+1:=⟨w-1,O⟩;cases ho:iU c (il c ss x)with
  | some r=>
   obtain⟨y,E⟩:=r;rw[Gq ho];simp
  | none=>
   exfalso;unfold iU iO at ho;obtain⟨l,z⟩:=zO b;have g:=(cZ.1 z).1;have u:(⟨x,List.replicate c.n false⟩:cH).many<(⟨x,List.replicate c.n false⟩:cH).tk.length:=by
    have:=D.ok.rG;simp[cH.many,yh];omega
   cases hb:Zs (il c ss x) (il c ss x).length with
   | none=>exact Vr hb l g _ z u
   | some i=>
    rw[hb]at ho;obtain⟨_,s,B,p⟩:=Q6 hb;obtain⟨r,C,_⟩:=G3 p;simp only[B,C]at ho;cases ho
end Go.Ar
namespace Go.Ar
open Go.Vc (bU dB cT)
variable {H:Hw}{held:List Pc}{s0:Sp}{t k:Nat}{g:Th}{A:AR}{c:cA}
theorem Qf {p:Ph}{H1:Hw}{g1:Th}{nx:Option Ph}{a e:Int}(ht:t<H.bR.length)(hs:WJ H t p=({H1 with bR:=H.bR.set t g1},nx,a,e)):QW H t p = {H1 with bR:=H.bR.set t {g1 with ph:=nx}}:=by
 unfold QW;rw[hs];show Hw.dV _ t _=_;rw[ZK (g:=g1) (by simp[ht])];simp only[nC]
structure iC (H:Hw) (t:Nat) (p:Ph):Prop where
 ok:uG H t p
 hi:∃held s0,HI (QW H t p) held s0
 ks:KS H.sp (QW H t p).sp
theorem iC.mk' {p:Ph}(hg:H.bR[t]?=some g)(hl:g.bQ.length<=41)(h1:vo H t p){H':Hw}{held':List Pc}{s0':Sp}(e:QW H t p=H')(h2:HI H' held' s0')(h3:KS H.sp H'.sp):iC H t p:=
 ⟨⟨h1,λb a=>by rw[hg]at a;cases a;omega⟩,⟨held',s0',by rw[e];exact h2⟩,by rw[e];exact h3⟩
def Rq (tb:List cA)(g:Th):Ph->Int->Int->Prop
 | .take k,cl,sz=>cl=k/\∃c,tb[k]?=some c/\sz=c.size
 | .cJ k _,cl,sz=>cl=k/\∃c,tb[k]?=some c/\sz=c.size
 | .cL k _,cl,sz=>cl=k/\∃c,tb[k]?=some c/\sz=c.size
 | .grow k _,cl,sz=>cl=k/\∃c,tb[k]?=some c/\sz=c.size
 | .fill,cl,sz=>∃k xs r c,g.bQ=(k,xs)::r/\cl=k/\tb[k]?=some c/\sz=c.size
 | .eI m,cl,sz=>cl = -1/\sz=((m*256:Nat):Int)
 | _,_,_=>False
def pB (H:Hw)(t:Nat):Ph->Nat
 | .take _=>5
 | .cJ _ _=>4
 | .cL k w=>if Yt (H.eC t) (k:Int) (w:Int)=[]then 3 else 1
 | .grow _ _=>2
 | _=>0
def sU (H:Hw)(t:Nat)(p:Ph)(cl sz:Int):Prop:=
 (∃p' g',(WJ H t p).2.1=some p'/\(QW H t p).live=H.live/\(QW H t p).bR[t]?=some g'/\Rq H.tb g' p' cl sz/\pB (QW H t p) t p'<pB H t p) ∨
 ((WJ H t p).2.1=none/\(WJ H t p).2.2.2≠0/\(WJ H t p).2.2.1=0/\(QW H t p).live=H.live) ∨
 ((WJ H t p).2.1=none/\(WJ H t p).2.2.2=0/\bU H.live (WJ H t p).2.2.1=none/\(QW H t p).live=dB H.live (WJ H t p).2.2.1 ((WJ H t p).2.2.1,sz,cl,X9 (QW H t p).bY (WJ H t p).2.2.1))
theorem HI.mem (h:HI H held s0)(hg:H.bR[t]?=some g):g∈H.bR:=zG hg
theorem HI.j3 (h:HI H held s0)(t:Nat):H.own t<H.bY.length:=xf _ (by have:=h.a1;omega)
theorem HI.eC (h:HI H held s0)(t:Nat):H.bY[H.own t]?=some (H.eC t):=by
 have a:=cX (h.j3 t);rw[BJ a];exact a
theorem HI.qP (h:HI H held s0):H.tb.length<=40:=by
 have a:=h.eC 0;have:=(h.wi.ga _ _ a).tb;rw[h.wi.tb _ _ a]at this;exact this
theorem HI.cls (h:HI H held s0)(hk:k<H.tb.length):∃c,H.tb[k]?=some c/\c.ok:=⟨H.tb[k],cX hk,h.ok _ (ka hk)⟩
theorem tL.li {m:Nat}(h:tL m g)(hk:k<m):∃l,g.ls[k]?=some l/\g.li k=l/\fL l/\l.os.length<=128:=by
 have a:=cX (l:=g.ls) (i:=k) (by rw[h.ll];exact hk);have:=h.lo _ (ka (by rw[h.ll];exact hk));exact⟨_,a,yl a,this.1,this.2⟩
theorem tL.ij {m:Nat}(h:tL m g){l':Li}(h1:fL l')(h2:l'.os.length<=128):(g.ls.set k l').length=m/\∀l∈g.ls.set k l',fL l/\l.os.length<=128:=by
 refine⟨by rw[oZ];exact h.ll,λl a=>?_⟩;rcases Ak a with a|rfl
 ·exact h.lo l a
 ·exact⟨h1,h2⟩
theorem Pe {ls:List Li}{l':Li}{hs:List Bt}{ph:Option Ph}(hk:k<ls.length):(⟨ls.set k l',hs,ph⟩:Th).li k=l':=by
 unfold Th.li;rw[EE l' k hk,zC rfl]
theorem HI.wG (h:HI H held s0){y:Int}(hu:Um held (k:Int) y)(hc:H.tb[k]?=some c):Lv held (y,(y,(c.size:Int),(k:Int),X9 H.bY y)):=by
 obtain⟨p,d,j,g,rfl⟩:=hu;obtain⟨A,e,_⟩:=h.wi.hf p d;obtain⟨c',b,i,_⟩:=h.wi.cls d g e;rw[h.wi.tb _ _ e]at b;have a:H.tb[k]?=some c':=b;rw[hc]at a;cases a;exact⟨rfl,p,d,j,g,rfl,by rw[i],by rw[h.oV d]⟩
theorem G0 {ls:List Li}{l:Li}(hl:ls[k]?=some l)(l':Li)(k' x:Int):lL (ls.set k l') k' x+(if(k:Int)=k' then l.os.count x else 0)=lL ls k' x+(if(k:Int)=k' then l'.os.count x else 0):=by
 have:=T6 l' (cZ.1 hl).1 k' x;rw[zQ,hl]at this;exact this
theorem Oz {ls:List Li}{l:Li}(hl:ls[k]?=some l)(x:Int):lL ls (k:Int) x=l.os.count x:=by
 rw[vM,zQ,hl];rfl
theorem SV (h:HI H held s0)(hg:H.bR[t]?=some g)(hph:g.ph=some (.take k)){cl sz:Int}(hr:Rq H.tb g (.take k) cl sz):iC H t (.take k)/\sU H t (.take k) cl sz:=by
 have N:=(cZ.1 hg).1;have b:=h.th g (h.mem hg);obtain⟨P,C⟩:g.bQ=[]/\k<H.tb.length:=by have:=b.ph;unfold iu at this;rw[hph]at this;exact this
 obtain⟨rfl,c,m,rfl⟩:=hr;have r:=h.ok c (zG m);obtain⟨l,hl,i,M,R⟩:=b.li C;have d:=EG r M;have j:=GE hg;cases hT:Ky c l with
 | mk o l'=>
  rw[hT]at d;cases o with
  | some y=>
   have B:WJ H t (.take k)=({{H with live:=dB H.live y (y,(c.size:Int),(k:Int),X9 H.bY y)}with bR:=H.bR.set t {g with ls:=g.ls.set k l'}},none,y,0):=by
    simp only[WJ,j,Uq m,i,hT,VV,ZK hg,Th.ij]
   have e:=Qf N B;have w:1<=gN g (k:Int) y:=by
    have:=DS hT y;rw[Dm]at this;unfold gN;rw[Oz hl];omega
   have Q:=h.qU (h.mem hg) w;have L:=h.l3 (h.mem hg) w;have z:l'.os.length<=128:=by
    have:l'.os.length<=l.os.length:=by
     unfold Ky at hT;split at hT
     ·cases hT
     ·cases hT;simp
    omega
   obtain⟨ll,J⟩:=b.ij (k:=k) d z;have G:=h.kA hg (g':={g with ls:=g.ls.set k l',ph:=none}) (live':=dB H.live y (y,(c.size:Int),(k:Int),X9 H.bY y)) (λD x=>by
    rw[BM _ L];have E:=G0 hl l' D x;have W:=DS hT x;unfold gN;rw[hph];simp only[jB];by_cases hkk:(k:Int)=D
    ·simp only[hkk,zR]at E ⊢;omega
    ·simp only[hkk,zp]at E ⊢;omega)
    (Go.Vc.gO h.lk) (λU A=>by
     rcases(G8 L).1 A with A|rfl
     ·exact .inl A
     ·exact .inr (h.wG Q m))
    (λs a F=>by cases F) ⟨ll,J,b.hb,b.hl,by unfold iu;exact P⟩
   refine⟨iC.mk' hg b.hl ⟨C,λV K u=>?_⟩ e G (KS.refl _),.inr (.inr ?_)⟩
   ·rw[j,i,Uq m,hT]at u;cases u;exact(h.i63 Q).1
   ·rw[e,B];exact⟨rfl,rfl,L,rfl⟩
  | none=>
   have B:WJ H t (.take k)=({H with bR:=H.bR.set t {g with ls:=g.ls.set k l'}},some (.cJ k (oz c l')),0,0):=by
    simp only[WJ,j,Uq m,i,hT,ZK hg,Th.ij]
   have e:=Qf N B;obtain⟨o1,o2⟩:=Mj hT;obtain⟨ll,J⟩:=b.ij (k:=k) d (by rw[o2];simp);have p:=d.ns;have S:1<=oz c l'/\oz c l'<=32:=by
    unfold cA.ok at r;unfold oz;simp only at p;omega
   have G:=h.kA hg (g':={g with ls:=g.ls.set k l',ph:=some (.cJ k (oz c l'))}) (live':=H.live) (λD x=>by
    have E:=G0 hl l' D x;rw[o1,o2]at E;unfold gN;rw[hph];simp only[jB];omega) h.lk (λU A=>.inl A) (λs a F=>by cases F) ⟨ll,J,b.hb,b.hl,by
     unfold iu;exact⟨P,C,by rw[Pe (by rw[b.ll];exact C)];exact o2,S⟩⟩
   refine⟨iC.mk' hg b.hl ⟨C,λV K u=>?_⟩ e G (KS.refl _),.inl ?_⟩
   ·rw[j,i,Uq m,hT]at u;cases u
   ·rw[e,B];exact⟨_,_,rfl,rfl,zN N,⟨rfl,c,m,rfl⟩,by simp[pB]⟩
theorem GC (h:GA A)(h0:Qi A (k:Int)=0)(hc:A.tb[k]?=some c):∃x xs,YI A (k:Int)=x::xs/\xs.length+1=c.batch:=by
 have b:YI A (k:Int)=(match A.cO[k]? with
  | some t=>t.bs.getLast?.getD []
  | none=>[]):=by unfold YI;rw[zC h0,dD];rfl
 unfold Qi at h0;rw[dD]at h0;split at h0
 ·split at h0
  ·rename_i t ht;split at h0
   ·cases h0
   ·rename_i hb;rw[ht]at b;simp only at b;have j:t.bs.getLast?=some (t.bs.getLast hb):=List.getLast?_eq_some_getLast hb;rw[j]at b;simp only[qk]at b;have:=h.pa k c t hc ht _ (List.getLast_mem hb);rw[←b]at this;have m:=h.cG;cases hx:YI A (k:Int)with
    | nil=>
     rw[hx]at this;have d:k<A.tb.length:=(cZ.1 hc).1;obtain⟨g,i,_,a,_⟩:=h.cl d;have e:g=c:=Option.some.inj (a.1.symm.trans hc);have:=(h.cG k g i a).ok;unfold cA.ok at this;simp at *;subst e;omega
    | cons x xs=>exact⟨x,xs,rfl,by rw[hx]at this;simpa using this⟩
  ·cases h0
 ·cases h0
theorem M0 (h:HI H held s0)(hg:H.bR[t]?=some g){w:Nat}(hph:g.ph=some (.cJ k w)){cl sz:Int}(hr:Rq H.tb g (.cJ k w) cl sz):iC H t (.cJ k w)/\sU H t (.cJ k w) cl sz:=by
 have D:=(cZ.1 hg).1;have d:=h.th g (h.mem hg);obtain⟨G,B,m,U⟩:g.bQ=[]/\k<H.tb.length/\(g.li k).os=[]/\1<=w/\w<=32:=by have:=d.ph;unfold iu at this;rw[hph]at this;exact this
 obtain⟨rfl,c,i,rfl⟩:=hr;have K:=h.ok c (zG i);have u:=K;unfold cA.ok at u;have A:=h.eC t;have ga:=h.wi.ga _ _ A;have z:(H.eC t).tb[k]?=some c:=by rw[h.wi.tb _ _ A];exact i
 have M:vo H t (.cJ k w):=⟨B,λC=>by
  obtain⟨x,r,e,_⟩:=GC ga C z;rw[e];simp⟩
 by_cases hcase:w=c.batch/\Qi (H.eC t) (k:Int)=0
 ·obtain⟨rfl,C⟩:=hcase;obtain⟨x,r,L,W⟩:=GC ga C z;have p:WJ H t (.cJ k c.batch)=({H.cF (H.own t) (ZQ (H.eC t) (k:Int))with bR:=H.bR.set t {g with bQ:=[(k,x::r)]}},some .fill,0,0):=by
   simp only[WJ,Uq i,zR,C,Q8,L];rw[ZK (g:=g) (by exact hg),G];rfl
  have e:=Qf (H1:=H.cF (H.own t) (ZQ (H.eC t) (k:Int))) D p;obtain⟨R,X,S,Q⟩:=Rh h.wi A (j:=k);have wi:=h.wi.wM A (k:Int);have F:=h.eZ hg (g':={g with bQ:=[(k,x::r)],ph:=some .fill}) (live':=H.live) wi h.m4 rfl (by simp[Wd.put]) Q (λP y=>by
   rw[As X (λy N=>R y N _) S,L];unfold gN;rw[hph,G];simp only[jB,Va,VW];omega) h.lk (λV J=>.inl J) (λs a E=>by cases E) ⟨d.ll,d.lo,λb hb=>by
    simp only[zP]at hb;subst hb;exact⟨B,by simp,by simp;omega⟩,by simp,by
    unfold iu;exact⟨k,x,r,rfl,B,m,O⟩⟩
  refine⟨iC.mk' hg d.hl M e F (KS.refl _),.inl ?_⟩;rw[e,p];exact⟨_,_,rfl,rfl,zN D,⟨k,x::r,[],c,rfl,rfl,i,rfl⟩,by simp[pB]⟩
 ·have p:WJ H t (.cJ k w)=({H with bR:=H.bR.set t g},some (.cL k w),0,0):=by
   have:H.bR.set t g=H.bR:=Qz hg;rw[this];simp only[WJ,Uq i];split
   ·split
    ·exact(hcase ⟨by assumption,by assumption⟩).elim
    ·rfl
   ·rfl
  have e:=Qf D p;have F:=h.kA hg (g':={g with ph:=some (.cL k w)}) (live':=H.live) (λP x=>by
   unfold gN;rw[hph];simp only[jB]) h.lk (λV J=>.inl J) (λs a E=>by cases E) ⟨d.ll,d.lo,d.hb,d.hl,by
    unfold iu;exact⟨G,B,m,U⟩⟩
  refine⟨iC.mk' hg d.hl M e F (KS.refl _),.inl ?_⟩;rw[e,p];refine⟨_,_,rfl,rfl,zN D,⟨rfl,c,i,rfl⟩,?_⟩;simp only[pB];split<;>omega
theorem JY (h:GA A)(j w:Nat):(Yt A (j:Int) (w:Int)).length<=w:=by
 unfold Yt;split
 ·rename_i h0;have a:A.ck (j:Int)=true:=by
   unfold QV at h0;split at h0
   ·assumption
   ·cases h0
  obtain⟨i,g,e⟩:=Hr.1 a;obtain⟨c,d,t,b,m⟩:=h.cl e;have:i=j:=by omega
  subst this;unfold VP;rw[dD,dD,b.1,b.2];exact(Gn w (h.cG i c d b)).2.2.1
 ·simp
theorem PI (H:Hw)(t:Nat)(B:AR)(h:H.own t<H.bY.length)(sp:Sp)(bR:List Th):Hw.eC {H.cF (H.own t) B with sp:=sp,bR:=bR} t=B:=by
 refine BJ ?_;have:Hw.own {H.cF (H.own t) B with sp:=sp,bR:=bR} t=H.own t:=by unfold Hw.own Hw.cF;simp
 rw[this];simp[Hw.cF,h]
theorem S4 (h:HI H held s0)(hg:H.bR[t]?=some g){w:Nat}(hph:g.ph=some (.cL k w)){cl sz:Int}(hr:Rq H.tb g (.cL k w) cl sz):iC H t (.cL k w)/\sU H t (.cL k w) cl sz:=by
 have C:=(cZ.1 hg).1;have d:=h.th g (h.mem hg);obtain⟨E,G,m,P⟩:g.bQ=[]/\k<H.tb.length/\(g.li k).os=[]/\1<=w/\w<=32:=by have:=d.ph;unfold iu at this;rw[hph]at this;exact this
 obtain⟨rfl,c,K,rfl⟩:=hr;have L:=h.eC t;have ga:=h.wi.ga _ _ L;have wi:=h.wi.from L (k:Int) (w:Int);have j:=JY ga k w;have A:=(Es ga (k:Int) (w:Int)).2.2.1;cases hv:Yt (H.eC t) (k:Int) (w:Int)with
 | nil=>
  have B:WJ H t (.cL k w)=({H.cF (H.own t) (YM (H.eC t) (k:Int) (w:Int))with bR:=H.bR.set t g},some (.grow k w),0,0):=by
   have:H.bR.set t g=H.bR:=Qz hg;rw[this];simp only[WJ,hv,zR,Hw.cF]
  have e:=Qf (H1:=H.cF (H.own t) (YM (H.eC t) (k:Int) (w:Int))) C B;rw[hv]at wi;simp only[rp,lC]at wi;have D:=h.eZ hg (g':={g with ph:=some (.grow k w)}) (live':=H.live) wi h.m4 rfl (by simp[Wd.put]) (λp i _=>.inl i) (λM y=>by
   unfold gN;rw[hph];simp only[jB]) h.lk (λQ F=>.inl F) (λs a i=>by cases i) ⟨d.ll,d.lo,d.hb,d.hl,by
    unfold iu;exact⟨E,G,m,P⟩⟩
  refine⟨iC.mk' hg d.hl trivial e D (KS.refl _),.inl ?_⟩;rw[e,B];exact⟨_,_,rfl,rfl,zN C,⟨rfl,c,K,rfl⟩,by simp[pB,hv]⟩
 | cons v vs=>
  have B:WJ H t (.cL k w)=({H.cF (H.own t) (YM (H.eC t) (k:Int) (w:Int))with bR:=H.bR.set t {g with bQ:=[(k,(v::vs).map λ(x:Nat)=>(x:Int))]}},some .fill,0,0):=by
   simp only[WJ,hv,Q8];rw[zB aA,ZK (g:=g) (by exact hg),E];rfl
  have e:=Qf (H1:=H.cF (H.own t) (YM (H.eC t) (k:Int) (w:Int))) C B;rw[hv]at wi j A;have u:((v::vs).map λ(x:Nat)=>(x:Int)).Nodup:=List.Pairwise.map (R:=(· ≠ ·)) _ (λa b J e=>J O) A;have app:=Jj (held:=held) (new:=(v::vs).map λy=>(⟨H.own t,(k:Int),y,pv H.tb (k:Int),false⟩:Pc)) (cl:=(k:Int)) (l:=(v::vs).map λ(x:Nat)=>(x:Int)) (λp i=>by
   obtain⟨y,r,rfl⟩:=zF.1 i;exact⟨rfl,rfl,zF.2 ⟨y,r,rfl⟩⟩) λx S=>by
   obtain⟨y,r,rfl⟩:=zF.1 S;exact⟨_,zF.2 ⟨y,r,rfl⟩,rfl⟩
  have new:=Cw wi;have D:=h.eZ hg (g':={g with bQ:=[(k,(v::vs).map λ(x:Nat)=>(x:Int))],ph:=some .fill}) (live':=H.live) wi h.m4 rfl (by simp[Wd.put]) (DR wi) (λM y=>by
   rw[As u (λy r=>by
    obtain⟨z,N,rfl⟩:=zF.1 r;exact new ⟨H.own t,(k:Int),z,pv H.tb (k:Int),false⟩ (zF.2 ⟨z,N,rfl⟩) _) app]
   unfold gN;rw[hph,E];simp only[jB,Va,VW];omega) h.lk (λQ F=>.inl F) (λs a i=>by cases i) ⟨d.ll,d.lo,λb hb=>by
    simp only[zP]at hb;subst hb;exact⟨G,by simp,by simp at j ⊢;omega⟩,by simp,by
    unfold iu;exact⟨k,(v:Int),vs.map λ(x:Nat)=>(x:Int),rfl,G,m,by simp at j ⊢;omega⟩⟩
  refine⟨iC.mk' hg d.hl trivial e D (KS.refl _),.inl ?_⟩;rw[e,B];refine⟨_,_,rfl,rfl,zN C,⟨k,_,[],c,rfl,rfl,K,rfl⟩,?_⟩;simp[pB,hv]
theorem MP (h:HI H held s0)(hg:H.bR[t]?=some g){w:Nat}(hph:g.ph=some (.grow k w)){cl sz:Int}(hr:Rq H.tb g (.grow k w) cl sz):iC H t (.grow k w)/\sU H t (.grow k w) cl sz:=by
 have B:=(cZ.1 hg).1;have b:=h.th g (h.mem hg);obtain⟨D,K,x,C⟩:g.bQ=[]/\k<H.tb.length/\(g.li k).os=[]/\1<=w/\w<=32:=by have:=b.ph;unfold iu at this;rw[hph]at this;exact this
 obtain⟨rfl,c,F,rfl⟩:=hr;have A:=h.eC t;have ga:=h.wi.ga _ _ A;obtain⟨e1,e2,E,r⟩:=h.m4.cN (H.eC t) (k:Int);have wi:=h.wi.grow A (k:Int);by_cases h0:Vl (H.eC t) H.sp (k:Int)=0
 ·have m:WJ H t (.grow k w)=({{H.cF (H.own t) (cN (H.eC t) H.sp (k:Int)).1 with sp:=(cN (H.eC t) H.sp (k:Int)).2}with bR:=H.bR.set t g},some (.cL k w),0,0):=by
   have:H.bR.set t g=H.bR:=Qz hg;rw[this];simp only[WJ,h0,zR,Hw.cF]
  have e:=Qf (H1:={H.cF (H.own t) (cN (H.eC t) H.sp (k:Int)).1 with sp:=(cN (H.eC t) H.sp (k:Int)).2}) B m;have d:=Rb ga (h.wi.ow _ _ A) (j:=k) (by rw[←e2];exact h0) C.1;rw[show(Wd.mk H.tb s0 H.bY held).sp=s0 from rfl,←e1]at d;rw[show(Wd.mk H.tb s0 H.bY held).sp=s0 from rfl,←e1]at wi;have z:=h.eZ hg (g':={g with ph:=some (.cL k w)}) (live':=H.live) wi E r.l (by simp[Wd.put]) (λp i _=>.inl i) (λJ y=>by
   unfold gN;rw[hph];simp only[jB]) h.lk (λG u=>.inl u) (λs a i=>by cases i) ⟨b.ll,b.lo,b.hb,b.hl,by
    unfold iu;exact⟨D,K,x,C⟩⟩
  refine⟨iC.mk' hg b.hl trivial e z r,.inl ?_⟩;rw[e,m];refine⟨_,_,rfl,rfl,zN B,⟨rfl,c,F,rfl⟩,?_⟩;have:=PI H t (cN (H.eC t) H.sp (k:Int)).1 (h.j3 t) (cN (H.eC t) H.sp (k:Int)).2 (H.bR.set t {g with ph:=some (.cL k w)});simp only[pB];rw[this,zB d];omega
 ·have m:WJ H t (.grow k w)=({{H.cF (H.own t) (cN (H.eC t) H.sp (k:Int)).1 with sp:=(cN (H.eC t) H.sp (k:Int)).2}with bR:=H.bR.set t g},none,0,Vl (H.eC t) H.sp (k:Int)):=by
   have:H.bR.set t g=H.bR:=Qz hg;rw[this];simp only[WJ,h0,zp,Hw.cF]
  have e:=Qf (H1:={H.cF (H.own t) (cN (H.eC t) H.sp (k:Int)).1 with sp:=(cN (H.eC t) H.sp (k:Int)).2}) B m;rw[show(Wd.mk H.tb s0 H.bY held).sp=s0 from rfl,←e1]at wi;have z:=h.eZ hg (g':={g with ph:=none}) (live':=H.live) wi E r.l (by simp[Wd.put]) (λp i _=>.inl i) (λJ y=>by
   unfold gN;rw[hph];simp only[jB]) h.lk (λG u=>.inl u) (λs a i=>by cases i) ⟨b.ll,b.lo,b.hb,b.hl,by
    unfold iu;exact D⟩
  refine⟨iC.mk' hg b.hl trivial e z r,.inr (.inl ?_)⟩;rw[e,m];exact⟨rfl,h0,rfl,rfl⟩
theorem RP (h:HI H held s0)(hg:H.bR[t]?=some g)(hph:g.ph=some .fill){cl sz:Int}(hr:Rq H.tb g .fill cl sz):iC H t .fill/\sU H t .fill cl sz:=by
 have U:=(cZ.1 hg).1;have j:=h.th g (h.mem hg);obtain⟨k,x,xs,w,J,i,R⟩:∃k x xs,g.bQ=[(k,x::xs)]/\k<H.tb.length/\(g.li k).os=[]/\xs.length<=128:=by have:=j.ph;unfold iu at this;rw[hph]at this;exact this
 obtain⟨k',V,r,c,z,rfl,F,rfl⟩:=hr;rw[w]at z;obtain⟨d, -⟩:=List.cons.inj z;obtain rfl:k=k':=congrArg Prod.fst d;obtain⟨l,hl,p,E,N⟩:=j.li J;have u:=GE hg;rw[p]at i;have m:(eB xs.reverse l).os=xs.reverse:=by unfold eB;rw[i,zB aE];simp
 have G:WJ H t .fill=({{H with live:=dB H.live x (x,(c.size:Int),(k:Int),X9 H.bY x)}with bR:=H.bR.set t {ls:=g.ls.set k (eB xs.reverse l),bQ:=[],ph:=g.ph}},none,x,0):=by
  simp only[WJ,u,w,Uq F,VV,ZK hg,p]
 have e:=Qf U G;have A:1<=gN g (k:Int) x:=by
  unfold gN;rw[w,Va,zC rfl];have:1<=(x::xs).count x:=Cd.2 aA;simp only;omega
 have K:=h.qU (h.mem hg) A;have C:=h.l3 (h.mem hg) A;obtain⟨S,Q⟩:=j.ij (k:=k) (yC (xs:=xs.reverse) E) (by rw[m];simp;omega);have M:=h.kA hg (g':={ls:=g.ls.set k (eB xs.reverse l),bQ:=[],ph:=none}) (live':=dB H.live x (x,(c.size:Int),(k:Int),X9 H.bY x)) (λk' y=>by
  rw[BM _ C];have D:=G0 hl (eB xs.reverse l) k' y;rw[i,m,List.count_reverse,List.count_nil]at D;have X:(x::xs).count y=[x].count y+xs.count y:=xA (l₁:=[x]) (l₂:=xs);unfold gN;rw[hph,w];simp only[jB,Va,VW];by_cases d:(k:Int)=k'
  ·simp only[d,zR]at D ⊢;omega
  ·simp only[d,zp]at D ⊢;omega)
  (Go.Vc.gO h.lk) (λW B=>by
   rcases(G8 C).1 B with B|rfl
   ·exact .inl B
   ·exact .inr (h.wG K F))
  (λs a L=>by cases L) ⟨S,Q,λb P=>by simp at P,by simp,by unfold iu;rfl⟩
 refine⟨iC.mk' hg j.hl ⟨k,x,xs,[],by rw[u];exact w,J,(h.i63 K).1,by rw[u,p,i];simp;omega⟩ e M (KS.refl _),.inr (.inr ?_)⟩;rw[e,G];exact⟨rfl,rfl,C,rfl⟩
theorem Tp (h:HI H held s0)(hg:H.bR[t]?=some g){m:Nat}(hph:g.ph=some (.eI m)){cl sz:Int}(hr:Rq H.tb g (.eI m) cl sz):iC H t (.eI m)/\sU H t (.eI m) cl sz:=by
 have P:=(cZ.1 hg).1;have b:=h.th g (h.mem hg);obtain⟨L,U,S⟩:g.bQ=[]/\1<=m/\m<=64:=by have:=b.ph;unfold iu at this;rw[hph]at this;exact this
 obtain⟨rfl,rfl⟩:=hr;have N:=h.eC t;have ga:=h.wi.ga _ _ N;obtain⟨e1,e2,Q,M,B⟩:=h.m4.cC (H.eC t) (m:Int) 1;have wi:=h.wi.wZ N (m:Int) 1;rw[show(Wd.mk H.tb s0 H.bY held).sp=s0 from rfl,←e1,←e2,←Q]at wi;by_cases h0:QJ (H.eC t) H.sp (m:Int) 1=0
 ·rw[zC h0]at wi;have j:=Cw wi;have w:=Jj (held:=held) (new:=[(⟨H.own t, -1,Qh (H.eC t) H.sp (m:Int) 1*256,(m:Int).toNat*256,false⟩:Pc)]) (cl:=-1) (l:=[((Qh (H.eC t) H.sp (m:Int) 1*256:Nat):Int)]) (λp d=>by
   simp only[zP]at d;subst d;exact⟨rfl,rfl,by simp⟩) λx D=>by
   simp only[zP]at D;subst D;exact⟨_,zP.2 rfl,rfl⟩
  have i:(⟨H.own t, -1,Qh (H.eC t) H.sp (m:Int) 1*256,(m:Int).toNat*256,false⟩:Pc)∈held++[(⟨H.own t, -1,Qh (H.eC t) H.sp (m:Int) 1*256,(m:Int).toNat*256,false⟩:Pc)]:=by simp
  have J:=wi.size_pos i;have u:=wi.jL i;have E:=wi.owner i (x:=Qh (H.eC t) H.sp (m:Int) 1*256) (zD _) (by simp only at J ⊢;omega);generalize C:Qh (H.eC t) H.sp (m:Int) 1=V at *;have r:bU H.live ((V*256:Nat):Int)=none:=h.tT λF W=>j _ (zP.2 rfl) F W;have A:WJ H t (.eI m)=({{H.cF (H.own t) (cC (H.eC t) H.sp (m:Int) 1).1 with sp:=(cC (H.eC t) H.sp (m:Int) 1).2,live:=dB H.live ((V*256:Nat):Int) (((V*256:Nat):Int),((m*256:Nat):Int), -1,X9 (H.bY.set (H.own t) (cC (H.eC t) H.sp (m:Int) 1).1) ((V*256:Nat):Int))}with bR:=H.bR.set t g},none,((V*256:Nat):Int),0):=by
   have:H.bR.set t g=H.bR:=Qz hg;rw[this];simp only[WJ,h0,zR,Hw.cF,VV,C]
  have e:=Qf (H1:={H.cF (H.own t) (cC (H.eC t) H.sp (m:Int) 1).1 with sp:=(cC (H.eC t) H.sp (m:Int) 1).2,live:=dB H.live ((V*256:Nat):Int) (((V*256:Nat):Int),((m*256:Nat):Int), -1,X9 (H.bY.set (H.own t) (cC (H.eC t) H.sp (m:Int) 1).1) ((V*256:Nat):Int))}) P A;have G:=h.eZ hg (g':={g with ph:=none}) (live':=dB H.live ((V*256:Nat):Int) (((V*256:Nat):Int),((m*256:Nat):Int), -1,X9 (H.bY.set (H.own t) (cC (H.eC t) H.sp (m:Int) 1).1) ((V*256:Nat):Int))) wi M B.l (by simp[Wd.put]) (DR wi) (λF y=>by
   rw[BM _ r,As (l:=[((V*256:Nat):Int)]) (cl:=-1) aA (λy K=>by
    simp only[zP]at K;subst K;exact j _ (zP.2 rfl) _) w]
   unfold gN;rw[hph];simp only[jB];omega) (Go.Vc.gO h.lk) (λR z=>by
    rcases(G8 r).1 z with z|rfl
    ·exact .inl z
    ·refine .inr ⟨rfl,_,i,rfl,rfl,rfl,?_,?_⟩
     ·simp
     ·exact E) (λs a d=>by cases d) ⟨b.ll,b.lo,b.hb,b.hl,by
    unfold iu;exact L⟩
  refine⟨iC.mk' hg b.hl ?_ e G B,.inr (.inr ?_)⟩
  ·show Qh (H.eC t) H.sp (m:Int) 1<=1000000;rw[C];simp only at u;omega
  ·rw[e,A];exact⟨rfl,rfl,r,rfl⟩
 ·rw[zB h0]at wi;have C:Qh (H.eC t) H.sp (m:Int) 1=0:=by
   unfold QJ at h0;unfold Qh;split
   ·rename_i d;rw[d,zC rfl]at h0;split at h0
    ·exact(h0 rfl).elim
    ·rename_i hn;cases D:(dA (H.eC t) H.sp (m:Int).toNat (1:Int).toNat 41).1 with
     | none=>rfl
     | some y=>rw[D]at hn;simp at hn
   ·rfl
  have A:WJ H t (.eI m)=({{H.cF (H.own t) (cC (H.eC t) H.sp (m:Int) 1).1 with sp:=(cC (H.eC t) H.sp (m:Int) 1).2}with bR:=H.bR.set t g},none,0,QJ (H.eC t) H.sp (m:Int) 1):=by
   have:H.bR.set t g=H.bR:=Qz hg;rw[this];simp only[WJ,h0,zp,Hw.cF]
  have e:=Qf (H1:={H.cF (H.own t) (cC (H.eC t) H.sp (m:Int) 1).1 with sp:=(cC (H.eC t) H.sp (m:Int) 1).2}) P A;have G:=h.eZ hg (g':={g with ph:=none}) (live':=H.live) wi M B.l (by simp[Wd.put]) (λp d _=>.inl d) (λF y=>by
   unfold gN;rw[hph];simp only[jB]) h.lk (λR z=>.inl z) (λs a d=>by cases d) ⟨b.ll,b.lo,b.hb,b.hl,by
    unfold iu;exact L⟩
  refine⟨iC.mk' hg b.hl ?_ e G B,.inr (.inl ?_)⟩
  ·show Qh (H.eC t) H.sp (m:Int) 1<=1000000;rw[C];omega
  ·rw[e,A];exact⟨rfl,h0,rfl,rfl⟩
theorem Ty {W:Wd}(h:WI W)(hk:W.bY[k]?=some A){j:Nat}{l:List Int}(hl:∀x∈l,∃p∈W.held,lM k (j:Int) x p=true)(hn:l.Nodup)(hj:j<W.tb.length):Kd A (j:Int) l=0/\WI (W.put k (ZN A (j:Int) l) W.sp (W.held.filter λp=>!dX k (j:Int) l p)):=by
 have ga:=h.ga k A hk;have e:jh W.held k (j:Int) l=true:=K0.2 ⟨hl,hn⟩;obtain⟨c,w,_,d,_⟩:=ga.cl (k:=j) (by rw[h.tb k A hk];exact hj);have g:Kd A (j:Int) l=0:=by
  rw[Ga ga d];refine DL ⟨λx s=>?_,hn⟩;obtain⟨p,r,b⟩:=hl x s;obtain⟨m,u,i,y⟩:=KZ.1 b;obtain⟨_,_,_,a,_⟩:=h.cls r u (by rw[m];exact hk);rw[i]at a;exact(Vv d).1 a
 refine⟨g,?_⟩;have:=h.PE hk e;rw[zC g,h.yM e]at this;exact this
theorem Ic {xs:List Int}{tb:List cA}{ars0:List AR}(hH:H.tb=tb)(h:WI ⟨tb,s0,H.bY,held⟩)(hk:k<tb.length)(hxs:∀x∈xs,Um held (k:Int) x)(hn:xs.Nodup)(ha:∀p∈held,X9 ars0 (p.addr:Int)=(p.k:Int)):∀j,j<=H.bY.length →
 ∃ars',Vy H k (ZX ars0 xs) (List.range j) = {H with bY:=ars'}/\ars'.length=H.bY.length/\WI ⟨tb,s0,ars',held.filter λp=>!(decide (p.k<j)&&(p.cls==(k:Int)&&xs.contains (p.addr:Int)))⟩
 | 0,_=>by
  refine⟨H.bY,rfl,rfl,?_⟩;have:(held.filter λp=>!(decide (p.k<0)&&(p.cls==(k:Int)&&xs.contains (p.addr:Int))))=held:=qW.2 λp _=>by simp
  rw[this];exact h
 | j+1,hj=>by
  obtain⟨ars',e,w,y⟩:=Ic hH h hk hxs hn ha j O;rw[VA,e];have u:ars'[j]?=some (ars'[j]' O):=cX _;simp only[u];have b:∀{p:Pc},p∈held->p.k=j->((p.addr:Int)∈ZX ars0 xs j↔(p.addr:Int)∈xs):=λ{p} d a=>by
   unfold ZX;rw[zI,ha p d,a];simp
  have g:((held.filter λp=>!(decide (p.k<j)&&(p.cls==(k:Int)&&xs.contains (p.addr:Int)))).filter λp=>!dX j (k:Int) (ZX ars0 xs j) p)=held.filter λp=>!(decide (p.k<j+1)&&(p.cls==(k:Int)&&xs.contains (p.addr:Int))):=by
   rw[Dp];apply vS;intro p d;have e1:dX j (k:Int) (ZX ars0 xs j) p=(p.k==j&&(p.cls==(k:Int)&&xs.contains (p.addr:Int))):=by
    unfold dX;by_cases a:p.k=j
    ·have:=b d a;have e2:(ZX ars0 xs j).contains (p.addr:Int)=xs.contains (p.addr:Int):=by
      rw[kT,Ae,Ae];exact this
     rw[e2]
    ·have:(p.k==j)=false:=by simpa using a
     rw[this];rfl
   rw[e1];have A:decide (p.k<j+1)=(decide (p.k<j)||p.k==j):=by
    rw[kT];simp;omega
   rw[A];cases p.k==j<;>cases decide (p.k<j)<;>cases(p.cls==(k:Int)&&xs.contains (p.addr:Int))<;>rfl
  by_cases d:ZX ars0 xs j=[]
  ·rw[zC d];refine⟨ars',rfl,w,?_⟩;rw[←g,d];have:∀p:Pc,(!dX j (k:Int) [] p)=true:=λp=>by simp[dX]
   rw[qW.2 λp _=>this p];exact y
  ·rw[zB d];refine⟨ars'.set j (ZN (ars'[j]' O) (k:Int) (ZX ars0 xs j)),by simp[Hw.cF],by simp[w],?_⟩;rw[←g];refine(Ty y u (j:=k) (l:=ZX ars0 xs j) (λx r=>?_) (hn.sublist tf) hk).2;unfold ZX at r;obtain⟨m,i⟩:=zI.1 r;obtain⟨p,d,z,B,s⟩:=hxs x m;have a:p.k=j:=by
    have:=ha p d;rw[s]at this;rw[this]at i;have:(p.k:Int)=(j:Int):=by simpa using i
    omega
   exact⟨p,zI.2 ⟨d,by simp[a]⟩,KZ.2 ⟨a,B,s,z⟩⟩
theorem JX {tb:List cA}(hH:H.tb=tb)(h:WI ⟨tb,s0,H.bY,held⟩){own:Nat}(hown:own<H.bY.length)(hk:k<tb.length){xs:List Int}(hxs:∀x∈xs,Um held (k:Int) x)(hn:xs.Nodup) :
 ∃ars' held',Gp H own k xs = {H with bY:=ars'}/\ars'.length=H.bY.length/\WI ⟨tb,s0,ars',held'⟩/\(∀c x,Um held' c x↔Um held c x/\¬(c=(k:Int)/\x∈xs))/\∀p∈held',p.eN=false->p∈held:=by
 have m:H.bY[own]?=some H.bY[own]:=cX hown;have y:∀p∈held,X9 H.bY (p.addr:Int)=(p.k:Int):=λp a=>h.owner a (zD _) (by have:=(h.size_pos a).1;omega);have all:∃ars' held',Vy H k (ZX H.bY xs) (List.range H.bY.length) = {H with bY:=ars'}/\ars'.length=H.bY.length/\WI ⟨tb,s0,ars',held'⟩/\(∀c x,Um held' c x↔Um held c x/\¬(c=(k:Int)/\x∈xs))/\∀p∈held',p.eN=false->p∈held:=by
  obtain⟨ars',e,u,j⟩:=Ic hH h hk hxs hn y H.bY.length (zD _);refine⟨ars',_,e,u,j,λc x=>?_,λp a _=>(zI.1 a).1⟩;constructor
  ·rintro⟨p,a,g,i,d⟩;obtain⟨a,hf⟩:=zI.1 a;refine⟨⟨p,a,g,i,d⟩,?_⟩;rintro⟨rfl,b⟩;obtain⟨B,A,_⟩:=h.hf p a;have r:p.k<H.bY.length:=(cZ.1 A).1;rw[i,d]at hf;simp[r,b]at hf
  ·rintro⟨⟨p,a,g,i,d⟩,hno⟩;refine⟨p,zI.2 ⟨a,?_⟩,g,i,d⟩;rw[i,d];by_cases hc:c=(k:Int)
   ·have:x∉xs:=λb=>hno ⟨hc,b⟩;simp[this]
   ·simp[hc]
 unfold Gp;rw[m];simp only;by_cases hcond:(ZX H.bY xs own).length=xs.length/\VD H.bY[own] (k:Int) xs=true
 ·rw[zC hcond];have s:∀x∈xs,X9 H.bY x=(own:Int):=by
   have g:ZX H.bY xs own=xs:=by
    unfold ZX at hcond ⊢;exact List.filter_sublist.eq_of_length hcond.1
   intro x b;rw[←g]at b;unfold ZX at b;simpa using(zI.1 b).2
  have w:jh held own (k:Int) xs=true:=K0.2 ⟨λx b=>by
   obtain⟨p,a,g,i,d⟩:=hxs x b;have C:=y p a;rw[d,s x b]at C;exact⟨p,a,KZ.2 ⟨O,i,d,g⟩⟩,hn⟩
  have j:=h.Ru m w;rw[zC hcond.2]at j;exact⟨_,_,rfl,by simp[Hw.cF],j,Nl h w,Sn⟩
 ·rw[zB hcond];have e:(if(ZX H.bY xs own).length=xs.length then H.cF own (Ks H.bY[own] (k:Int) xs)else H)=H:=by
   split
   ·rename_i u;have z:VD H.bY[own] (k:Int) xs=false:=by
     apply nB.2;intro b;exact hcond ⟨u,b⟩
    have:Ks H.bY[own] (k:Int) xs=H.bY[own]:=by unfold Ks;rw[z];rfl
    rw[this];exact IN m
   ·rfl
  rw[e];exact all
def lj:Ph->Prop
 | .find _=>True
 | .put _ _=>True
 | .back=>True
 | .dE _ _=>True
 | .drain=>True
 | _=>False
def qe (g:Th):Ph->Nat
 | .find _=>101
 | .put _ _=>100
 | .drain=>100
 | .back=>g.bQ.length
 | _=>0
def nj (H:Hw)(t:Nat)(g:Th)(p:Ph):Prop:=(WJ H t p).2.2.1=0 ∧
 ((∃p' g',(WJ H t p).2.1=some p'/\lj p'/\(∀x,p'≠.find x)/\(QW H t p).bR[t]?=some g'/\qe g' p'<qe g p)\/(WJ H t p).2.1=none) ∧
 ((∀x,p≠.find x)->(WJ H t p).2.2.2=0/\(QW H t p).live=H.live) ∧
 (∀x,p=.find x->(bU H.live x=none->(WJ H t p).2.1=none/\(WJ H t p).2.2.2≠0/\(QW H t p).live=H.live)/\(∀b,bU H.live x=some b->(WJ H t p).2.2.2=0/\(QW H t p).live=cT H.live x))
theorem CF (hg:H.bR[t]?=some g):jS H t=if g.bQ=[]then none else some .back:=by unfold jS;rw[hg]
theorem JI (h:HI H held s0)(hg:H.bR[t]?=some g){x:Int}(hph:g.ph=some (.find x)):iC H t (.find x)/\nj H t g (.find x):=by
 have M:=(cZ.1 hg).1;have d:=h.th g (h.mem hg);obtain⟨P,C⟩:g.bQ=[]/\iH x:=by have:=d.ph;unfold iu at this;rw[hph]at this;exact this
 have Q:∀A∈H.bY,iL A:=λA S=>by
  obtain⟨j,hj⟩:=zO S;exact(h.wi.ga j A hj).oY
 cases hm:bU H.live x with
 | none=>
  have z:WJ H t (.find x)=({H with bR:=H.bR.set t g},none,0,lP H x):=by
   have:H.bR.set t g=H.bR:=Qz hg;rw[this];simp only[WJ,Hi,hm]
  have e:=Qf M z;have F:=h.kA hg (g':={g with ph:=none}) (live':=H.live) (λE x=>by
   unfold gN;rw[hph];simp only[jB]) h.lk (λX K=>.inl K) (λs a N=>by cases N) ⟨d.ll,d.lo,d.hb,d.hl,by
    unfold iu;exact P⟩
  refine⟨iC.mk' hg d.hl ⟨C,λ_=>Q,λb hb=>by rw[hm]at hb;cases hb⟩ e F (KS.refl _),?_⟩;unfold nj;rw[e,z];refine⟨rfl,.inr rfl,λi=>(i x rfl).elim,λy m=>?_⟩;cases m;refine⟨λ_=>⟨rfl,?_,rfl⟩,(λb hb=>by rw[hm]at hb;cases hb)⟩;show lP H x≠0;unfold lP
  repeat' split
  all_goals simp
 | some b=>
  have U:=KK hm;obtain⟨_,p,N,h1,V,Y,h4,W⟩:=h.lv _ U;simp only at V Y h4 W;have R:0<=x:=by omega
  obtain⟨A,S,hd⟩:=h.wi.hf p N;have Z:vo H t (.find x):=⟨C,(λi=>by rw[hm]at i;cases i),λ_ _=>R⟩;rcases hd with⟨c1,_,r,hr,c2,c3⟩|⟨j,c,c1,c2,c3,_⟩
  ·have J:b.2.2.1 = -1:=by rw[←V,c1]
   have z:WJ H t (.find x)=({{H with live:=cT H.live x}with bR:=H.bR.set t g},some (.dE (x/256) b.2.2.2),0,0):=by
    have:H.bR.set t g=H.bR:=Qz hg;rw[this];simp only[WJ,Hi,hm];rw[zC O]
   have e:=Qf (H1:={H with live:=cT H.live x}) M z;have u:x/256*256=x:=by omega
   have F:=h.kA hg (g':={g with ph:=some (.dE (x/256) b.2.2.2)}) (live':=cT H.live x) (λE y=>by
    have w:=Di h.lk hm E y;rw[J]at w;unfold gN;rw[hph];simp only[jB,u];by_cases m:x=y
    ·subst m;rw[Dm]at w;by_cases hk : -1=E
     ·rw[zC hk]at w;rw[zC ⟨hk.symm,rfl⟩];omega
     ·rw[zB hk]at w;rw[zB (λC=>hk C.1.symm)];omega
    ·have:[x].count y=0:=yi.2 aE;rw[this]at w;rw[zB (λC=>m C.2.symm)];split at w<;>omega)
    (Go.Vc.jm h.lk) (λX K=>.inl (GX.1 K).1) (λs a B=>by
     cases B;exact⟨p,N,h1,c1,by rw[u];exact Y,W⟩) ⟨d.ll,d.lo,d.hb,d.hl,by
      unfold iu;exact P⟩
   refine⟨iC.mk' hg d.hl Z e F (KS.refl _),?_⟩;unfold nj;rw[e,z];refine⟨rfl,.inl ⟨_,_,rfl,trivial,(λy m=>by cases m),zN M,by simp[qe]⟩,λi=>(i x rfl).elim,λy m=>?_⟩;cases m;exact⟨(λi=>by rw[hm]at i;cases i),λ_ _=>⟨rfl,rfl⟩⟩
  ·have G:b.2.2.1=(j:Int):=by rw[←V,c1]
   have L:j<H.tb.length:=by
    rw[h.wi.tb _ _ S]at c2;exact(cZ.1 c2).1
   have z:WJ H t (.find x)=({{H with live:=cT H.live x}with bR:=H.bR.set t {g with bQ:=[(j,[x])]}},some (.put j x),0,0):=by
    simp only[WJ,Hi,hm];rw[zB O,G,dD];unfold Q8;rw[ZK (g:=g) (by exact hg),P];rfl
   have e:=Qf (H1:={H with live:=cT H.live x}) M z;have F:=h.kA hg (g':={g with bQ:=[(j,[x])],ph:=some (.put j x)}) (live':=cT H.live x) (λE y=>by
    have w:=Di h.lk hm E y;rw[G]at w;unfold gN;rw[hph,P];simp only[jB,Va,VW];omega)
    (Go.Vc.jm h.lk) (λX K=>.inl (GX.1 K).1) (λs a B=>by cases B) ⟨d.ll,d.lo,λb' D=>by
     simp only[zP]at D;subst D;exact⟨L,by simp,by simp⟩,by simp,by
     unfold iu;exact⟨rfl,L⟩⟩
   refine⟨iC.mk' hg d.hl Z e F (KS.refl _),?_⟩;unfold nj;rw[e,z];refine⟨rfl,.inl ⟨_,_,rfl,trivial,(λy m=>by cases m),zN M,by simp[qe]⟩,λi=>(i x rfl).elim,λy m=>?_⟩;cases m;exact⟨(λi=>by rw[hm]at i;cases i),λ_ _=>⟨rfl,rfl⟩⟩
theorem Jl {f:cA->Li->List Int×Li}{tb:List cA}{ls:List Li}{b:Bt}(h:b∈Kx f tb ls):b.1<tb.length/\b.2≠[]/\∃c∈tb,∃l∈ls,b.2=(f c l).1:=by
 unfold Kx at h;obtain⟨k,d,a⟩:=vG.1 h;split at a
 ·rename_i c l hc hl;split at a
  ·cases a
  ·cases a;exact⟨zh.1 d,by assumption,c,zG hc,l,zG hl,rfl⟩
 ·cases a
theorem F5 {f:cA->Li->List Int×Li}{tb:List cA}{ls:List Li}{l':Li}(h:l'∈Kr f tb ls):∃c∈tb,∃l∈ls,l'=(f c l).2:=by
 unfold Kr at h;obtain⟨i,a⟩:=zO h;rw[Bj]at a;split at a
 ·rename_i c l hc hl;cases a;exact⟨c,zG hc,l,zG hl,rfl⟩
 ·cases a
theorem IJ {f:cA->Li->List Int×Li}{tb:List cA}{ls:List Li}(h:ls.length=tb.length):(Kr f tb ls).length=tb.length:=by
 unfold Kr;rw[List.length_zipWith];omega
theorem IZ (c:cA)(l:Li):(Vk c l).2.os.length<=l.os.length/\(Vk c l).1.length<=l.os.length:=by
 simp only[Vk,gG,kg,zY];omega
theorem DP (c:cA)(l:Li):(ZY c l).2.os.length<=l.os.length/\(ZY c l).1.length<=l.os.length:=by
 simp only[ZY,gG,kg,zY];omega
theorem Pt (h:HI H held s0)(hg:H.bR[t]?=some g)(hph:g.ph=some .drain):iC H t .drain/\nj H t g .drain:=by
 have p:=(cZ.1 hg).1;have d:=h.th g (h.mem hg);have D:g.bQ=[]:=by have:=d.ph;unfold iu at this;rw[hph]at this;exact this
 have E:=h.qP;have w:=AU ZY H.tb g.ls;have u:WJ H t .drain=({H with bR:=H.bR.set t {g with ls:=Kr ZY H.tb g.ls,bQ:=Kx ZY H.tb g.ls}},(if Kx ZY H.tb g.ls=[]then none else some .back),0,0):=by
  simp only[WJ,ZK hg];rw[CF (g:={g with ls:=Kr ZY H.tb g.ls,bQ:=Kx ZY H.tb g.ls}) (by simp[p])]
 have e:=Qf p u;have C:=h.kA hg (g':={ls:=Kr ZY H.tb g.ls,bQ:=Kx ZY H.tb g.ls,ph:=if Kx ZY H.tb g.ls=[]then none else some .back}) (live':=H.live) (λr x=>by
  have M:=Jr (f:=ZY) RL d.ll r x;unfold gN;rw[hph,D];have:jB (if Kx ZY H.tb g.ls=[]then none else some Ph.back) r x=0:=by split<;>rfl
  simp only[this,VW];simp only[jB];omega) h.lk (λL G=>.inl G) (λs a m=>by
   simp only at m;split at m<;>cases m) ⟨IJ d.ll,λl hl=>by
   obtain⟨c,_,j,i,rfl⟩:=F5 hl;have:=d.lo j i;have:=DP c j;exact⟨T0 (d.lo j i).1,O⟩,λb F=>by
   obtain⟨B,K,c,_,j,i,z⟩:=Jl F;have:=d.lo j i;have:=DP c j;exact⟨B,K,by rw[z];omega⟩,by simp only;omega,by
   unfold iu;by_cases ho:Kx ZY H.tb g.ls=[]
   ·rw[zC ho];exact ho
   ·rw[zB ho];exact ho⟩
 refine⟨iC.mk' hg d.hl trivial e C (KS.refl _),?_⟩;unfold nj;rw[e,u];refine⟨rfl,?_,λ_=>⟨rfl,rfl⟩,λx J=>by cases J⟩;by_cases ho:Kx ZY H.tb g.ls=[]
 ·exact .inr (by simp only;rw[zC ho])
 ·exact .inl ⟨.back,_,by simp only;rw[zB ho],trivial,(λy A=>by cases A),zN p,by simp only[qe];omega⟩
theorem Lr (h:HI H held s0)(hg:H.bR[t]?=some g){s a:Int}(hph:g.ph=some (.dE s a)):iC H t (.dE s a)/\nj H t g (.dE s a):=by
 have U:=(cZ.1 hg).1;have b:=h.th g (h.mem hg);have N:g.bQ=[]:=by have:=b.ph;unfold iu at this;rw[hph]at this;exact this
 obtain⟨p,C,h1,S,Z,h4⟩:=h.gv g (h.mem hg) s a hph;obtain⟨A,y,_⟩:=h.wi.hf p C;have u:H.bY[p.k]?=some A:=y;have R:=(cZ.1 u).1;obtain⟨_,r,G,W,X⟩:=h.wi.run C S y;have ga:=h.wi.ga _ _ y;have d:s=(r.1:Int):=by omega
 have V:Vp A s=0:=by
  unfold Vp;rw[zC];unfold pO;rw[A3];exact⟨r,G,by simp[d]⟩
 have E:jh held p.k (-1) [s*256]=true:=by rw[d];exact h.wi.mY y G
 have wi:=h.wi.vH y s;rw[zC V,h.wi.yM E]at wi;have z:a.toNat=p.k:=by omega
 have J:WJ H t (.dE s a)=({H.cF p.k (QT A s)with bR:=H.bR.set t g},none,0,0):=by
  have:H.bR.set t g=H.bR:=Qz hg;rw[this];simp only[WJ,z,u,Hw.cF]
 have e:=Qf (H1:=H.cF p.k (QT A s)) U J;have M:=h.eZ hg (g':={g with ph:=none}) (live':=H.live) wi h.m4 rfl (by simp[Wd.put]) (λq D _=>.inl (zI.1 D).1) (λm x=>by
  have i:=Iu (held':=held.filter λF=>!dX p.k (-1) [s*256] F) (l:=[s*256]) (cl:=-1) aA (Ri E) (M7 h.wi E) m x;have i:k5 held m x=k5 (held.filter λF=>!dX p.k (-1) [s*256] F) m x+(if -1=m then[s*256].count x else 0):=i
  unfold gN;rw[hph];simp only[jB];by_cases hy:s*256=x
  ·subst hy;rw[Dm]at i;by_cases hk : -1=m
   ·rw[zC hk]at i;rw[zC ⟨hk.symm,rfl⟩];omega
   ·rw[zB hk]at i;rw[zB (λw=>hk w.1.symm)];omega
  ·have:[s*256].count x=0:=yi.2 aE;rw[this]at i;rw[zB (λw=>hy w.2.symm)];split at i<;>omega) h.lk (λY Q=>.inl Q) (λs a C=>by cases C) ⟨b.ll,b.lo,b.hb,b.hl,by
   unfold iu;exact N⟩
 refine⟨iC.mk' hg b.hl ⟨O,O,λB L q D=>?_⟩ e M (KS.refl _),?_⟩
 ·obtain⟨j,P⟩:=zO L;have K:=h.wi.ga j B P;have:=K.fit D;have:=K.pg.n2;omega
 ·unfold nj;rw[e,J];exact⟨rfl,.inr rfl,λ_=>⟨rfl,rfl⟩,λx w=>by cases w⟩
theorem LA (h:HI H held s0)(hg:H.bR[t]?=some g)(hph:g.ph=some .back):iC H t .back/\nj H t g .back:=by
 have G:=(cZ.1 hg).1;have d:=h.th g (h.mem hg);have P:g.bQ≠[]:=by have:=d.ph;unfold iu at this;rw[hph]at this;exact this
 have C:=GE hg;cases hhd:g.bQ with
 | nil=>exact(P hhd).elim
 | cons b r=>
  obtain⟨k,B⟩:=b;obtain⟨L,w,E⟩:=d.hb (k,B) (by rw[hhd];simp);simp only at L w E;have m:∀x,B.count x<=gN g (k:Int) x:=λx=>by
   unfold gN;rw[hhd,Va,zC rfl];simp only;omega
  have i:∀x∈B,Um held (k:Int) x:=λx u=>h.qU (h.mem hg) (j9 (Cd.2 u) (m x));have A:B.Nodup:=CM.2 λx=>by
   have U:=m x;have V:=h.pK (h.mem hg) (k:Int) x;have X:=DZ held (k:Int) x;omega
  obtain⟨j,D,S,F,wi,um,sub⟩:=JX (H:={H with bR:=H.bR.set t {g with bQ:=r}}) (tb:=H.tb) rfl h.wi (h.j3 t) L i A;have K:WJ H t .back=({{H with bY:=j}with bR:=H.bR.set t {g with bQ:=r}},(if r=[]then none else some .back),0,0):=by
   simp only[WJ,C,hhd,ZK hg,S];rw[CF (g:={g with bQ:=r}) (by simp[G])]
  have e:=Qf (H1:={H with bY:=j}) G K;have N:=h.eZ hg (g':={g with bQ:=r,ph:=if r=[]then none else some .back}) (live':=H.live) wi h.m4 rfl F (λp z R=>.inl (sub p z R)) (λJ x=>by
   have U:=Iu A i um J x;unfold gN;rw[hph,hhd,Va];have:jB (if r=[]then none else some Ph.back) J x=0:=by split<;>rfl
   simp only[this];simp only[jB];omega) h.lk (λW Q=>.inl Q) (λs a z=>by
    simp only at z;split at z<;>cases z) ⟨d.ll,d.lo,λb hb=>d.hb b (by rw[hhd];exact mS _ hb),by have:=d.hl;rw[hhd]at this;simp at this ⊢;omega,by
    unfold iu;by_cases ho:r=[]
    ·rw[zC ho];exact ho
    ·rw[zB ho];exact ho⟩
  refine⟨iC.mk' hg d.hl ⟨k,B,r,by rw[C];exact hhd,λx u=>⟨(h.i63 (i x u)).1,(h.i63 (i x u)).2.2⟩,O⟩ e N (KS.refl _),?_⟩;unfold nj;rw[e,K];refine⟨rfl,?_,λ_=>⟨rfl,rfl⟩,λx u=>by cases u⟩;by_cases ho:r=[]
  ·exact .inr (by simp only;rw[zC ho])
  ·exact .inl ⟨.back,_,by simp only;rw[zB ho],trivial,(λy M=>by cases M),zN G,by simp only[qe];rw[hhd];simp⟩
theorem Ta (h:HI H held s0)(hg:H.bR[t]?=some g){x:Int}(hph:g.ph=some (.put k x)):iC H t (.put k x)/\nj H t g (.put k x):=by
 have B:=(cZ.1 hg).1;have r:=h.th g (h.mem hg);obtain⟨J,L⟩:g.bQ=[(k,[x])]/\k<H.tb.length:=by have:=r.ph;unfold iu at this;rw[hph]at this;exact this
 obtain⟨c,hc,G⟩:=h.cls L;obtain⟨l,hl,Q,F,hlm⟩:=r.li L;have E:=GE hg;have h40:=h.qP;have X:=Sc (x:=x) G F;have M:=Pg c x l O;have N:(dL c x l).1.length<=129/\(dL c x l).2.os.length<=128:=by
  have ab:=F.lim;have z:(eB [x] l).os=l.os++[x]:=by unfold eB;rw[zB aE]
  have W:(mJ c (eB [x] l)).os=l.os++[x]:=by rw[←z];unfold mJ;split<;>rfl
  unfold cA.ok at G;unfold dL;rw[zB O];split
  ·rw[z];simp;omega
  ·simp only[gG,W,zY,kg,zM,uU];omega
 obtain⟨Z,V⟩:=r.ij (k:=k) X N.2;have aa:∃hs:List Bt,(if(dL c x l).1=[]then[]else[(k,(dL c x l).1)])=hs:=⟨_,rfl⟩
 obtain⟨i,j⟩:=aa;have ac:i.length<=1:=by rw[←j];split<;>simp
 have w:∀b∈i,b.1<H.tb.length/\b.2≠[]/\b.2.length<=256:=λb m=>by
  rw[←j]at m;split at m
  ·simp at m
  ·simp only[zP]at m;subst m;exact⟨L,by assumption,by simp only;omega⟩
 have C:∀d y,lH i d y=if(k:Int)=d then(dL c x l).1.count y else 0:=λd y=>by
  rw[←j];split
  ·rename_i hn;rw[hn,VW];simp
  ·simp only[Va,VW,kc]
 let g3:Th:={g with ls:=g.ls.set k (dL c x l).2,bQ:=i}
 let g4:Th:=if H.cf.dC<Ko H.tb g3.ls then{g3 with ls:=Kr Vk H.tb g3.ls,bQ:=g3.bQ++Kx Vk H.tb g3.ls}else g3
 have S:iz H t k x = {H with bR:=H.bR.set t g4}:=by
  have e2:(if(dL c x l).1=[]then H.dV t λh=>h.ij k (dL c x l).2 else Q8 (H.dV t λh=>h.ij k (dL c x l).2) t k (dL c x l).1) = {H with bR:=H.bR.set t {g with ls:=g.ls.set k (dL c x l).2,bQ:=(k,[x])::i}}:=by
   rw[←j];split
   ·rw[ZK hg,←J];rfl
   ·rw[ZK hg];unfold Q8;rw[ZK (g:=g.ij k (dL c x l).2) (by simp[B])];simp only[nC,Th.ij,J];rfl
  have e3:({H with bR:=H.bR.set t {g with ls:=g.ls.set k (dL c x l).2,bQ:=(k,[x])::i}}:Hw).dV t (λh=>{h with bQ:=h.bQ.drop 1}) = {H with bR:=H.bR.set t g3}:=by
   rw[ZK (g:={g with ls:=g.ls.set k (dL c x l).2,bQ:=(k,[x])::i}) (by simp[B])];simp only[nC,uM,ye];rfl
  have u:({H with bR:=H.bR.set t g3}:Hw).bR[t]?=some g3:=by simp[B]
  unfold iz;simp only[Uq hc,E,Q,e2,e3,GE u,ZK u,nC];show(if H.cf.dC<Ko H.tb g3.ls then _ else _)=_
  simp only[g4];split<;>rfl
 have hg4:g4.ph=g.ph:=by simp only[g4];split<;>rfl
 have R:∀d y,lL g4.ls d y+lH g4.bQ d y=lL g.ls d y+lH g.bQ d y:=λd y=>by
  have Y:=G0 hl (dL c x l).2 d y;have h2:=M y;have h3:lL g3.ls d y+lH g3.bQ d y=lL g.ls d y+lH g.bQ d y:=by
   simp only[g3];rw[C,J,Va,VW];by_cases hkk:(k:Int)=d
   ·simp only[hkk,zR]at Y ⊢;omega
   ·simp only[hkk,zp]at Y ⊢;omega
  simp only[g4];split
  ·have h4:=Jr (f:=Vk) Mn (tb:=H.tb) (ls:=g3.ls) Z d y;simp only[ID];omega
  ·exact h3
 have p:g4.ls.length=H.tb.length/\(∀l∈g4.ls,fL l/\l.os.length<=128)/\(∀b∈g4.bQ,b.1<H.tb.length/\b.2≠[]/\b.2.length<=256)/\g4.bQ.length<=41:=by
  have hsl:=AU Vk H.tb g3.ls;simp only[g4];split
  ·refine⟨IJ Z,λl hl=>?_,λb m=>?_,by simp only[zM,g3]at *;omega⟩
   ·obtain⟨K,U,D,A,rfl⟩:=F5 hl;have h5:=V D A;have:=IZ K D;exact⟨ED (h.ok K U) h5.1,O⟩
   ·rcases zK.1 m with m|m
    ·exact w b m
    ·obtain⟨b1,b2,K,_,D,A,b3⟩:=Jl m;have h5:=V D A;have:=IZ K D;exact⟨b1,b2,by rw[b3];omega⟩
  ·exact⟨Z,V,w,by simp only[g3];omega⟩
 have hs:WJ H t (.put k x)=({H with bR:=H.bR.set t g4},(if g4.bQ=[]then none else some .back),0,0):=by
  show(iz H t k x,jS (iz H t k x) t,0,0)=_;rw[S,CF (g:=g4) (by simp[B])]
 have e:=Qf B hs;have hi:=h.kA hg (g':={g4 with ph:=if g4.bQ=[]then none else some .back}) (live':=H.live) (λd y=>by
  have Y:=R d y;unfold gN;rw[hph];have:jB (if g4.bQ=[]then none else some Ph.back) d y=0:=by split<;>rfl
  simp only[this];simp only[jB];omega) h.lk (λe' he=>.inl he) (λs a P=>by
   simp only at P;split at P<;>cases P) ⟨p.1,p.2.1,p.2.2.1,p.2.2.2,by
   unfold iu;by_cases ho:g4.bQ=[]
   ·simp only[ho,zR]
   ·simp only[ho,zp];exact ho⟩
 refine⟨iC.mk' hg r.hl ⟨L,by rw[E,J];simp⟩ e hi (KS.refl _),?_⟩;unfold nj;rw[e,hs];refine⟨rfl,?_,λ_=>⟨rfl,rfl⟩,λx hx=>by cases hx⟩;by_cases ho:g4.bQ=[]
 ·exact .inr (by simp only;rw[zC ho])
 ·exact .inl ⟨.back,_,by simp only;rw[zB ho],trivial,(λy hy=>by cases hy),zN B,by simp only[qe];have:=p.2.2.2;omega⟩
end Go.Ar
namespace Go.Ar
open Go Go.Vc Go.Proofs
open Go.Bu (eW Vu U8)
variable {U u w w':Hp}{F B P Q:Rg}{L:dH}{H H':Hw}{t n:Nat}{g:Th}
def yO (size:Int):Int:=(size+255)/256*256
def oP (tb:List cA)(size align:Int):Int×Int:=
 if size<=16384/\U4 size align=true then(match gV tb size align with
  | some k=>((tb.getD k ⟨8,1,1⟩).size:Int)
  | none=>yO size,0)else(0,1)
theorem Tj {a:Int}(h1:1<=a)(h2:a<=256):(bits .and .i64 a (a-1) != 0) = !eW a:=by
 obtain⟨a,rfl⟩:=zc (show 0<=a by omega);rw[show(a:Int)-1=((a-1:Nat):Int) by omega,Go.Bu.iX O O,Vu,←U8 O O];simp only[bne,Bool.not_inj_iff];rw[kT];simp only[zT];omega
def Ka (sp:Sp)(x:Int):Int:=if eO sp x=0 then sp.wd (x.toNat/8)else 0
theorem Cs (h:HH U F L H)(x:Int)(hx:x<=9223372036854775807){R:Int->Int->Hp->Prop}(hR:∀σ',bL U σ'->R (Ka H.sp x) (eO H.sp x) σ'):YD.c (aW L.p) x U R:=ME h x hx hR
end Go.Ar
namespace Go.Ar
open Go Go.Vc Go.Proofs
variable {U u w w':Hp}{F B P Q:Rg}{L:dH}{H H':Hw}{t n:Nat}{g:Th}
def Kf (H:Hw)(x:Int):Option Int:=(bU H.live x).map λb=>b.2.1
theorem F7 {tb:List cA}{size align:Int}{k:Nat}(h:gV tb size align=some k):k<tb.length:=(List.findIdx?_eq_some_iff_findIdx_eq.1 h).1
theorem Jy (h:HH U F L H)(x:Int){R:Int->Int->Hp->Prop}(hR:∀σ',bL U σ'->R ((Kf H x).getD 0) (if(Kf H x).isSome then 0 else 8) σ'):XS.c (aW L.p) x U R:=by
 refine MJ h x λσ' e=>?_;have:=hR σ' e;unfold Kf at this;cases hm:bU H.live x with
 | none=>rw[hm]at this;exact this
 | some b=>rw[hm]at this;exact this
end Go.Ar
namespace Go.Ar
open Go.Vc (bU dB cT)
variable {H H':Hw}{held:List Pc}{s0:Sp}{t k j:Nat}{g:Th}{A:AR}{c:cA}
theorem Vg (f:Th->Th)(hj:j≠t):(H.dV t f).bR[j]?=H.bR[j]? := by
 simp[Hw.dV,tu,Ne.symm hj]
theorem TA (x:Int)(hj:j≠t):(iz H t k x).bR[j]?=H.bR[j]? := by
 unfold iz Q8;simp only;split<;>split<;>simp only[Vg _ hj]
theorem Nu (p:Ph)(hj:j≠t):(WJ H t p).1.bR[j]?=H.bR[j]? := by
 cases p with
 | take k=>simp only[WJ];split<;>simp only[VV,Vg _ hj]
 | cJ k w=>
  simp only[WJ];split
  ·split
   ·unfold Q8;rw[Vg _ hj];rfl
   ·rfl
  ·rfl
 | cL k w=>
  simp only[WJ];split
  ·rfl
  ·unfold Q8;rw[Vg _ hj];rfl
 | grow k w=>simp only[WJ];split<;>rfl
 | fill=>simp only[WJ];split<;>simp only[VV,Vg _ hj]
 | eI m=>simp only[WJ];split<;>rfl
 | find x=>
  simp only[WJ,Hi];split
  ·rfl
  ·split
   ·rfl
   ·unfold Q8;rw[Vg _ hj]
 | put k x=>exact TA x hj
 | back=>
  simp only[WJ];split
  ·rw[AG,Vg _ hj]
  ·rfl
 | dE s a=>simp only[WJ];split<;>rfl
 | drain=>simp only[WJ,Vg _ hj]
theorem UE (p:Ph)(hj:j≠t):(QW H t p).bR[j]?=H.bR[j]? := by
 unfold QW eP;rw[Vg _ hj,Nu p hj]
def fP (H:Hw)(j:Nat):Option Ph:=(H.bR[j]?).bind (·.ph)
def xL (H H':Hw)(t:Nat):Prop:=fP H' t=none/\∀j,j≠t->fP H' j=fP H j
theorem Aw (h:HI H held s0)(hg:H.bR[t]?=some g){p:Ph}(hp:g.ph=some p)(hf:¬lj p):∃cl sz,Rq H.tb g p cl sz:=by
 have b:=(h.th g (h.mem hg)).ph;unfold iu at b;rw[hp]at b;cases p with
 | take k=>obtain⟨c,d,_⟩:=h.cls b.2;exact⟨_,_,rfl,c,d,rfl⟩
 | cJ k w=>obtain⟨c,d,_⟩:=h.cls b.2.1;exact⟨_,_,rfl,c,d,rfl⟩
 | cL k w=>obtain⟨c,d,_⟩:=h.cls b.2.1;exact⟨_,_,rfl,c,d,rfl⟩
 | grow k w=>obtain⟨c,d,_⟩:=h.cls b.2.1;exact⟨_,_,rfl,c,d,rfl⟩
 | fill=>
  obtain⟨k,x,j,e,i,_⟩:=b;obtain⟨c,d,_⟩:=h.cls i;exact⟨_,_,k,_,[],c,e,rfl,d,rfl⟩
 | eI m=>exact⟨_,_,rfl,rfl⟩
 | find x=>exact(hf trivial).elim
 | put k x=>exact(hf trivial).elim
 | back=>exact(hf trivial).elim
 | dE s a=>exact(hf trivial).elim
 | drain=>exact(hf trivial).elim
theorem qX (h:HI H held s0)(hg:H.bR[t]?=some g){p:Ph}(hp:g.ph=some p){cl sz:Int}(hr:Rq H.tb g p cl sz):iC H t p/\sU H t p cl sz:=by
 cases p with
 | take k=>exact SV h hg hp hr
 | cJ k w=>exact M0 h hg hp hr
 | cL k w=>exact S4 h hg hp hr
 | grow k w=>exact MP h hg hp hr
 | fill=>exact RP h hg hp hr
 | eI m=>exact Tp h hg hp hr
 | find x=>exact hr.elim
 | put k x=>exact hr.elim
 | back=>exact hr.elim
 | dE s a=>exact hr.elim
 | drain=>exact hr.elim
theorem rj (h:HI H held s0)(hg:H.bR[t]?=some g){p:Ph}(hp:g.ph=some p)(hf:lj p):iC H t p/\nj H t g p:=by
 cases p with
 | take k=>exact hf.elim
 | cJ k w=>exact hf.elim
 | cL k w=>exact hf.elim
 | grow k w=>exact hf.elim
 | fill=>exact hf.elim
 | eI m=>exact hf.elim
 | find x=>exact JI h hg hp
 | put k x=>exact Ta h hg hp
 | back=>exact LA h hg hp
 | dE s a=>exact Lr h hg hp
 | drain=>exact Pt h hg hp
open Classical in
theorem HI.ω (h:HI H held s0)(hg:H.bR[t]?=some g){p:Ph}(hp:g.ph=some p):iC H t p:=by
 by_cases hf:lj p
 ·exact(rj h hg hp hf).1
 ·obtain⟨cl,b,a⟩:=Aw h hg hp hf;exact(qX h hg hp a).1
theorem HE {p:Ph}(ht:t<H.bR.length):∃g',(QW H t p).bR[t]?=some g'/\g'.ph=(WJ H t p).2.1:=D4 ht
theorem IM {cl sz:Int}:∀(n:Nat) {H:Hw} {held:List Pc} {s0:Sp} {g:Th} {p:Ph},HI H held s0->H.bR[t]?=some g->g.ph=some p->Rq H.tb g p cl sz->pB H t p<=n →
 ∃m H' a e,iG m H t p H' a e/\(∃held s0,HI H' held s0)/\KS H.sp H'.sp/\xL H H' t/\((e≠0/\a=0/\H'.live=H.live)\/(e=0/\bU H.live a=none/\H'.live=dB H.live a (a,sz,cl,X9 H'.bY a)))
 | n,H,held,s0,g,p,h,hg,hp,hr,hn=>by
  have ht:=(cZ.1 hg).1;obtain⟨s,F⟩:=qX h hg hp hr;have b:(WJ H t p).2.1=none->xL H (QW H t p) t:=λE=>by
   obtain⟨D,y,x⟩:=HE (p:=p) ht;exact⟨by unfold fP;rw[y];exact x.trans E,λj u=>by unfold fP;rw[UE p u]⟩
  rcases F with⟨p',D,e1,e2,e3,e4,e5⟩|⟨e1,e2,e3,e4⟩|⟨e1,e2,e3,e4⟩
  ·obtain⟨z,G,C⟩:=s.hi;obtain⟨J,i,j7⟩:=HE (p:=p) ht;rw[e3]at i;cases i;have w:(QW H t p).tb=H.tb:=(UR H t p).1;have B:pB (QW H t p) t p'<n:=by omega
   obtain⟨m,H',a,e,r,hi,ks,A,d⟩:=IM (pB (QW H t p) t p') C e3 (j7.trans e1) (by rw[w];exact e4) (zD _);refine⟨m+1,H',a,e,.next s.ok e1 r,hi,s.ks.trans ks,⟨A.1,λj u=>(A.2 j u).trans (by unfold fP;rw[UE p u])⟩,?_⟩;rw[e2]at d;exact d
  ·exact⟨1,_,_,_,.done s.ok e1,s.hi,s.ks,b e1,.inl ⟨e2,e3,e4⟩⟩
  ·exact⟨1,_,_,_,.done s.ok e1,s.hi,s.ks,b e1,.inr ⟨e2,e3,e4⟩⟩
termination_by n=>n
theorem El:∀(n:Nat) {H:Hw} {held:List Pc} {s0:Sp} {g:Th} {p:Ph},HI H held s0->H.bR[t]?=some g->g.ph=some p->lj p->qe g p<=n →
 ∃m H' e,iG m H t p H' 0 e/\(∃held s0,HI H' held s0)/\KS H.sp H'.sp/\xL H H' t/\((∀x,p≠.find x)->e=0/\H'.live=H.live) ∧
  (∀x,p=.find x->(bU H.live x=none->e≠0/\H'.live=H.live)/\(∀b,bU H.live x=some b->e=0/\H'.live=cT H.live x))
 | n,H,held,s0,g,p,h,hg,hp,hf,hn=>by
  have ht:=(cZ.1 hg).1;obtain⟨s,M,N,J,a⟩:=rj h hg hp hf;rcases N with⟨p',w,e1,e2,e3,e4,e5⟩|e1
  ·obtain⟨D,P,L⟩:=s.hi;obtain⟨R,i,j7⟩:=HE (p:=p) ht;rw[e4]at i;cases i;have K:qe w p'<n:=by omega
   obtain⟨m,H',e,r,hi,ks,F,A,_⟩:=El (qe w p') L e4 (j7.trans e1) e2 (zD _);obtain⟨E,G⟩:=A e3;refine⟨m+1,H',e,.next s.ok e1 r,hi,s.ks.trans ks,⟨F.1,λj u=>(F.2 j u).trans (by unfold fP;rw[UE p u])⟩,λd=>⟨E,G.trans (J d).2⟩,λx d=>⟨λz=>?_,λb Q=>⟨E,G.trans ((a x d).2 b Q).2⟩⟩⟩;have:=((a x d).1 z).1;rw[e1]at this;cases this
  ·have y:xL H (QW H t p) t:=by
    obtain⟨w,C,B⟩:=HE (p:=p) ht;exact⟨by unfold fP;rw[C];exact B.trans e1,λj u=>by unfold fP;rw[UE p u]⟩
   have r:=iG.done (H:=H) (t:=t) s.ok e1;rw[M]at r;exact⟨1,_,_,r,s.hi,s.ks,y,J,λx d=>⟨λz=>((a x d).1 z).2,(a x d).2⟩⟩
termination_by n=>n
structure fY (H H':Hw):Prop where
 hi:∃held s0,HI H' held s0
 ks:KS H.sp H'.sp
 kp:QQ H' H
 ph:∀j,fP H' j=fP H j
theorem fY.refl (h:HI H held s0):fY H H:=⟨⟨held,s0,h⟩,KS.refl _,QQ.refl _,λ_=>rfl⟩
theorem fY.trans {H1 H2 H3:Hw}(a:fY H1 H2)(b:fY H2 H3):fY H1 H3:=⟨b.hi,a.ks.trans b.ks,a.kp.trans b.kp,λj=>(b.ph j).trans (a.ph j)⟩
theorem IQ {tb:List cA}{kind size align addr:Int}{p:Ph}(h:iK tb kind size align addr=some p)(hx:iH addr)(hh:g.bQ=[]):iu tb.length {g with ph:=some p}:=by
 unfold iK at h;split at h
 ·split at h
  ·split at h
   ·split at h
    ·rename_i k hk;cases h;exact⟨hh,F7 hk⟩
    ·cases h;exact⟨hh,O,O⟩
   ·cases h
  ·cases h
 ·split at h
  ·cases h;exact⟨hh,hx⟩
  ·split at h
   ·cases h;exact hh
   ·cases h
theorem HI.eP (h:HI H held s0)(hg:H.bR[t]?=some g)(hn:g.ph=none){p:Ph}(hp:iu H.tb.length {g with ph:=some p})(hq:∀s a,p≠.dE s a):HI (eP H t (some p)) held s0:=by
 have b:=h.th g (h.mem hg);have e:Go.Ar.eP H t (some p) = {H with bR:=H.bR.set t {g with ph:=some p}}:=ZK hg _;rw[e];refine h.kA hg (live':=H.live) (λi x=>?_) h.lk (λj d=>.inl d) (λs a hp=>by cases hp;exact(hq s a rfl).elim) ⟨b.ll,b.lo,b.hb,b.hl,hp⟩;unfold gN;rw[hn];have:jB (some p) i x=0:=by
  cases p<;>first|rfl|exact(hq _ _ rfl).elim
 simp only[this];simp only[jB]
theorem D1 (h:HI H held s0)(hg:H.bR[t]?=some g)(hn:g.ph=none):g.bQ=[]:=by
 have:=(h.th g (h.mem hg)).ph;unfold iu at this;rw[hn]at this;exact this
theorem GL (H:Hw)(thread kind size align addr:Int):(∃e,KP H thread kind size align addr=.inl e/\e≠0)\/∃(t:Nat) (p:Ph) (g:Th),thread=(t:Int)/\H.bR[t]?=some g/\g.ph=none/\iK H.tb kind size align addr=some p/\KP H thread kind size align addr=.inr (t,p):=by
 unfold KP;split
 ·split
  ·split
   ·split
    ·rename_i hth _ g hg hn _ p hp;exact .inr ⟨thread.toNat,p,g,O,hg,hn,hp,rfl⟩
    ·exact .inl ⟨1,rfl,by decide⟩
   ·exact .inl ⟨5,rfl,by decide⟩
  ·exact .inl ⟨1,rfl,by decide⟩
 ·exact .inl ⟨1,rfl,by decide⟩
theorem NT (hg:H.bR[t]?=some g)(p:Option Ph)(hj:j≠t):fP (eP H t p) j=fP H j:=by
 unfold fP eP;rw[Vg _ hj]
theorem DH (hg:H.bR[t]?=some g)(hn:g.ph=none){p:Ph}(ps:xL (eP H t (some p)) H' t):∀j,fP H' j=fP H j:=λj=>by
 by_cases hj:j=t
 ·subst hj;rw[ps.1];unfold fP;rw[hg];exact hn.symm
 ·rw[ps.2 j hj,NT hg _ hj]
def qD (H:Hw)(size align:Int)(H':Hw)(a e:Int):Prop:=(e≠0/\a=0/\H'.live=H.live) ∨
 (e=0/\bU H.live a=none/\(1<=size/\size<=16384/\U4 size align=true)/\∃cl,H'.live=dB H.live a (a,(oP H.tb size align).1,cl,X9 H'.bY a)/\((∃k:Nat,cl=k/\gV H.tb size align=some k)\/cl = -1/\gV H.tb size align=none))
theorem Rp (h:HI H held s0)(thread size align:Int):∃H' a e,KN H thread 0 size align 0 H' a e/\fY H H'/\qD H size align H' a e:=by
 rcases GL H thread 0 size align 0 with⟨e,hs,hne⟩|⟨t,p,g,rfl,hg,hn,hq,hs⟩
 ·exact⟨H,0,e,.inl ⟨hs,hne,rfl,rfl⟩,fY.refl h,.inl ⟨hne,rfl,rfl⟩⟩
 ·have D:=D1 h hg hn;have y:=IQ (g:=g) hq (by unfold iH;decide) D;unfold iK at hq;rw[zC rfl]at hq;split at hq
  ·rename_i hsz;split at hq
   ·rename_i hok;have b:oP H.tb size align=(match gV H.tb size align with
     | some k=>((H.tb.getD k ⟨8,1,1⟩).size:Int)
     | none=>yO size,0):=by
     unfold oP;rw[zC ⟨hsz.2,hok⟩]
     first|done | (cases gV H.tb size align<;>rfl)
    obtain⟨cl,d,u⟩:∃cl,Rq H.tb {g with ph:=some p} p cl (oP H.tb size align).1/\((∃k:Nat,cl=k/\gV H.tb size align=some k)\/cl = -1/\gV H.tb size align=none):=by
     cases hcv:gV H.tb size align with
     | some k=>
      rw[hcv]at hq b;cases hq;have i:=F7 hcv;have z:H.tb[k]?=some H.tb[k]:=cX i;refine⟨k,⟨rfl,H.tb[k],z,?_⟩,.inl ⟨k,rfl,rfl⟩⟩;rw[b];simp only;rw[zQ,z];rfl
     | none=>
      rw[hcv]at hq b;cases hq;refine⟨-1,⟨rfl,?_⟩,.inr ⟨rfl,rfl⟩⟩;rw[b];simp only;unfold yO;omega
    have x:∀s a,p≠.dE s a:=λs a e=>by subst e;exact d.elim
    have C:=h.eP hg hn y x;have w:(Go.Ar.eP H t (some p)).bR[t]?=some {g with ph:=some p}:=by
     have E:=(cZ.1 hg).1;have e:Go.Ar.eP H t (some p) = {H with bR:=H.bR.set t {g with ph:=some p}}:=ZK hg _;rw[e];simp[E]
    obtain⟨m,H',a,e,r,B,ks,A,j⟩:=IM _ C w rfl d (zD _);refine⟨H',a,e,.inr ⟨t,p,m,hs,r⟩,⟨B,ks,(Vm _ _ _).trans (IY r),DH hg hn A⟩,?_⟩;rcases j with⟨r1,r2,r3⟩|⟨r1,r2,r3⟩
    ·exact .inl ⟨r1,r2,r3⟩
    ·exact .inr ⟨r1,r2,⟨hsz.1,hsz.2,hok⟩,cl,r3,u⟩
   ·cases hq
  ·cases hq
def nD (H:Hw)(thread addr:Int)(H':Hw)(e:Int):Prop:=
 (e≠0/\H'=H/\KP H thread 1 0 0 addr=.inl e)\/((∃p,KP H thread 1 0 0 addr=.inr p)/\bU H.live addr=none/\e≠0/\H'.live=H.live)\/((∃p,KP H thread 1 0 0 addr=.inr p)/\∃b,bU H.live addr=some b/\e=0/\H'.live=cT H.live addr)
theorem Se (h:HI H held s0)(hg:H.bR[t]?=some g)(hn:g.ph=none){p:Ph}(hp:iu H.tb.length {g with ph:=some p})(hf:lj p)(hq:∀s a,p≠.dE s a):∃m H' e,iG m (eP H t (some p)) t p H' 0 e/\fY H H'/\((∀x,p≠.find x)->e=0/\H'.live=H.live) ∧
 (∀x,p=.find x->(bU H.live x=none->e≠0/\H'.live=H.live)/\(∀b,bU H.live x=some b->e=0/\H'.live=cT H.live x)):=by
 have w:=h.eP hg hn hp hq;have d:(Go.Ar.eP H t (some p)).bR[t]?=some {g with ph:=some p}:=by
  have y:=(cZ.1 hg).1;have e:Go.Ar.eP H t (some p) = {H with bR:=H.bR.set t {g with ph:=some p}}:=ZK hg _;rw[e];simp[y]
 obtain⟨m,H',e,r,u,ks,j,i,z⟩:=El _ w d rfl hf (zD _);exact⟨m,H',e,r,⟨u,ks,(Vm _ _ _).trans (IY r),DH hg hn j⟩,i,z⟩
theorem Nh (h:HI H held s0)(thread addr:Int)(hx:iH addr):∃H' e,KN H thread 1 0 0 addr H' 0 e/\fY H H'/\nD H thread addr H' e:=by
 rcases GL H thread 1 0 0 addr with⟨e,hs,hne⟩|⟨t,p,g,rfl,hg,hn,hq,hs⟩
 ·exact⟨H,e,.inl ⟨hs,hne,rfl,rfl⟩,fY.refl h,.inl ⟨hne,rfl,hs⟩⟩
 ·have d:=IQ (g:=g) hq hx (D1 h hg hn);have j:p=.find addr:=by unfold iK at hq;simp at hq;exact hq.symm
  subst j;obtain⟨m,H',e,r,op,_,i⟩:=Se h hg hn d trivial (λs a e=>by cases e);refine⟨H',e,.inr ⟨t,_,m,hs,r⟩,op,?_⟩;cases hm:bU H.live addr with
  | none=>exact .inr (.inl ⟨⟨_,hs⟩,hm,(i addr rfl).1 hm⟩)
  | some b=>exact .inr (.inr ⟨⟨_,hs⟩,b,hm,(i addr rfl).2 b hm⟩)
end Go.Ar
namespace Go.Ar
open Go Go.Vc Go.Proofs
variable {U u w w':Hp}{F B P Q:Rg}{L:dH}{H H':Hw}{t n k:Nat}{A:AR}{Y:Lay}
theorem Fr.refl (A:AR):Fr A A:=⟨rfl,rfl,rfl⟩
theorem Fr.trans {A B C:AR}(h:Fr B A)(k:Fr C B):Fr C A:=⟨k.1.trans h.1,k.2.1.trans h.2.1,k.2.2.trans h.2.2⟩
end Go.Ar
namespace Go.Ar
variable {A:AR}
def qx (tb:List cA)(n room m:Nat):Wd:=⟨tb,VT n,List.replicate m (fB n room tb),[]⟩
theorem MV {n room:Nat}{tb:List cA}(h1:32<=n)(h2:n<=1024)(h3:n%16=0)(h6:tb.length<=40)(h7:∀c∈tb,c.ok):GA (fB n room tb)/\∀p,(fB n room tb).f p=0:=by
 have i:∀p,(fB n room tb).f p=0:=λp=>by
  show(List.replicate n 0).getD p 0=0;rw[zQ,mR];split<;>rfl
 have a:∀{k:Nat} {g:List cH},(List.replicate tb.length ([]:List cH))[k]?=some g->g=[]:=λh=>by
  rw[mR]at h;split at h<;>simp at h;exact h
 have b:∀{k:Nat} {t:gK},(List.replicate tb.length (⟨0,[]⟩:gK))[k]?=some t->t.bs=[]:=λh=>by
  rw[mR]at h;split at h<;>simp at h;rw[←h]
 refine⟨⟨⟨by simp[fB],h1,h2,h3,λp=>by rw[i];omega,λp=>by rw[i];simp[fB],λp=>by rw[i];simp[fB,Go.Bu.iv],λp=>by rw[i,i]⟩,h6,by simp[fB],by simp[fB],λk c g d=>?_,λk c g d s m=>?_,λk c g d p=>?_,λp=>?_,λp=>.inr (Nat.zero_le _),by simp[fB],by simp[fB],λk t j=>?_,λk c g t d j=>?_,λk c t d j=>?_⟩,i⟩
 ·have e:=a d.2;subst e;exact⟨h7 c (zG d.1),by simp,by simp⟩
 ·have e:=a d.2;subst e;simp at m
 ·have e:=a d.2;subst e;constructor
  ·intro h;cases h
  ·rintro⟨s,m,_⟩;simp at m
 ·constructor
  ·intro h;cases h
  ·rintro⟨r,hr,_⟩;simp[fB]at hr
 ·have:=b j;rw[this];exact tz
 ·have:=b j;rw[this];simp
 ·have:=b j;rw[this];simp
theorem PZ {tb:List cA}{n room m:Nat}(h1:32<=n)(h2:n<=1024)(h3:n%16=0)(h6:tb.length<=40)(h7:∀c∈tb,c.ok):WI (qx tb n room m):=by
 obtain⟨u,d⟩:=MV (room:=room) h1 h2 h3 h6 h7;have get:∀{k:Nat} {A:AR},(qx tb n room m).bY[k]?=some A->A=fB n room tb:=λ{k A} h=>by
  have h:(List.replicate m (fB n room tb))[k]?=some A:=h;rw[mR]at h;split at h<;>simp at h;exact h.symm
 have b:∀p,gf (VT n).st p=0:=λp=>by
  show(List.replicate n 0).getD p 0=0;rw[zQ,mR];split<;>rfl
 refine⟨λk A h=>by rw[get h];exact u,λk A h=>?_,λk A h=>by rw[get h];rfl,λk A h p a=>by rw[get h];exact d p,λp a=>(a (b p)).elim,λp k l A B D F h1 h2=>?_,tz,λp a=>by simp[qx]at a,λk A h j y w=>?_,λk A h r x=>?_⟩
 ·rw[get h];exact⟨by simp[qx,VT,fB],λp a=>(a (d p)).elim,λp a=>by rw[d p]at a;omega,λp=>by show gf (VT n).st p<=2;rw[b];omega⟩
 ·rw[get D]at h1;exact(h1 (d p)).elim
 ·rw[get h]at w;obtain⟨c,z,g,E⟩:=w;have e:z=[]:=by
   have h2:=g.2;simp only[fB]at h2;rw[mR]at h2;split at h2<;>simp at h2;exact h2
  subst e;obtain⟨G,s,i,C,_⟩:=(V3 (u.cG _ _ _ g)).1 E;simp at C
 ·rw[get h]at x;simp[fB]at x
end Go.Ar
namespace Go.Ar
open Go.Vc (bU dB cT)
variable {H H':Hw}{held:List Pc}{s0:Sp}{t k j:Nat}{g:Th}{A:AR}{c:cA}
theorem Lh {tb:List cA}{cf:Cf}(h1:32<=cf.aF)(h2:cf.aF<=1024)(h3:cf.aF%16=0)(h4:1<=cf.ia)(h6:tb.length<=40)(h7:∀c∈tb,c.ok):HI (Un tb cf) [] (VT cf.aF):=by
 have B:=PZ (tb:=tb) (n:=cf.aF) (room:=cf.room) (m:=cf.ia) h1 h2 h3 h6 h7;have i:∀g∈(Un tb cf).bR,g=⟨List.replicate tb.length ir,[],none⟩:=λg d=>(yT.1 d).2;have r:∀k,(List.replicate tb.length ir).getD k ir=ir:=λk=>by
  rw[zQ,mR];split<;>rfl
 refine⟨B,jv.refl _,λk x=>?_,tz,λe y=>by simp[Un]at y,λg d s a j=>?_,λg d=>?_,h7,?_,?_⟩
 ·have u:∀(n:Nat) (f:Th->Nat) (g:Th),f g=0->((List.replicate n g).map f).sum=0:=λn f g h=>by
   rw[vB,h]
   induction n with
   | zero=>rfl
   | succ n ih=>rw[sd,nU,ih]
  have z:gN ⟨List.replicate tb.length ir,[],none⟩ k x=0:=by
   unfold gN lL;split
   ·simp only[r];rfl
   ·rfl
  have:qu (Un tb cf) k x=0:=by
   unfold qu;show mj [] k x+((List.replicate cf.threads (⟨List.replicate tb.length ir,[],none⟩:Th)).map λg=>gN g k x).sum=0;rw[u _ _ _ z];rfl
  rw[this,KA];rintro⟨p,j,_⟩;simp at j
 ·rw[i g d]at j;cases j
 ·rw[i g d];refine⟨by simp[Un],λl A=>?_,λb w=>by simp at w,by simp,by unfold iu;rfl⟩;rw[(yT.1 A).2];exact⟨fL.nil,by simp[ir]⟩
 ·show 1<=(List.replicate cf.ia (fB cf.aF cf.room tb)).length;simpa using h4
 ·show(List.replicate cf.aF 0).length=cf.aF;simp
def KL (H H':Hw):Prop:=∀e∈H.live,∀w:Nat,e.1<=((8*w:Nat):Int)->((8*w:Nat):Int)<e.1+e.2.2.1->H'.sp.wd w=H.sp.wd w
theorem HI.yq (h:HI H held s0):WI ⟨H.tb,s0,H.bY,held⟩:=h.wi
theorem HI.mapped (h:HI H held s0){p:Pc}(hp:p∈held){x:Nat}(h1:p.addr<=x)(h2:x<p.addr+p.size):gf H.sp.st (x/256)≠0:=by
 obtain⟨A,a,_⟩:=h.wi.hf p hp;have e1:=h.wi.oT hp a h1 h2;have:=(h.wi.ow _ A a).own (x/256) O;intro hz;exact this ((h.m4.z _).1 hz)
theorem HI.kl (h:HI H held s0)(k:KS H.sp H'.sp):KL H H':=λe a w m j=>by
 obtain⟨_,p,b,_,_,i,g,_⟩:=h.lv e a;have d:=h.mapped b (x:=8*w) O O;exact(k.k _ d).2 w O
theorem KL.refl (H:Hw):KL H H:=λ_ _ _ _ _=>rfl
theorem KL.trans {H1 H2 H3:Hw}(a:KL H1 H2)(b:KL H2 H3)(hl:∀e∈H1.live,e∈H2.live):KL H1 H3:=λe d w i g=>(b e (hl e d) w i g).trans (a e d w i g)
structure mP (H H':Hw):Prop where
 hi:∃held s0,HI H' held s0
 live:H'.live=H.live
 bR:H'.bR=H.bR
 kp:QQ H' H
 kl:KL H H'
theorem mP.refl (h:HI H held s0):mP H H:=⟨⟨_,_,h⟩,rfl,rfl,QQ.refl _,KL.refl _⟩
theorem mP.trans {H1 H2 H3:Hw}(a:mP H1 H2)(b:mP H2 H3):mP H1 H3:=⟨b.hi,b.live.trans a.live,b.bR.trans a.bR,a.kp.trans b.kp,a.kl.trans b.kl λe d=>by rw[a.live];exact d⟩
theorem HI.n (h:HI H held s0)(hk:H.bY[k]?=some A):A.n=H.cf.aF:=by
 have:=(h.wi.ow k A hk).l;have a:=h.m4.l;have b:=h.sl;simp only at this;omega
theorem WI.wd {W:Wd}(h:WI W)(f:Nat->Int):WI {W with sp:={W.sp with wd:=f}}:=
 ⟨h.ga,λk A hk=>⟨(h.ow k A hk).l,(h.ow k A hk).own,(h.ow k A hk).cl,(h.ow k A hk).le⟩,h.tb,h.low,h.own,h.one,h.hk,h.hf,h.ht,h.hr⟩
theorem Eu {sp:Sp}{x:Int}(h:eO sp x=0):0<=x/\x%8=0/\gf sp.st (x.toNat/256)≠0:=by
 unfold eO at h;split at h
 ·cases h
 ·split at h
  ·cases h
  ·exact⟨O,O,by assumption⟩
theorem C7 (sp:Sp)(x v:Int):(ZM sp x v).st.length=sp.st.length/\(∀p,gf (ZM sp x v).st p=0↔gf sp.st p=0)/\∀w,(ZM sp x v).wd w=if eO sp x=0/\w=x.toNat/8 then v else sp.wd w:=by
 unfold ZM;split
 ·rename_i h0;have a:=Eu h0;refine⟨by simp[ny],λp=>?_,λw=>?_⟩
  ·show gf (sp.st.set (x.toNat/8/32) 2) p=0↔_;have b:x.toNat/8/32=x.toNat/256:=by omega
   rw[b];unfold gf at a ⊢;rw[zQ]at a ⊢;rw[zQ,nm];split
   ·rename_i he;split
    ·rw[←he];simp only[qk];exact⟨λh=>O,λh=>(a.2.2 h).elim⟩
    ·rename_i hl;rw[zW O]at a;exact(a.2.2 rfl).elim
   ·exact Iff.rfl
  ·show(if w=x.toNat/8 then v else sp.wd w)=_
   by_cases hw:w=x.toNat/8
   ·rw[zC hw,zC ⟨h0,hw⟩]
   ·rw[zB hw,zB λh=>hw h.2]
 ·exact⟨rfl,λ_=>Iff.rfl,λw=>by rw[zB λh=>by have:=h.1;contradiction]⟩
theorem HI.write (h:HI H held s0)(x v:Int):HI {H with sp:=ZM H.sp x v} held {s0 with wd:=(ZM H.sp x v).wd}:=by
 obtain⟨a,b,_⟩:=C7 H.sp x v;exact⟨h.wi.wd _,⟨a.trans h.m4.l,λp=>(b p).trans (h.m4.z p),rfl⟩,h.cn,h.lk,h.lv,h.gv,h.th,h.ok,h.a1,a.trans h.sl⟩
end Go.Ar
namespace Go.Ar
open Go Go.Vc Go.Proofs
variable {U u w w':Hp}{F B P Q:Rg}{L:dH}{H H':Hw}{t n:Nat}{g:Th}
end Go.Ar
namespace Go.Proofs
open Go.Vc
set_option maxRecDepth 100000
def X7.h:Hn:=.q .o2 (.q (.q (.cW (.seq [.op,.op,.op,.cR false 2 [.op,.op]])) .aJ) (.q .o1 (.q .o1 (.q (.k (.loop [(4,.one .s),(5,.I)] (.q (.q .o2 (.c .l .l)) (.k (.q .o7 .o6))))) (.q .o6 (.q .o1 (.q (.q .o1 (.k (.loop [(6,.one .s),(7,.I)] (.q (.q .o4 (.c .l .l)) (.q (.k (.q (.cW (.gH true [] [(70,.one .b)] (.tk [0,1,2,3,4,5] (.split 43 (.tk [6,7,8,9,10,11,12,13,14,15,16,17,18,19,20,21,22,23,24,25,26,27,28,29,30,31,32] (.done)) (.tk [6,7,8,9,10,11,12,13,14,15,16,17,18,19] (.split 57 (.tk [20,21,22,23,24,25,26,27,28,29,30,31,32] (.done)) (.tk [20,21,22,23,25,26,27,28,29] (.all [(24,.all [(30,.take 31 (.take 32 (.done)))])])))))))) (.c .o8 .l))) .o3))))) (.q .o3 .l))))))))
def X7.v (a:Int)(b:Hp)(c:Sl->Int->Hp->Prop):Prop:=bV (λd e=>If d (c ⟨none,0,0⟩ 1 e) (Ya [.s,bO] (λf=>f ⟨none,0,0⟩ 8 e) λg (h:Sl) (i:Int) j=>If (i<512) (Xu.c i a j λk l m n=>aV #[.I k,.I l,.I m] 149 n λo p=>App h 3 24 149 [.I 0,.I 0,.I 0] ⟨some o,1,1⟩ p λq r=>X6.c i a r λs t=>bM (i+s) λu=>g q u t) (Xu.c 512 a j λv w x y=>aV #[.I v,.I w,.I x] 149 y λz aa=>App h 3 24 149 [.I 0,.I 0,.I 0] ⟨some z,1,1⟩ aa λab ac=>Ya [.s,bO] (λad=>ad ⟨none,0,0⟩ 0 ac) λae (af:Sl) (ag:Int) ah=>If (ag<((ab.len:Nat):Int)) (Jn [.b] (λ(ai:Bool) aj=>If ai (Ix ab.a ab.len ag 3 λak=>aQ ak 0 aj λal=>aQ ak 1 aj λam=>aQ ak 2 aj λan=>aV #[.I al,.I am,.I an] 149 aj λao ap=>App af 3 24 149 [.I 0,.I 0,.I 0] ⟨some ao,1,1⟩ ap λaq ar=>bM (ag+1) λau=>ae aq au ar) (bM (ag+1) λav=>ae af av aj)) λaw=>dZ ah λax=>bM (((ab.len:Nat):Int)-1) λay=>If (ag==ay) (aw true ah) (Ix ab.a ab.len ag 3 λaz=>aS ax az 1 λa0=>bM (ag+1) λa1=>Ix ab.a ab.len a1 3 λa2=>aS ax a2 1 λa3=>If (a0 != a3) (aw true ah) (Ix ab.a ab.len ag 3 λa4=>aS ax a4 0 λa5=>aS ax a4 1 λa6=>aS ax a4 2 λa7=>bM (ag+1) λa8=>Ix ab.a ab.len a8 3 λa9=>aS ax a9 0 λba=>aS ax a9 1 λbb=>aS ax a9 2 λbc=>Xd.c a5 a6 a7 ah λbd be=>
 And (ax be) <| Xd.c ba bb bc be λbf bg=>And (ax bg) <| aw (bd != bf) bg))) (c af 0 ah)))) λbh=>If (a<2) (bh true b) (bh (decide (a>16)) b)
theorem X7.o {a b c}(d:X7.v a b c):X7.c a b c:=Wa Tryz.func96 (x:=X7.h) (R0 d)
def Xu.h:Hn:=.q .o1 (.q .o8 (.q (.q .o1 (.k (.loop [(6,.I)] (.q (.q .o2 (.c .l .l)) (.q (.k (.q (.cW (.seq [.op,.op,.op,.op,.op,.cR true 9 (RI.ops 9)])) (.c .o3 .l))) .o3))))) .aL))
def Xu.v (a b:Int)(c:Hp)(d:Int->Int->Int->Hp->Prop):Prop:=aV #[.I 0,.I 0,.I 0] 149 c λe f=>Nz a<|bM ((512:Int).tdiv a) λg=>aV #[.I 0,.I 0,.I 0] 149 f λh i=>aR h 0 (.I a) i λj=>aR h 1 (.I 4) j λk=>aR h 2 (.I (if 32<(if 2>g then 2 else g)then 32 else(if 2>g then 2 else g))) k λl=>Ya [bO] (λm=>m 4 l) λn (o:Int) p=>If (o≥1) (bM (o*256) λq=>bV (λr s=>If r (aR h 1 (.I o) s λt=>bM (o-1) λu=>n u t) (bM (o-1) λv=>n v s)) λw=>If (q≥a) (bM (o*256) λx=>Nz a <| bM (b*(x.tmod a)) λy=>bM (o*256) λz=>w (decide (y<=z)) p) (w false p)) (aQ h 0 p λaa=>aQ h 1 p λab=>aQ h 2 p λac=>aR e 0 (.I aa) p λad=>aR e 1 (.I ab) ad λae=>aR e 2 (.I ac) ae λaf=>aQ e 0 af λag=>aQ e 1 af λah=>aQ e 2 af λai=>d ag ah ai af)
theorem Xu.o {a b c d}(e:Xu.v a b c d):Xu.c a b c d:=Wa Tryz.func148 (x:=Xu.h) (R0 e)
def X6.h:Hn:=.q .o1 (.q .o1 (.q (.k (.loop [(5,.I)] (.q (.q .o6 (.c .l .l)) (.k .o3)))) .aL))
def X6.v (a b:Int)(c:Hp)(d:aN):Prop:=Ya [bO] (λe=>e 8 c) λf (g:Int) h=>bM (2*g) λi=>Nz b<|bM (a.tdiv b) λj=>If (i<=j) (bM (2*g) λk=>f k h) (d g h)
theorem X6.o {a b c d}(e:X6.v a b c d):X6.c a b c d:=Wa Tryz.func149 (x:=X6.h) (R0 e)
def Xd.h:Hn:=.q .o2 (.q .o1 (.q (.k (.loop [(3,.I)] (.q (.q .o9 (.c .l .l)) (.k .o3)))) .aL))
def Xd.v (a b c:Int)(d:Hp)(e:aN):Prop:=aV #[.I a,.I b,.I c] 149 d λf g=>Ya [bO] (λh=>h 0 g) λi (j:Int) k=>bM (j+1) λl=>aQ f 0 k λm=>bM (l*m) λn=>aQ f 1 k λo=>bM (o*256) λp=>If (n<=p) (bM (j+1) λq=>i q k) (e j k)
theorem Xd.o {a b c d e}(f:Xd.v a b c d e):Xd.c a b c d e:=Wa Tryz.func150 (x:=Xd.h) (R0 f)
end Go.Proofs
namespace Go.Ar
open Go Go.Vc Go.Proofs
variable {U w:Hp}
abbrev T3:=Int×Int×Int
def v3 (x:T3):List Value:=[.int .i64 x.1,.int .i64 x.2.1,.int .i64 x.2.2]
def lA (l:List T3):List Value:=l.flatMap v3
theorem AS (l:List T3):(lA l).length=l.length*3:=by
 induction l with
 | nil=>rfl
 | cons x l ih=>simp only[lA,qm,zM,v3,zV,lx]at *;omega
theorem Rt (l:List T3)(x:T3):lA (l++[x])=lA l++v3 x:=by simp[lA]
theorem Af:∀{l:List T3} {i:Nat} {x:T3},l[i]?=some x->∀{d:Nat},d<3->(lA l)[i*3+d]?=(v3 x)[d]?
 | [],_,_,h,_,_=>by simp at h
 | y::l,0,x,h,d,hd=>by
  simp at h;subst h;have e:lA (y::l)=v3 y++lA l:=rfl;rw[e,zd (by simp[v3];omega)];congr 1;omega
 | y::l,i+1,x,h,d,hd=>by
  have e:lA (y::l)=v3 y++lA l:=rfl;have a:(v3 y).length=3:=rfl;rw[e,zm O,a,show(i+1)*3+d-3=i*3+d by omega];exact Af (by simpa using h) hd
theorem EO {Q:Rg}{s:Sl}{l:List T3}(h:Go.Vc.Own Q U s 3 (lA l)):iw U s l:=by
 have r:=h.1;rw[AS]at r;refine⟨O,λi x y z d=>?_⟩;obtain⟨b,e,g⟩:=h.cell (j:=i*3+0) (v:=.int .i64 x) ((Af d O).trans rfl);obtain⟨m,a,u⟩:=h.cell (j:=i*3+1) (v:=.int .i64 y) ((Af d O).trans rfl);rw[e]at a;cases a;obtain⟨m,a,p⟩:=h.cell (j:=i*3+2) (v:=.int .i64 z) ((Af d O).trans rfl);rw[e]at a;cases a;refine⟨b,0,e,KJ g,?_,?_,?_⟩
 ·rw[show 0+i*3=i*3+0 by omega];exact g
 ·rw[show 0+i*3+1=i*3+1 by omega];exact u
 ·rw[show 0+i*3+2=i*3+2 by omega];exact p
def tB (s w:Int)(n:Nat):Int:=([4,3,2,1].take n).foldl (λ(r p:Int)=>if s<=p*256/\w*((p*256)%s)<=p*256 then p else r) 4
def yV (s:Int):Int:=min 32 (max 2 (512/s))
def k9 (s w:Int):T3:=(s,tB s w 4,yV s)
def xB:Nat->Int->Int->Int
 | 0,d,_=>d
 | n+1,d,q=>if 2*d<=q then xB n (2*d) q else d
def vV (s w:Int):Int:=xB 8 8 (s/w)
def mL (x:T3):Int:=x.2.1*256/x.1
theorem T7 (s w:Int)(n:Nat):1<=tB s w n/\tB s w n<=4:=by
 have key:∀(l:List Int) (r:Int),(∀p∈l,1<=p/\p<=4)->1<=r/\r<=4->1<=l.foldl (λ(r p:Int)=>if s<=p*256/\w*((p*256)%s)<=p*256 then p else r) r/\l.foldl (λ(r p:Int)=>if s<=p*256/\w*((p*256)%s)<=p*256 then p else r) r<=4:=by
  intro l
  induction l with
  | nil=>intro r _ h;exact h
  | cons p l ih=>
   intro r hl hr;rw[qv];refine ih _ (λq a=>hl q (mS _ a)) ?_;split
   ·exact hl p ni
   ·exact hr
 refine key _ _ (λp b=>?_) O;have:=uK b;simp at this;omega
theorem ER (s w:Int)(h1:8<=s)(h2:s<=512)(hw1:2<=w)(hw2:w<=16){R:Int->Int->Int->Hp->Prop}(hR:∀σ',bL U σ'->R (k9 s w).1 (k9 s w).2.1 (k9 s w).2.2 σ'):Xu.c s w U R:=by
 refine Xu.o ?_;unfold Xu.v;have X:1<=512/s/\512/s<=64:=⟨by rw[Int.le_ediv_iff_mul_le O];omega,Int.ediv_le_of_le_mul O O⟩;refine nw (cs:=[.int .i64 0,.int .i64 0,.int .i64 0]) λv hz e W=>nz O (ar (by rw[YK O];omega) (by rw[YK O];omega) ?_);rw[YK O];refine nw (cs:=[.int .i64 0,.int .i64 0,.int .i64 0]) λv1 H e1 C=>C.s1 aA λv2 o2 D=>D.s1 aA λY o3 j=>j.s1 aA λv4 o4 b4=>?_;have d:U.size≠v.size:=by omega
 have B:=WH o4 (WH o3 (WH o2 (e1.bW W id) d) d) d;have e4:bL U v4:=((((e.trans e1).only o2 (.inr O)).only o3 (.inr O)).only o4 (.inr O));have m:(if 32<(if 2>512/s then 2 else 512/s)then 32 else(if 2>512/s then 2 else 512/s))=yV s:=by unfold yV;omega
 rw[m]at b4;refine Qg (a:=bO) (λ(z:Int) u=>∃n:Nat,n<=4/\z=4-(n:Int)/\bL U u/\bZ u U.size [.int .i64 0,.int .i64 0,.int .i64 0]/\bZ u v.size [.int .i64 s,.int .i64 (tB s w n),.int .i64 (yV s)]) (λz _=>z.toNat) ⟨0,O,rfl,e4,B,b4⟩ ?_;rintro(z:Int) u ⟨n,hn,rfl,eu,hu,bu⟩;refine cQ (λL=>?_) λZ=>?_
 ·have M:n<4:=by omega
  have b:tB s w (n+1)=if s<=(4-(n:Int))*256/\w*(((4-(n:Int))*256)%s)<=(4-(n:Int))*256 then 4-(n:Int)else tB s w n:=by
   have P:([4,3,2,1]:List Int)[n]?=some (4-(n:Int)):=by
    rcases(show n=0\/n=1\/n=2\/n=3 by omega)with rfl|rfl|rfl|rfl<;>rfl
   unfold tB;rw[ko,P,vt];rfl
  refine ar O O ?_;refine KH (λr G=>G=u/\r=decide (s<=(4-(n:Int))*256/\w*(((4-(n:Int))*256)%s)<=(4-(n:Int))*256)) (λr G ⟨E,x⟩=>?_) λJ F=>?_
  ·subst E;by_cases hc:s<=(4-(n:Int))*256/\w*(((4-(n:Int))*256)%s)<=(4-(n:Int))*256
   ·rw[zJ hc]at x;rw[zC hc]at b;refine cD x (bu.s1 aA λS o1 A=>ar O O ⟨⟨n+1,O,O,eu.only o1 (.inr O),WH o1 hu d,by rw[b];exact A⟩,O⟩)
   ·rw[zL hc]at x;rw[zB hc]at b;exact cE x (ar O O ⟨⟨n+1,O,O,eu,hu,by rw[b];exact bu⟩,O⟩)
  ·have p:=Int.emod_nonneg ((4-(n:Int))*256) (show s≠0 by omega);have N:=Int.emod_lt_of_pos ((4-(n:Int))*256) (show 0<s by omega);have V:w*(((4-(n:Int))*256)%s)<=16*512:=Int.mul_le_mul hw2 O p O;have Q:0<=w*(((4-(n:Int))*256)%s):=Int.mul_nonneg O p;refine cQ (λh1=>ar O O (nz O ?_)) λh1=>F _ _ ⟨rfl,(zL λg=>h1 g.1).symm⟩;rw[Kg O];refine ar O O (ar O O (F _ _ ⟨rfl,?_⟩));rw[decide_eq_decide];exact⟨λg=>⟨h1,g⟩,λg=>g.2⟩
 ·have y:n=4:=by omega
  subst y;refine bu.rI rfl (bu.rI rfl (bu.rI rfl (hu.s1 aA λS o1 A=>A.s1 aA λu2 o2 D=>D.s1 aA λK o3 j=>j.rI rfl (j.rI rfl (j.rI rfl (hR K ?_))))));exact((eu.only o1 (.inr O)).only o2 (.inr O)).only o3 (.inr O)
theorem M9 (s w:Int)(h1:8<=s)(h2:s<=512)(hw1:2<=w){R:aN}(hR:8<=vV s w->vV s w<=256->R (vV s w) U):X6.c s w U R:=by
 refine X6.o ?_;unfold X6.v;have j:0<=s/w/\s/w<=256:=⟨Int.ediv_nonneg O O,by
  have:s/w<=s/2:=by
   apply Int.le_ediv_of_mul_le O;have:=Int.ediv_mul_le s (show w≠0 by omega);have g:s/w*2<=s/w*w:=Int.mul_le_mul_of_nonneg_left hw1 (Int.ediv_nonneg O O);omega
  omega⟩
 refine Qg (a:=bO) (λ(d:Int) u=>u=U/\∃n:Nat,xB n d (s/w)=vV s w/\8<=d/\d<=256/\512<=d*2^n) (λd _=>1000-d.toNat) ⟨rfl,8,rfl,O,O,by decide⟩ ?_;rintro(d:Int) u ⟨rfl,n,hst,hd1,hd2,hdn⟩;refine ar O O (nz O (ar (by rw[YK O];omega) (by rw[YK O];omega) ?_));rw[YK O];cases n with
 | zero=>simp at hdn;omega
 | succ n=>
  refine cQ (λe=>ar O O ⟨⟨rfl,n,?_,O,O,?_⟩,O⟩) λb=>?_
  ·rw[xB,zC e]at hst;exact hst
  ·rw[Int.pow_succ]at hdn;have:2*d*2^n=d*(2^n*2):=by rw[Int.mul_comm 2 d,Int.mul_assoc,Int.mul_comm 2 (2^n)]
   omega
  ·rw[xB,zB b]at hst;rw[←hst]at hR;exact hR hd1 hd2
theorem Ev (x:T3)(h1:8<=x.1)(h2:x.1<=512)(h3:1<=x.2.1)(h4:x.2.1<=4){R:aN}(hR:∀σ',bL U σ'->R (mL x) σ'):Xd.c x.1 x.2.1 x.2.2 U R:=by
 refine Xd.o ?_;unfold Xd.v;refine nw (cs:=[.int .i64 x.1,.int .i64 x.2.1,.int .i64 x.2.2]) λv w e m=>?_;refine Qg (a:=bO) (λ(n:Int) u=>bL U u/\bZ u U.size [.int .i64 x.1,.int .i64 x.2.1,.int .i64 x.2.2]/\0<=n/\n<=128/\n*x.1<=x.2.1*256) (λn _=>1000-n.toNat) ⟨e,m,O,O,O⟩ ?_;rintro(n:Int) u ⟨eu,bu,hn0,hn1,hn⟩;have s:(n+1)*x.1<=129*512:=Int.mul_le_mul O h2 O O;have j:0<=(n+1)*x.1:=Int.mul_nonneg O O;refine ar O O (bu.rI rfl (ar O O (bu.rI rfl (ar O O ?_))));refine cQ (λb=>ar O O ⟨⟨eu,bu,O,?_,b⟩,O⟩) λg=>?_
 ·have:(n+1)*8<=(n+1)*x.1:=Int.mul_le_mul_of_nonneg_left h1 O;omega
 ·have:mL x=n:=by
   unfold mL;have p:n<=x.2.1*256/x.1:=(Int.le_ediv_iff_mul_le O).2 hn;have r:x.2.1*256/x.1<n+1:=(Int.ediv_lt_iff_lt_mul O).2 O;omega
  have d:=hR u eu;rw[this]at d;exact d
end Go.Ar