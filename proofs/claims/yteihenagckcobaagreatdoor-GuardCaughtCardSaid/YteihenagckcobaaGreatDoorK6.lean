/- Texts joined. -/
import Derived.Test.YteihenagckcobaaGreatDoorK5
set_option linter.unusedVariables false
set_option linter.unusedSimpArgs false
namespace Go.Ar
variable {c:bZ}{ss:List cF}
structure dF (c:bZ) (ss:List cF):Prop where
 ok:c.ok
 tk:∀s∈ss,s.tk.length=c.n
 sN:ss.Pairwise λa b=>a.st+c.aF<=b.st
def Tk (c:bZ)(ss:List cF)(x:Int):Prop:=eB c ss x=some true
def uk (c:bZ)(ss:List cF)(p:Nat):Prop:=∃s∈ss,s.st<=p/\p<s.st+c.aF
theorem dF.pos (h:dF c ss):0<c.size:=by have:=h.ok;unfold bZ.ok at this;omega
theorem dF.pg (h:dF c ss):1<=c.aF:=by have:=h.ok;unfold bZ.ok at this;omega
theorem dF.mM (h:dF c ss):ss.Pairwise λa b=>a.st<b.st:=h.sN.imp λ{a b} d=>by have:=h.pg;omega
theorem dF.sB (h:dF c ss){i j:Nat}{s t:cF}(hi:ss[i]?=some s)(hj:ss[j]?=some t)(hij:i<j):s.st+c.aF<=t.st:=by
 obtain⟨b,rfl⟩:=cX.1 hi;obtain⟨a,rfl⟩:=cX.1 hj;exact k6.1 h.sN i j b a hij
theorem dF.xg (h:dF c ss){i j:Nat}{s t:cF}{p:Nat}(hi:ss[i]?=some s)(hj:ss[j]?=some t)(h1:s.st<=p)(h2:p<s.st+c.aF)(h3:t.st<=p)(h4:p<t.st+c.aF):i=j:=by
 rcases pR i j with hl|hl|hl
 ·have:=h.sB hi hj hl;omega
 ·exact hl
 ·have:=h.sB hj hi hl;omega
theorem Ig (hp:0<c.size){s:cF}{i:Nat}(hi:i<c.n):s.st*256<=at_ c s i/\at_ c s i+c.size<=(s.st+c.aF)*256:=by
 have b:=bZ.vE c;have a:(i+1)*c.size<=c.n*c.size:=kS _ hi;unfold at_;rw[zm]at a;omega
theorem HV (hp:0<c.size){s:cF}{i x:Nat}(hi:i<c.n)(h1:at_ c s i<=x)(h2:x<at_ c s i+c.size):s.st<=x/256/\x/256<s.st+c.aF:=by
 have:=Ig hp (s:=s) hi;omega
theorem UA (h:dF c ss){k l:Nat}{s t:cF}{i j x:Nat}(hk:ss[k]?=some s)(hl:ss[l]?=some t)(hi:i<c.n)(hj:j<c.n)(h1:at_ c s i<=x)(h2:x<at_ c s i+c.size)(h3:at_ c t j<=x)(h4:x<at_ c t j+c.size):k=l/\s=t/\i=j:=by
 have b:=HV h.pos hi h1 h2;have a:=HV h.pos hj h3 h4;have e:=h.xg hk hl b.1 b.2 a.1 a.2;subst e;rw[hk]at hl;cases hl;refine⟨rfl,rfl,?_⟩;unfold at_ at *;have d:=h.pos;rcases pR i j with hl|hl|hl
 ·have:(i+1)*c.size<=j*c.size:=kS _ hl;rw[zm]at this;omega
 ·exact hl
 ·have:(j+1)*c.size<=i*c.size:=kS _ hl;rw[zm]at this;omega
theorem BP (h:dF c ss){s:cF}(hs:s∈ss){x:Int}{i:Nat}(hi:idx c s x=some i):i<c.n/\((s.st*256:Nat):Int)<=x/\x<(((s.st+c.aF)*256:Nat):Int)/\((at_ c s i:Nat):Int)<=x/\x<((at_ c s i+c.size:Nat):Int):=by
 obtain⟨d,b,a⟩:=(VV h.pos).1 hi;rw[h.tk s hs]at a;have:=Ig h.pos (s:=s) a;have e:at_ c s (i+1)=at_ c s i+c.size:=by unfold at_;rw[zm];omega
 rw[e]at b;omega
theorem DY (h:dF c ss){k:Nat}{s:cF}{x:Int}{i:Nat}(hs:ss[k]?=some s)(hi:idx c s x=some i):kL c ss x=some k:=by
 obtain⟨m,e⟩:=cX.1 hs;refine nm.2 ⟨m,by rw[e,hi];rfl,λj p r=>?_⟩;have d:j<ss.length:=by omega
 obtain⟨u,g⟩:=qi.1 r;have a:=BP h (zG hs) hi;have b:=BP h (zp d) g;have:=h.sB (cU d) hs p;omega
theorem Dp (h:dF c ss){x:Int}{b:Bool}:eB c ss x=some b↔∃(k:Nat) (s:cF) (i:Nat),ss[k]?=some s/\i<c.n/\x=((at_ c s i:Nat):Int)/\s.is i=b:=by
 constructor
 ·intro hx;obtain⟨k,s,i,_,a,g,e⟩:=G0 hx;obtain⟨m,j⟩:=(UN h.pos).1 g;rw[h.tk s (zG a)]at j;exact⟨k,s,i,a,j,m,e⟩
 ·rintro⟨k,s,i,a,hi,rfl,e⟩;have p:=h.tk s (zG a);have g:obj c s ((at_ c s i:Nat):Int)=some i:=(UN h.pos).2 ⟨rfl,O⟩;have d:idx c s ((at_ c s i:Nat):Int)=some i:=(VV h.pos).2 ⟨wZ _,by have:=h.pos;unfold at_;rw[zm];omega,O⟩;rw[VI (DY h a d) a,g,←e];rfl
theorem VH (h:dF c ss){x:Int}:Tk c ss x↔∃(k:Nat) (s:cF) (i:Nat),ss[k]?=some s/\i<c.n/\x=((at_ c s i:Nat):Int)/\s.is i=true:=Dp h
theorem E8 (h:dF c ss){x:Int}{a:Nat}:qX c ss x=some a↔∃(k:Nat) (s:cF) (i:Nat),ss[k]?=some s/\i<c.n/\a=at_ c s i/\((at_ c s i:Nat):Int)<=x/\x<((at_ c s i+c.size:Nat):Int):=by
 constructor
 ·intro hf;cases ho:kL c ss x with
  | none=>rw[Dc ho]at hf;cases hf
  | some k=>
   have j:=(nm.1 ho).1;have b:ss[k]?=some ss[k]:=cU j;rw[HP ho b]at hf;obtain⟨i,g,rfl⟩:=oT.1 hf;have:=BP h (zG b) g;exact⟨k,_,i,b,this.1,rfl,this.2.2.2.1,this.2.2.2.2⟩
 ·rintro⟨k,s,i,b,g,rfl,h1,h2⟩;have m:=h.tk s (zG b);have e:at_ c s (i+1)=at_ c s i+c.size:=by unfold at_;rw[zm];omega
  have d:idx c s x=some i:=(VV h.pos).2 ⟨h1,by rw[e];exact h2,O⟩;rw[HP (DY h b d) b,d];rfl
theorem dF.put (h:dF c ss){k i:Nat}{s:cF}(hs:ss[k]?=some s)(v:Bool):dF c (ss.set k (s.put i v)):=by
 have r:=(cX.1 hs).1;refine⟨h.ok,λt p=>?_,?_⟩
 ·rcases yY p with p|rfl
  ·exact h.tk t p
  ·rw[show(s.put i v).tk.length=s.tk.length by simp[cF.put]];exact h.tk s (zG hs)
 ·rw[k6];intro a b ha hb hab;have m:a<ss.length:=by simpa using ha
  have d:b<ss.length:=by simpa using hb
  have g:∀j (hj:j<(ss.set k (s.put i v)).length) (hj':j<ss.length),(ss.set k (s.put i v))[j].st=ss[j].st:=by
   intro j hj hj';rw[List.getElem_set];split
   ·rename_i e;subst e;have:ss[k]=s:=(cX.1 hs).2;rw[this];rfl
   ·rfl
  rw[g a ha m,g b hb d];exact k6.1 h.sN a b m d hab
theorem IG {k i:Nat}{s:cF}(hs:ss[k]?=some s)(v:Bool):(ss.set k (s.put i v)).map (·.st)=ss.map (·.st):=by
 apply zr;intro j;simp only[zg];by_cases hjk:j=k
 ·subst hjk;rw[zM (cX.1 hs).1,hs];rfl
 ·rw[zj (Ne.symm hjk)]
theorem Ct {s:cF}{i j:Nat}{v:Bool}(hi:i<s.tk.length):(s.put i v).is j=if j=i then v else s.is j:=by
 unfold cF.is cF.put;simp only[zP];by_cases hj:j=i
 ·subst hj;rw[zM hi,zC rfl];rfl
 ·rw[zj (Ne.symm hj),zB hj]
theorem IW (h:dF c ss){k i:Nat}{s:cF}(hs:ss[k]?=some s)(hi:i<c.n)(v:Bool){y:Int}:Tk c (ss.set k (s.put i v)) y↔(y=((at_ c s i:Nat):Int)/\v=true)\/(y≠((at_ c s i:Nat):Int)/\Tk c ss y):=by
 have b:=(cX.1 hs).1;have g:=h.tk s (zG hs);have m:=h.pos;rw[VH (h.put hs v),VH h];constructor
 ·rintro⟨l,t,j,ht,hj,rfl,hb⟩;by_cases hlk:l=k
  ·subst hlk;rw[zM b]at ht;cases ht;rw[Ct O]at hb;by_cases a:j=i
   ·subst a;rw[zC rfl]at hb;exact .inl ⟨rfl,hb⟩
   ·rw[zB a]at hb;refine .inr ⟨λe=>a ?_,l,s,j,hs,hj,rfl,hb⟩;have d:at_ c s j=at_ c s i:=by have:=Int.ofNat.inj e;exact this
    exact(UA h hs hs hj hi (zD _) O O O).2.2
  ·rw[zj (Ne.symm hlk)]at ht;refine .inr ⟨λe=>hlk ?_,l,t,j,ht,hj,rfl,hb⟩;have d:at_ c t j=at_ c s i:=Int.ofNat.inj e;exact(UA h ht hs hj hi (zD _) O O O).1
 ·rintro(⟨rfl,rfl⟩|⟨hne,l,t,j,ht,hj,rfl,hb⟩)
  ·exact⟨k,s.put i true,i,zM b,hi,rfl,by rw[Ct O,zC rfl]⟩
  ·by_cases hlk:l=k
   ·subst hlk;rw[hs]at ht;cases ht;have a:j≠i:=λe=>hne (by rw[e]);exact⟨l,s.put i v,j,zM b,hj,rfl,by rw[Ct O,zB a];exact hb⟩
   ·exact⟨l,t,j,(zj (Ne.symm hlk)).trans ht,hj,rfl,hb⟩
theorem Ec {p:Nat}:uk c ss p↔∃x∈ss.map (·.st),x<=p/\p<x+c.aF:=by
 constructor
 ·rintro⟨s,a,h⟩;exact⟨_,zE.2 ⟨s,a,rfl⟩,h⟩
 ·rintro⟨x,hx,h⟩;obtain⟨s,a,rfl⟩:=zE.1 hx;exact⟨s,a,h⟩
theorem R9 {ss':List cF}(e:ss'.map (·.st)=ss.map (·.st)){p:Nat}:uk c ss' p↔uk c ss p:=by rw[Ec,Ec,e]
theorem Td (h:dF c ss){x:Nat}{ss':List cF}(ho:iY c ss=some (x,ss')):dF c ss'/\ss'.map (·.st)=ss.map (·.st)/\¬Tk c ss (x:Int)/\∀y,Tk c ss' y↔y=(x:Int)\/Tk c ss y:=by
 unfold iY at ho;split at ho
 ·rename_i k hk;obtain⟨_,s,g,m⟩:=QR hk;rw[g]at ho;simp only at ho;split at ho
  ·rename_i i hi;cases ho;obtain⟨r,w,p,u⟩:=GT m;rw[hi]at w;cases w;have j:i<c.n:=by rw[←h.tk s (zG g)];exact p
   have d:¬Tk c ss ((at_ c s i:Nat):Int):=λa=>by
    have z:=(Dp h (x:=((at_ c s i:Nat):Int)) (b:=false)).2 ⟨k,s,i,g,j,rfl,u⟩;unfold Tk at a;rw[z]at a;cases a
   refine⟨h.put g true,IG g true,d,λy=>?_⟩;rw[IW h g j];constructor
   ·rintro(⟨e,_⟩|⟨_,a⟩)
    ·exact .inl e
    ·exact .inr a
   ·rintro(e|a)
    ·exact .inl ⟨e,rfl⟩
    ·exact .inr ⟨λe=>d (e▸a),a⟩
  ·cases ho
 ·cases ho
theorem HZ:∀(m:Nat) {ss:List cF},dF c ss->dF c (Kb c m ss).2/\(Kb c m ss).2.map (·.st)=ss.map (·.st)/\(Kb c m ss).1.length<=m/\(Kb c m ss).1.Nodup/\(∀x∈(Kb c m ss).1,¬Tk c ss (x:Int))/\∀y,Tk c (Kb c m ss).2 y↔(∃x∈(Kb c m ss).1,y=((x:Nat):Int))\/Tk c ss y
 | 0,ss,h=>⟨h,rfl,zD _,sx,by simp[Kb],by simp[Kb]⟩
 | m+1,ss,h=>by
  cases ho:iY c ss with
  | none=>
   have e:Kb c (m+1) ss=([],ss):=by simp[Kb,ho]
   rw[e];exact⟨h,rfl,by simp,sx,by simp,by simp⟩
  | some r=>
   obtain⟨x,p⟩:=r;rw[HR ho];obtain⟨A,s,d,a⟩:=Td h ho;obtain⟨g,w,B,u,b,j⟩:=HZ m A;refine⟨g,w.trans s,by simp;omega,zo.2 ⟨λz=>b x z ((a _).2 (.inl rfl)),u⟩,?_,λy=>?_⟩
   ·intro y hy;rcases zV.1 hy with rfl|hy
    ·exact d
    ·exact λi=>b y hy ((a _).2 (.inr i))
   ·rw[j,a];simp only[zV,exists_eq_or_imp];constructor
    ·rintro(h|h|h)
     ·exact .inl (.inr h)
     ·exact .inl (.inl h)
     ·exact .inr h
    ·rintro((h|h)|h)
     ·exact .inr (.inl h)
     ·exact .inl h
     ·exact .inr (.inr h)
theorem D4:∀(xs:List Int) {ss:List cF},dF c ss->kv c ss xs->dF c (xs.foldl (fD c) ss)/\(xs.foldl (fD c) ss).map (·.st)=ss.map (·.st)/\∀y,Tk c (xs.foldl (fD c) ss) y↔Tk c ss y/\y∉xs
 | [],ss,h,_=>⟨h,rfl,by simp⟩
 | x::xs,ss,h,hA=>by
  have hx:=hA.1 x aA;obtain⟨k,s,i,m,b,j,_⟩:=G0 hx;obtain⟨d,a⟩:=(UN h.pos).1 j;rw[h.tk s (zG b)]at a;have e:=yP m b j;have u:=h.put b false (i:=i);have g:=hA.next h.pos;obtain⟨p,w,r⟩:=D4 xs (ss:=fD c ss x) (by rw[e];exact u) g;rw[qW];refine⟨p,w.trans (by rw[e];exact IG b false),λy=>?_⟩;rw[r,e,IW h b a,←d];simp only[ze,and_false,false_or,zV,not_or];constructor
  ·rintro⟨⟨d,a⟩,h3⟩;exact⟨a,d,h3⟩
  ·rintro⟨a,d,h3⟩;exact⟨⟨d,a⟩,h3⟩
theorem E7 {s:cF}(h0:s.many=0)(i:Nat):s.is i=false:=by
 unfold cF.many at h0;rw[xV]at h0;unfold cF.is;rw[zP];cases hi:s.tk[i]? with
 | none=>rfl
 | some b=>
  cases b
  ·rfl
  ·exact absurd (zG hi) h0
theorem dF.cH (h:dF c ss):dF c (Go.Ar.cH ss):=⟨h.ok,λs a=>h.tk s (zI.1 a).1,h.sN.filter _⟩
theorem IU (h:dF c ss){y:Int}:Tk c (cH ss) y↔Tk c ss y:=by
 rw[VH h.cH,VH h];constructor
 ·rintro⟨k,s,i,hs,hi,rfl,hb⟩;obtain⟨l,a⟩:=zQ (zI.1 (zG hs)).1;exact⟨l,s,i,a,hi,rfl,hb⟩
 ·rintro⟨k,s,i,hs,hi,rfl,hb⟩;have:s∈cH ss:=zI.2 ⟨zG hs,by
   have:s.many≠0:=λb=>by rw[E7 b i]at hb;cases hb
   simpa using this⟩
  obtain⟨l,a⟩:=zQ this;exact⟨l,s,i,a,hi,rfl,hb⟩
theorem Cs {x:Nat}:x∈Qo ss↔∃s∈ss,s.many=0/\s.st=x:=by
 unfold Qo;simp only[zE,zI,zT,and_assoc]
theorem Dv (h:dF c ss){p:Nat}:uk c (cH ss) p↔uk c ss p/\¬∃x∈Qo ss,x<=p/\p<x+c.aF:=by
 constructor
 ·rintro⟨s,hs,h1,h2⟩;have b:=zI.1 hs;refine⟨⟨s,b.1,h1,h2⟩,?_⟩;rintro⟨x,hx,h3,h4⟩;obtain⟨t,m,d,rfl⟩:=Cs.1 hx;obtain⟨i,g⟩:=zQ b.1;obtain⟨j,a⟩:=zQ m;have e:=h.xg g a h1 h2 h3 h4;subst e;rw[g]at a;cases a;simp[d]at b
 ·rintro⟨⟨s,hs,h1,h2⟩,hn⟩;refine⟨s,zI.2 ⟨hs,?_⟩,h1,h2⟩;have:s.many≠0:=λd=>hn ⟨s.st,Cs.2 ⟨s,hs,d,rfl⟩,h1,h2⟩;simpa using this
theorem Px (h:dF c ss):(Qo ss).Pairwise λa b=>a+c.aF<=b:=by
 unfold Qo;rw[pf];exact h.sN.filter _
theorem Vy {st:Nat}{t:cF}:t∈ij c ss st↔t=⟨st,List.replicate c.n false⟩\/t∈ss:=by
 unfold ij;rw[zK,zV];have:t∈ss↔t∈ss.takeWhile (λs=>decide (s.st<st))\/t∈ss.dropWhile (λs=>decide (s.st<st)):=by
  rw[←zK,List.takeWhile_append_dropWhile]
 rw[this];constructor
 ·rintro(h|h|h)
  ·exact .inr (.inl h)
  ·exact .inl h
  ·exact .inr (.inr h)
 ·rintro(h|h|h)
  ·exact .inr (.inl h)
  ·exact .inl h
  ·exact .inr (.inr h)
theorem Fq (h:dF c ss){st:Nat}(hd:∀s∈ss,s.st+c.aF<=st\/st+c.aF<=s.st):dF c (ij c ss st):=by
 refine⟨h.ok,λs m=>?_,?_⟩
 ·rcases Vy.1 m with rfl|m
  ·simp
  ·exact h.tk s m
 ·have g:=Ge h.mM st;have u:=h.pg;rw[G5];refine pY.2 ⟨h.sN.sublist (AO _ _),r5.2 ⟨λb e=>?_,h.sN.sublist (List.drop_sublist _ _)⟩,λa r b e=>?_⟩
  ·obtain⟨i,d⟩:=zQ e;rw[kY]at d;have:=g.2 _ _ d;rcases hd b (sC e)with h1|h1
   ·omega
   ·exact h1
  ·obtain⟨i,d⟩:=zQ r;rw[zk]at d;split at d
   ·rename_i hlt;rcases zV.1 e with rfl|e
    ·have:=(g.2 _ _ d).2 hlt;rcases hd a (zG d)with h1|h1
     ·exact h1
     ·omega
    ·obtain⟨j,p⟩:=zQ e;rw[kY]at p;exact h.sB d p O
   ·cases d
theorem ER (h:dF c ss){st:Nat}(hd:∀s∈ss,s.st+c.aF<=st\/st+c.aF<=s.st){y:Int}:Tk c (ij c ss st) y↔Tk c ss y:=by
 rw[VH (Fq h hd),VH h];constructor
 ·rintro⟨k,s,i,hs,hi,rfl,hb⟩;rcases Vy.1 (zG hs)with rfl|hm
  ·have:(⟨st,List.replicate c.n false⟩:cF).is i=false:=E7 (by simp[cF.many,yN]) i;rw[this]at hb;cases hb
  ·obtain⟨l,a⟩:=zQ hm;exact⟨l,s,i,a,hi,rfl,hb⟩
 ·rintro⟨k,s,i,hs,hi,rfl,hb⟩;obtain⟨l,a⟩:=zQ (Vy.2 (.inr (zG hs)):s∈ij c ss st);exact⟨l,s,i,a,hi,rfl,hb⟩
theorem MR {st:Nat}(hd:∀s∈ss,s.st+c.aF<=st\/st+c.aF<=s.st):GB c ss st=0:=by
 unfold GB;rw[zB];simp only[kf,zU,not_exists,not_and];intro s hs hlt;rcases hd s hs with h|h<;>omega
end Go.Ar
namespace Go.Ar
open Go.Bu (Zj QI Zh pO Vg dC take Kt KI Bounded)
def gf (st:List Nat)(p:Nat):Nat:=st.getD p 0
def AR.f (A:AR)(p:Nat):Nat:=gf A.st p
def mf (rs:List (Nat×Nat))(p:Nat):Prop:=∃r∈rs,r.1<=p/\p<r.1+r.2
theorem C8 {st:List Nat}{p:Nat}(h:gf st p≠0):p<st.length:=by
 apply Classical.byContradiction;intro hn;exact h (by unfold gf;rw[zP,zW O];rfl)
theorem u9 {st:List Nat}{a b v p:Nat}(hb:b<=st.length):gf (gD st a b v) p=if a<=p/\p<b then v else gf st p:=by
 unfold gf;rw[zP,zP,Hm];by_cases hp:p<st.length
 ·rw[cU hp];simp only[zZ,pZ]
 ·rw[zW O,zB O];rfl
theorem Uw {n a m:Nat}:Zj n (a:Int) (m:Int)=true↔1<=m/\a+m<=n:=by
 simp only[Zj,zF,zU];omega
theorem Rr {st:List Nat}{a m:Nat}{fr:List Nat}(hl:a+m<=st.length):uo st a m fr=true↔∀p,a<=p->p<a+m->gf st p∈fr:=by
 unfold uo;rw[ke];constructor
 ·intro h p h1 h2;have d:p<st.length:=by omega
  have:st[p]∈(st.drop a).take m:=by
   refine zG (i:=p-a) ?_;rw[zk,zC O,kY,show a+(p-a)=p by omega,cU d]
  have:=h _ this;unfold gf;rw[zP,cU d];simpa using this
 ·intro h x hx;obtain⟨i,b⟩:=zQ hx;rw[zk]at b;split at b
  ·rename_i hlt;rw[kY]at b;have:=h (a+i) O O;unfold gf at this;rw[zP,b]at this;simpa using this
  ·cases b
theorem F6 {st:List Nat}{a m v:Nat}{fr:List Nat}(h1:1<=m)(hl:a+m<=st.length)(h:∀p,a<=p->p<a+m->gf st p∈fr):Uv st (a:Int) (m:Int) v fr=gD st a (a+m) v:=by
 unfold Uv oO;rw[zC (Uw.2 ⟨h1,hl⟩),dD,dD,(Rr hl).2 h];rfl
structure PG (A:AR):Prop where
 len:A.st.length=A.n
 n1:32<=A.n
 n2:A.n<=1024
 n16:A.n%16=0
 le:∀p,A.f p<=3
 us:∀p,A.f p=1↔A.ow p≠0
 fr:∀p,A.S p=true↔2<=A.f p
 hp:∀p,A.f p=0↔A.f (p/16*16)=0
theorem PG.lt {A:AR}(h:PG A){p:Nat}(hp:A.f p≠0):p<A.n:=h.len▸C8 hp
theorem PG.jr {A:AR}(h:PG A):Bounded A.S A.n:=λp a=>h.lt (by have:=(h.fr p).1 a;omega)
theorem PG.kM {A:AR}(h:PG A){p q:Nat}(e:p/16=q/16):A.f p=0↔A.f q=0:=by rw[h.hp p,h.hp q,e]
theorem PG.same {A B:AR}(h:PG A)(e1:B.n=A.n)(e2:B.st=A.st)(e3:B.S=A.S)(e4:B.ow=A.ow):PG B:=by
 have a:∀p,B.f p=A.f p:=λp=>by unfold AR.f;rw[e2]
 exact⟨by rw[e2,e1];exact h.len,by rw[e1];exact h.n1,by rw[e1];exact h.n2,by rw[e1];exact h.n16,λp=>by rw[a];exact h.le p,λp=>by rw[a,e4];exact h.us p,λp=>by rw[a,e3];exact h.fr p,λp=>by rw[a,a];exact h.hp p⟩
theorem D8 {ow:Nat->Nat}{a m no:Nat}(h1:1<=m)(h2:a+m<=1024)(p:Nat):jH ow a m no p=if a<=p/\p<a+m then no else ow p:=by
 unfold jH;rw[zC (Uw.2 ⟨h1,h2⟩)]
theorem FE {n:Nat}{S:Nat->Bool}{a m:Nat}(h1:1<=m)(h2:a+m<=n)(h:∀p,a<=p->p<a+m->S p=false):QI n S (a:Int) (m:Int)=dC S a (a+m):=by
 unfold QI;rw[Uw.2 ⟨h1,h2⟩,dD,dD,Vg.2 h];rfl
structure Out (A B:AR) (a b:Nat):Prop where
 n:B.n=A.n
 len:B.st.length=A.st.length
 f:∀p,¬(a<=p/\p<b)->B.f p=A.f p
 ow:∀p,¬(a<=p/\p<b)->B.ow p=A.ow p
 S:∀p,¬(a<=p/\p<b)->B.S p=A.S p
theorem Out.pg {A B:AR}{a b v:Nat}(o:Out A B a b)(h:PG A)(hv:v<=3)(hf:∀p,a<=p->p<b->B.f p=v)(hw:∀p,a<=p->p<b->(v=1↔B.ow p≠0))(hS:∀p,a<=p->p<b->(B.S p=true↔2<=v))
 (hz:∀p,B.f p=0↔B.f (p/16*16)=0):PG B:=by
 refine⟨by rw[o.len,o.n];exact h.len,by rw[o.n];exact h.n1,by rw[o.n];exact h.n2,by rw[o.n];exact h.n16,λp=>?_,λp=>?_,λp=>?_,hz⟩
 ·by_cases hp:a<=p/\p<b
  ·rw[hf p hp.1 hp.2];exact hv
  ·rw[o.f p hp];exact h.le p
 ·by_cases hp:a<=p/\p<b
  ·rw[hf p hp.1 hp.2];exact hw p hp.1 hp.2
  ·rw[o.f p hp,o.ow p hp];exact h.us p
 ·by_cases hp:a<=p/\p<b
  ·rw[hf p hp.1 hp.2];exact hS p hp.1 hp.2
  ·rw[o.f p hp,o.S p hp];exact h.fr p
theorem Out.zero {A B:AR}{a b v:Nat}(o:Out A B a b)(h:PG A)(hf:∀p,a<=p->p<b->B.f p=v)(hv:v≠0)(hA:∀p,a<=p->p<b->A.f p≠0):∀p,B.f p=0↔A.f p=0:=by
 intro p;by_cases hp:a<=p/\p<b
 ·rw[hf p hp.1 hp.2];exact⟨λe=>(hv e).elim,λe=>(hA p hp.1 hp.2 e).elim⟩
 ·rw[o.f p hp]
theorem Fs {A B:AR}(h:PG A)(e:∀p,B.f p=0↔A.f p=0):∀p,B.f p=0↔B.f (p/16*16)=0:=λp=>by rw[e,e];exact h.hp p
theorem Il {A:AR}(h:PG A){a m:Nat}(h1:1<=m)(hu:∀p,a<=p->p<a+m->A.f p=1):Out A (VR A (a,m)) a (a+m)/\(∀p,a<=p->p<a+m->(VR A (a,m)).f p=2/\(VR A (a,m)).ow p=0)/\PG (VR A (a,m))/\∀p,(VR A (a,m)).f p=0↔A.f p=0:=by
 have g:a+m<=A.n:=by have:=h.lt (p:=a+m-1) (by rw[hu _ O O];omega);omega
 have w:=h.n2;have e1:(VR A (a,m)).st=gD A.st a (a+m) 2:=F6 h1 (by rw[h.len];exact g) λp d b=>by
  have:=hu p d b;unfold AR.f at this;rw[this];simp
 have e2:(VR A (a,m)).S=dC A.S a (a+m):=FE h1 g λp d b=>by
  apply nk.2;intro hS;have:=(h.fr p).1 hS;have:=hu p d b;omega
 have s:∀p,(VR A (a,m)).ow p=if a<=p/\p<a+m then 0 else A.ow p:=λp=>D8 h1 O p
 have r:∀p,(VR A (a,m)).f p=if a<=p/\p<a+m then 2 else A.f p:=λp=>by unfold AR.f;rw[e1,u9 (by rw[h.len];exact g)]
 have o:Out A (VR A (a,m)) a (a+m):=⟨rfl,by rw[e1,KJ],λp e=>by rw[r,zB e],λp e=>by rw[s,zB e],λp e=>by
  rw[e2];unfold dC;have:(decide (a<=p)&&decide (p<a+m))=false:=by simp;omega
  rw[this,Bool.or_false]⟩
 have i:∀p,a<=p->p<a+m->(VR A (a,m)).f p=2:=λp d b=>by rw[r,zC ⟨d,b⟩]
 have u:∀p,a<=p->p<a+m->(VR A (a,m)).ow p=0:=λp d b=>by rw[s,zC ⟨d,b⟩]
 have j:=o.zero h i O λp d b=>by rw[hu p d b];omega
 refine⟨o,λp d b=>⟨i p d b,u p d b⟩,o.pg h O i (λp d b=>by rw[u p d b];simp) (λp d b=>?_) (Fs h j),j⟩;rw[e2,Kt];exact⟨λ_=>zD _,λ_=>.inr ⟨d,b⟩⟩
structure r9 (A B:AR) (rs:List (Nat×Nat)):Prop where
 pg:PG B
 n:B.n=A.n
 tb:B.tb=A.tb
 room:B.room=A.room
 cM:B.cM=A.cM
 cE:B.cE=A.cE
 runs:B.runs=A.runs
 i:∀p,mf rs p->B.f p=2/\B.ow p=0
 o:∀p,¬mf rs p->B.f p=A.f p/\B.ow p=A.ow p
 z:∀p,B.f p=0↔A.f p=0
theorem FU:∀(rs:List (Nat×Nat)) {A:AR},PG A->(∀r∈rs,1<=r.2)->(∀r∈rs,∀p,r.1<=p->p<r.1+r.2->A.f p=1)->rs.Pairwise (λa b=>a.1+a.2<=b.1\/b.1+b.2<=a.1)->r9 A (Uf A rs) rs
 | [],A,h,_,_,_=>⟨h,rfl,rfl,rfl,rfl,rfl,rfl,λp ⟨r,hr,_⟩=>by simp at hr,λp _=>⟨rfl,rfl⟩,λp=>Iff.rfl⟩
 | (a,m)::rs,A,h,hp,hu,hd=>by
  have hd':=r5.1 hd;obtain⟨o,C,x,B⟩:=Il h (hp _ (oh ..)) (hu _ (oh ..));have d:=FU rs x (λr hr=>hp r (mC _ hr)) (λr hr p u s=>by
   have:=hd'.1 r hr;simp only at this;rw[o.f p O];exact hu r (mC _ hr) p u s) hd'.2
  have e:Uf A ((a,m)::rs)=Uf (VR A (a,m)) rs:=rfl;rw[e];refine⟨d.pg,d.n,d.tb,d.room,d.cM,d.cE,d.runs,λp g=>?_,λp g=>?_,λp=>(d.z p).trans (B p)⟩
  ·by_cases j:mf rs p
   ·exact d.i p j
   ·have:=d.o p j;obtain⟨r,hr,u,s⟩:=g;rcases zV.1 hr with rfl|hr
    ·rw[this.1,this.2];exact C p u s
    ·exact(j ⟨r,hr,u,s⟩).elim
  ·have j:¬mf rs p:=λ⟨r,hr,w⟩=>g ⟨r,mC _ hr,w⟩;have y:¬(a<=p/\p<a+m):=λw=>g ⟨(a,m),oh ..,w⟩;have:=d.o p j;exact⟨this.1.trans (o.f p y),this.2.trans (o.ow p y)⟩
theorem Ag {A:AR}(h:PG A){a m no:Nat}(h1:1<=m)(hn:no≠0)(hS:∀p,a<=p->p<a+m->A.S p=true):Out A (dR A a m no) a (a+m)/\(∀p,a<=p->p<a+m->(dR A a m no).f p=1/\(dR A a m no).ow p=no)/\PG (dR A a m no)/\∀p,(dR A a m no).f p=0↔A.f p=0:=by
 have g:∀p,a<=p->p<a+m->2<=A.f p:=λp d b=>(h.fr p).1 (hS p d b);have j:a+m<=A.n:=by have:=h.lt (p:=a+m-1) (by have:=g (a+m-1) O O;omega);omega
 have y:=h.n2;have e1:(dR A a m no).st=gD A.st a (a+m) 1:=F6 h1 (by rw[h.len];exact j) λp d b=>by
  have z:=g p d b;have x:=h.le p;unfold AR.f at z x;have:gf A.st p=2\/gf A.st p=3:=by omega
  simpa using this
 have u:∀p,(dR A a m no).ow p=if a<=p/\p<a+m then no else A.ow p:=λp=>D8 h1 O p
 have s:∀p,(dR A a m no).f p=if a<=p/\p<a+m then 1 else A.f p:=λp=>by unfold AR.f;rw[e1,u9 (by rw[h.len];exact j)]
 have o:Out A (dR A a m no) a (a+m):=⟨rfl,by rw[e1,KJ],λp e=>by rw[s,zB e],λp e=>by rw[u,zB e],λp e=>by
  show take A.S a (a+m) p=A.S p;unfold take;have:(decide (a<=p)&&decide (p<a+m))=false:=by simp;omega
  rw[this];simp⟩
 have i:∀p,a<=p->p<a+m->(dR A a m no).f p=1:=λp d b=>by rw[s,zC ⟨d,b⟩]
 have w:∀p,a<=p->p<a+m->(dR A a m no).ow p=no:=λp d b=>by rw[u,zC ⟨d,b⟩]
 have r:=o.zero h i O λp d b=>by have:=g p d b;omega
 refine⟨o,λp d b=>⟨i p d b,w p d b⟩,o.pg h O i (λp d b=>by rw[w p d b];simp[hn]) (λp d b=>?_) (Fs h r),r⟩;show take A.S a (a+m) p=true↔_;rw[KI];constructor
 ·rintro⟨_,hx⟩;exact(hx ⟨d,b⟩).elim
 ·intro hx;omega
theorem Ft:∀(m:Nat) {st:List Nat} {a:Nat},(a+m)*16<=st.length->(∀p,a*16<=p->p<(a+m)*16->gf st p=0)->(US st a m).length=st.length/\∀p,gf (US st a m) p=if a*16<=p/\p<(a+m)*16 then 3 else gf st p
 | 0,st,a,hl,hz=>⟨rfl,λp=>by rw[zB O];rfl⟩
 | m+1,st,a,hl,hz=>by
  obtain⟨i1,i2⟩:=Ft m (st:=st) (a:=a) O λp d g=>hz p d O;rw[CY];have b:gf (US st a m) (16*(a+m))=0:=by rw[i2,zB O];exact hz _ O O
  have ok:kC (US st a m) ((a+m:Nat):Int)=0:=by
   unfold kC;rw[IF (by rw[i1];omega),zC rfl,dD];unfold gf at b;rw[zC b]
  have e:iO (US st a m) ((a+m:Nat):Int)=gD (US st a m) (16*(a+m)) (16*(a+m)+16) 3:=by
   unfold iO;rw[zC ok,dD]
  rw[e];refine⟨by rw[KJ,i1],λp=>?_⟩;rw[u9 (by rw[i1];omega),i2];by_cases h1:16*(a+m)<=p/\p<16*(a+m)+16
  ·rw[zC h1,zC O]
  ·rw[zB h1];by_cases h2:a*16<=p/\p<(a+m)*16
   ·rw[zC h2,zC O]
   ·rw[zB h2,zB O]
theorem y7 {sp:Sp}{s m:Nat}(h:fA sp (s:Int) (m:Int)=0):1<=m/\s+m<=sp.st.length/\∀p,s<=p->p<s+m->gf sp.st p=0:=by
 unfold fA at h;split at h
 ·rename_i hr;obtain⟨e,b⟩:=Uw.1 hr;rw[dD,dD]at h;split at h
  ·cases h
  ·rename_i hn;refine⟨e,b,λp j g=>?_⟩;have a:p<sp.st.length:=by omega
   have d:sp.st[p]∈(sp.st.drop s).take m:=by
    refine zG (i:=p-s) ?_;rw[zk,zC O,kY,show s+(p-s)=p by omega,cU a]
   simp only[kf,not_exists,not_and]at hn;have:=hn _ d;unfold gf;rw[zP,cU a];simpa using this
 ·cases h
structure Grown (A B:AR) (sp sp':Sp) (s size:Nat):Prop where
 pg:PG B
 n:B.n=A.n
 tb:B.tb=A.tb
 room:B.room=A.room
 cM:B.cM=A.cM
 cE:B.cE=A.cE
 runs:B.runs=A.runs
 ow:B.ow=A.ow
 TL:s%16=0
 s1:16<=s
 sl:s+size<=A.n
 un:∀p,s<=p->p<s+size->gf sp.st p=0
 i:∀p,s<=p->p<s+size->B.f p=3/\gf sp'.st p=1
 o:∀p,¬(s<=p/\p<s+size)->B.f p=A.f p/\gf sp'.st p=gf sp.st p
 w:∀x,¬(s*32<=x/\x<(s+size)*32)->sp'.wd x=sp.wd x
 l:sp'.st.length=sp.st.length
 pk:sp'.pk=sp.pk
theorem UV {sp:Sp}{size s:Nat}(h1:1<=size)(h:cY sp size=some s):fA sp (s:Int) (size:Int)=0/\s≠0/\(∃j,s=j*size)/\∀j,j*size<s->1<=j->fA sp ((j*size:Nat):Int) (size:Int)≠0:=by
 unfold cY at h;obtain⟨p,us,vs,u,A⟩:=List.find?_eq_some_iff_append.1 h;simp only[zF,bne_iff_ne,ne_eq,zT]at p;have e:s∈(List.range (sp.st.length/size)).map (· * size):=by rw[u];simp
 obtain⟨j,x,rfl⟩:=zE.1 e;rw[zd]at x;refine⟨p.2,p.1,⟨j,rfl⟩,λi z w=>?_⟩;have y:i<j:=Nat.lt_of_mul_lt_mul_right z;have:i*size∈us:=by
  have g:i*size∈(List.range (sp.st.length/size)).map (· * size):=zE.2 ⟨i,zd.2 O,rfl⟩;have d:((List.range (sp.st.length/size)).map (· * size)).Pairwise (· < ·):=by
   rw[pf];exact List.pairwise_lt_range.imp λ{a b} m=>Nat.mul_lt_mul_of_pos_right m O
  rw[u]at g d;rcases zK.1 g with h|h
  ·exact h
  ·rcases zV.1 h with h|h
   ·have:=wT O h;omega
   ·have:=(r5.1 (pY.1 d).2.1).1 _ h;omega
 have:=A _ this;have r:i*size≠0:=by
  have:=Nat.mul_pos (show 0<i by omega) (show 0<size by omega);omega
 simpa[r]using this
theorem Eh {sp:Sp}{s m:Nat}(h:fA sp (s:Int) (m:Int)=0):(fU sp (s:Int) (m:Int)).st.length=sp.st.length/\(∀p,gf (fU sp (s:Int) (m:Int)).st p=if s<=p/\p<s+m then 1 else gf sp.st p)/\(∀x,¬(s*32<=x/\x<(s+m)*32)->(fU sp (s:Int) (m:Int)).wd x=sp.wd x)/\(fU sp (s:Int) (m:Int)).pk=sp.pk:=by
 obtain⟨d,a,_⟩:=y7 h;unfold fU;rw[zC h,dD,dD];refine⟨by simp[Sp.set,KJ],λp=>u9 a,λx b=>?_,rfl⟩;show(if s*32<=x/\x<(s+m)*32 then 0 else sp.wd x)=_
 rw[zB b]
theorem O8 {A:AR}{sp:Sp}(h:PG A)(hl:sp.st.length=A.n)(hz:∀p,gf sp.st p=0->A.f p=0){size:Nat}(hs:size=16\/size=32\/size=64){B:AR}{sp':Sp}(hg:UT A sp size=some (B,sp')) :
 ∃s,cY sp size=some s/\Grown A B sp sp' s size:=by
 unfold UT at hg;split at hg
 ·cases hg
 ·rename_i s hgs;cases hg;obtain⟨y,F,⟨j,J⟩,_⟩:=UV O hgs;obtain⟨E,x,z⟩:=y7 y;have m:s%16=0:=by rcases hs with rfl|rfl|rfl<;>omega
  have u:size%16=0:=by rcases hs with rfl|rfl|rfl<;>omega
  have e1:s/16*16=s:=by omega
  have e2:(s/16+size/16)*16=s+size:=by omega
  have e:∀p,s<=p->p<s+size->A.f p=0:=λp d b=>hz p (z p d b);obtain⟨G,g⟩:=Ft (size/16) (st:=A.st) (a:=s/16) (by rw[e2,h.len,←hl];exact x) (by rw[e1,e2];exact e);rw[e1,e2]at g;obtain⟨H,w,D,b4⟩:=Eh y;have i:s+size<=A.n:=by rw[←hl];exact x
  have C:QI A.n A.S (s:Int) (size:Int)=dC A.S s (s+size):=FE E i λp d b=>by
   apply nk.2;intro hS;have:=(h.fr p).1 hS;have:=e p d b;omega
  refine⟨s,hgs,⟨?_,rfl,rfl,rfl,rfl,rfl,rfl,rfl,m,O,i,z,λp d b=>⟨?_,?_⟩,λp hp=>⟨?_,?_⟩,D,H,b4⟩⟩
  ·have o:Out A {A with st:=US A.st (s/16) (size/16),S:=QI A.n A.S (s:Int) (size:Int)} s (s+size):=⟨rfl,G,λp hp=>by show gf _ p=_;rw[g,zB hp];rfl,λp hp=>rfl,λp hp=>by
    show QI A.n A.S (s:Int) (size:Int) p=A.S p;rw[C];unfold dC;have:(decide (s<=p)&&decide (p<s+size))=false:=by simp;omega
    rw[this,Bool.or_false]⟩
   have r:∀p,s<=p->p<s+size->AR.f {A with st:=US A.st (s/16) (size/16),S:=QI A.n A.S (s:Int) (size:Int)} p=3:=λp d b=>by show gf _ p=3;rw[g,zC ⟨d,b⟩]
   refine o.pg h (zD _) r (λp d b=>?_) (λp d b=>?_) λp=>?_
   ·have F:=e p d b;have:=h.us p;constructor
    ·intro hx;omega
    ·intro hx;have:=this.2 hx;omega
   ·show QI A.n A.S (s:Int) (size:Int) p=true↔_;rw[C,Kt];exact⟨λ_=>O,λ_=>.inr ⟨d,b⟩⟩
   ·by_cases hp:s<=p/\p<s+size
    ·rw[r p hp.1 hp.2,r (p/16*16) O O]
    ·rw[o.f p hp,o.f (p/16*16) O];exact h.hp p
  ·show gf (US A.st (s/16) (size/16)) p=3;rw[g,zC ⟨d,b⟩]
  ·rw[w,zC ⟨d,b⟩]
  ·show gf (US A.st (s/16) (size/16)) p=A.f p;rw[g,zB hp];rfl
  ·rw[w,zB hp]
end Go.Ar
namespace Go.Ar
open Go.Bu (Zj QI Zh pO Vg dC take Kt KI Bounded full can YB UQ ZE QP ZQ Kq QT Qb)
def Cl (A:AR)(k:Nat)(c:bZ)(ss:List cF):Prop:=A.tb[k]?=some c/\A.cE[k]?=some ss
def fQ (A:AR)(k:Nat)(x:Int):Prop:=∃c ss,Cl A k c ss/\Tk c ss x
def gZ (A:AR)(k:Nat)(x:Int):Prop:=∃t,A.cM[k]?=some t/\x∈t.bs.flatten
structure GA (A:AR):Prop where
 pg:PG A
 tb:A.tb.length<=40
 lc:A.cE.length=A.tb.length
 lt:A.cM.length=A.tb.length
 cE:∀k c ss,Cl A k c ss->dF c ss
 one:∀k c ss,Cl A k c ss->∀s∈ss,s.st/16=(s.st+c.aF-1)/16
 ow:∀k c ss,Cl A k c ss->∀p,A.ow p=k+1↔uk c ss p
 j4:∀p,A.ow p=41↔mf A.runs p
 ry:∀p,A.ow p=41\/A.ow p<=A.tb.length
 gU:∀r∈A.runs,1<=r.2
 ko:A.runs.Pairwise λa b=>a.1+a.2<=b.1\/b.1+b.2<=a.1
 pL:∀(k:Nat) (t:gI),A.cM[k]?=some t->t.bs.flatten.Nodup
 l7:∀(k:Nat) c ss (t:gI),Cl A k c ss->A.cM[k]?=some t->∀x∈t.bs.flatten,Tk c ss x
 oW:∀(k:Nat) (c:bZ) (t:gI),A.tb[k]?=some c->A.cM[k]?=some t->∀xs∈t.bs,xs.length=c.batch
structure Kp (A B:AR):Prop where
 n:B.n=A.n
 tb:B.tb=A.tb
 room:B.room=A.room
 z:∀p,B.f p=0↔A.f p=0
 t:∀p,B.f p=3->A.f p=3
theorem Kp.refl (A:AR):Kp A A:=⟨rfl,rfl,rfl,λ_=>Iff.rfl,λ_=>id⟩
theorem Kp.trans {A B C:AR}(h:Kp A B)(k:Kp B C):Kp A C:=⟨k.n.trans h.n,k.tb.trans h.tb,k.room.trans h.room,λp=>(k.z p).trans (h.z p),λp a=>h.t p (k.t p a)⟩
theorem Kp.aF {A B:AR}(e1:B.n=A.n)(e2:B.tb=A.tb)(e3:B.room=A.room)(e4:B.st=A.st):Kp A B:=⟨e1,e2,e3,λp=>by unfold AR.f;rw[e4],λp=>by unfold AR.f;rw[e4];exact id⟩
variable {A:AR}{k:Nat}{c:bZ}{ss:List cF}
theorem Cl.lt (h:Cl A k c ss):k<A.tb.length:=(cX.1 h.1).1
theorem Cl.eq {c':bZ}{ss':List cF}(h:Cl A k c ss)(h':Cl A k c' ss'):c=c'/\ss=ss':=⟨Option.some.inj (h.1.symm.trans h'.1),Option.some.inj (h.2.symm.trans h'.2)⟩
theorem GA.cl (h:GA A){k:Nat}(hk:k<A.tb.length):∃c ss t,Cl A k c ss/\A.cM[k]?=some t:=by
 have b:=h.lc;have a:=h.lt;exact⟨A.tb[k],A.cE[k],A.cM[k],⟨by simp,by simp⟩,by simp⟩
theorem GA.used (h:GA A)(hk:Cl A k c ss){s:cF}(hs:s∈ss){p:Nat}(h1:s.st<=p)(h2:p<s.st+c.aF):A.f p=1/\A.ow p=k+1:=by
 have:=(h.ow k c ss hk p).2 ⟨s,hs,h1,h2⟩;exact⟨(h.pg.us p).2 O,this⟩
theorem GA.jy (h:GA A){r:Nat×Nat}(hr:r∈A.runs){p:Nat}(h1:r.1<=p)(h2:p<r.1+r.2):A.f p=1/\A.ow p=41:=by
 have:=(h.j4 p).2 ⟨r,hr,h1,h2⟩;exact⟨(h.pg.us p).2 O,this⟩
theorem GA.gQ (h:GA A){r s:Nat×Nat}(hr:r∈A.runs)(hs:s∈A.runs){x:Nat}(h1:r.1<=x)(h2:x<r.1+r.2)(h3:s.1<=x)(h4:x<s.1+s.2):r=s:=by
 obtain⟨i,d⟩:=zQ hr;obtain⟨j,e⟩:=zQ hs;obtain⟨a,rfl⟩:=cX.1 d;obtain⟨b,rfl⟩:=cX.1 e;rcases pR i j with hl|hl|hl
 ·have:=k6.1 h.ko i j a b hl;omega
 ·subst hl;rfl
 ·have:=k6.1 h.ko j i b a hl;omega
theorem GA.fit (h:GA A){r:Nat×Nat}(hr:r∈A.runs):r.1+r.2<=A.n:=by
 have:=h.gU r hr;have:=h.pg.lt (p:=r.1+r.2-1) (by rw[(h.jy hr (p:=r.1+r.2-1) O O).1];omega);omega
theorem GA.pE (h:GA A):iI A:=by
 have u:=h.pg.n2;refine⟨λr b s j x g d i m=>h.gQ b j g d i m,λx p a=>?_,λx p w a=>?_,λr b=>?_⟩
 ·obtain⟨r,b,g,d⟩:=(h.j4 x).1 a;unfold rm;rw[Aa];exact⟨r,b,by simp[g,d]⟩
 ·rcases h.ry x with e|e
  ·exact(a e).elim
  ·exact e
 ·have:=h.fit b;omega
theorem Uj (hk:Cl A k c ss){ss':List cF}{j:Nat}{d:bZ}{tt:List cF}(h:Cl {A with cE:=A.cE.set k ss'} j d tt):(j=k/\d=c/\tt=ss')\/(j≠k/\Cl A j d tt):=by
 obtain⟨b,a⟩:=h;by_cases hjk:j=k
 ·subst hjk;have e:=(cX.1 hk.2).1;simp only[zM e]at a;exact .inl ⟨rfl,Option.some.inj (b.symm.trans hk.1),(Option.some.inj a).symm⟩
 ·simp only[zj (Ne.symm hjk)]at a;exact .inr ⟨hjk,b,a⟩
theorem U2 (hk:Cl A k c ss)(ss':List cF):Cl {A with cE:=A.cE.set k ss'} k c ss':=⟨hk.1,zM (cX.1 hk.2).1⟩
theorem OY {ss':List cF}{j:Nat}{d:bZ}{tt:List cF}(hjk:j≠k)(h:Cl A j d tt):Cl {A with cE:=A.cE.set k ss'} j d tt:=⟨h.1,(zj (Ne.symm hjk)).trans h.2⟩
theorem GA.kX (h:GA A)(hk:Cl A k c ss){ss':List cF}(hC:dF c ss')(hst:ss'.map (·.st)=ss.map (·.st))(ht:∀t,A.cM[k]?=some t->∀x∈t.bs.flatten,Tk c ss' x):GA {A with cE:=A.cE.set k ss'}:=by
 refine⟨h.pg.same rfl rfl rfl rfl,h.tb,by simp[h.lc],h.lt,λj d b a=>?_,λj d b a s i=>?_,λj d b a p=>?_,h.j4,h.ry,h.gU,h.ko,h.pL,λj d b t a g=>?_,h.oW⟩
 ·rcases Uj hk a with⟨rfl,rfl,rfl⟩|⟨hne,a⟩
  ·exact hC
  ·exact h.cE j d b a
 ·rcases Uj hk a with⟨rfl,rfl,rfl⟩|⟨hne,a⟩
  ·have:s.st∈ss.map (·.st):=by rw[←hst];exact zE.2 ⟨s,i,rfl⟩
   obtain⟨t,ht,e⟩:=zE.1 this;rw[←e];exact h.one _ _ _ hk t ht
  ·exact h.one j d b a s i
 ·rcases Uj hk a with⟨rfl,rfl,rfl⟩|⟨hne,a⟩
  ·rw[R9 hst];exact h.ow _ _ _ hk p
  ·exact h.ow j d b a p
 ·rcases Uj hk a with⟨rfl,rfl,rfl⟩|⟨hne,a⟩
  ·exact ht t g
  ·exact h.l7 j d b t a g
theorem yn (hk:Cl A k c ss){ss':List cF}{j:Nat}{x:Int}:fQ {A with cE:=A.cE.set k ss'} j x↔(j=k/\Tk c ss' x)\/(j≠k/\fQ A j x):=by
 constructor
 ·rintro⟨d,tt,hj,hx⟩;rcases Uj hk hj with⟨rfl,rfl,rfl⟩|⟨hne,hj⟩
  ·exact .inl ⟨rfl,hx⟩
  ·exact .inr ⟨hne,d,tt,hj,hx⟩
 ·rintro(⟨rfl,hx⟩|⟨hne,d,tt,hj,hx⟩)
  ·exact⟨c,ss',U2 hk ss',hx⟩
  ·exact⟨d,tt,OY hne hj,hx⟩
theorem Vq (hk:Cl A k c ss){x:Int}:fQ A k x↔Tk c ss x:=by
 constructor
 ·rintro⟨d,tt,hj,hx⟩;obtain⟨rfl,rfl⟩:=hk.eq hj;exact hx
 ·intro hx;exact⟨c,ss,hk,hx⟩
def swp (A:AR)(k:Nat)(c:bZ)(ss:List cF):AR:=Uf {A with cE:=A.cE.set k (cH ss)} ((Qo ss).map λs=>(s,c.aF))
theorem Al {p:Nat}:mf ((Qo ss).map λs=>(s,c.aF)) p↔∃x∈Qo ss,x<=p/\p<x+c.aF:=by
 unfold mf;simp only[zE];constructor
 ·rintro⟨_,⟨x,hx,rfl⟩,h⟩;exact⟨x,hx,h⟩
 ·rintro⟨x,hx,h⟩;exact⟨_,⟨x,hx,rfl⟩,h⟩
theorem GA.jY (h:GA A)(hk:Cl A k c ss){x:Nat}(hx:x∈Qo ss){p:Nat}(h1:x<=p)(h2:p<x+c.aF):A.f p=1/\A.ow p=k+1:=by
 obtain⟨s,a,_,rfl⟩:=Cs.1 hx;exact h.used hk a h1 h2
theorem GA.qV (h:GA A)(hk:Cl A k c ss):r9 {A with cE:=A.cE.set k (cH ss)} (swp A k c ss) ((Qo ss).map λs=>(s,c.aF)):=by
 have g:=h.cE k c ss hk;refine FU _ (h.pg.same rfl rfl rfl rfl) (λr d=>?_) (λr d p m j=>?_) ?_
 ·obtain⟨x,_,rfl⟩:=zE.1 d;exact g.pg
 ·obtain⟨x,i,rfl⟩:=zE.1 d;exact(h.jY hk i m j).1
 ·rw[pf];exact(Px g).imp λ{a b} e=>.inl e
theorem GA.swp (h:GA A)(hk:Cl A k c ss):GA (Go.Ar.swp A k c ss):=by
 have b:=h.qV hk;have w:=h.cE k c ss hk;have z:=hk.lt;have D:=h.tb;have cl:∀{j d m},Cl (Go.Ar.swp A k c ss) j d m->(j=k/\d=c/\m=cH ss)\/(j≠k/\Cl A j d m):=λ{j d m} a=>Uj hk ⟨by rw[←b.tb];exact a.1,by rw[←b.cE];exact a.2⟩;have own:∀p,mf ((Qo ss).map λs=>(s,c.aF)) p->A.ow p=k+1:=λp g=>by
  obtain⟨x,u,C,B⟩:=Al.1 g;exact(h.jY hk u C B).2
 have cM:(Go.Ar.swp A k c ss).cM=A.cM:=b.cM;have tb:(Go.Ar.swp A k c ss).tb=A.tb:=b.tb;have runs:(Go.Ar.swp A k c ss).runs=A.runs:=b.runs;refine⟨b.pg,by rw[tb];exact h.tb,by rw[b.cE,tb];simp[h.lc],by rw[cM,tb];exact h.lt,λj d m a=>?_,λj d m a s y=>?_,λj d m a p=>?_,λp=>?_,λp=>?_,by rw[runs];exact h.gU,by rw[runs];exact h.ko,by rw[cM];exact h.pL,λj d m t a r=>?_,by rw[cM,tb];exact h.oW⟩
 ·rcases cl a with⟨rfl,rfl,rfl⟩|⟨hne,a⟩
  ·exact w.cH
  ·exact h.cE j d m a
 ·rcases cl a with⟨rfl,rfl,rfl⟩|⟨hne,a⟩
  ·exact h.one _ _ _ hk s (zI.1 y).1
  ·exact h.one j d m a s y
 ·by_cases g:mf ((Qo ss).map λs=>(s,c.aF)) p
  ·rw[(b.i p g).2];have F:=own p g;rcases cl a with⟨rfl,rfl,rfl⟩|⟨hne,a⟩
   ·rw[Dv w];constructor
    ·intro e;omega
    ·rintro⟨_,hn⟩;exact(hn (Al.1 g)).elim
   ·rw[←h.ow j d m a p,F];omega
  ·rw[(b.o p g).2];rcases cl a with⟨rfl,rfl,rfl⟩|⟨hne,a⟩
   ·rw[Dv w];show A.ow p=_↔_;rw[h.ow _ _ _ hk p];exact⟨λu=>⟨u,λE=>g (Al.2 E)⟩,λu=>u.1⟩
   ·exact h.ow j d m a p
 ·rw[runs];by_cases g:mf ((Qo ss).map λs=>(s,c.aF)) p
  ·rw[(b.i p g).2,←h.j4,own p g];omega
  ·rw[(b.o p g).2];exact h.j4 p
 ·rw[tb];by_cases g:mf ((Qo ss).map λs=>(s,c.aF)) p
  ·rw[(b.i p g).2];omega
  ·rw[(b.o p g).2];exact h.ry p
 ·rw[cM]at r;rcases cl a with⟨rfl,rfl,rfl⟩|⟨hne,a⟩
  ·intro x u;exact(IU w).2 (h.l7 _ _ _ t hk r x u)
  ·exact h.l7 j d m t a r
theorem GA.BM (h:GA A)(hk:Cl A k c ss):Kp A (Go.Ar.swp A k c ss):=by
 have b:=h.qV hk;refine⟨b.n,b.tb,b.room,b.z,λp a=>?_⟩;by_cases hi:mf ((Qo ss).map λs=>(s,c.aF)) p
 ·rw[(b.i p hi).1]at a;omega
 ·rw[(b.o p hi).1]at a;exact a
theorem GA.A4 (h:GA A)(hk:Cl A k c ss){j:Nat}{x:Int}:fQ (Go.Ar.swp A k c ss) j x↔fQ A j x:=by
 have b:=h.qV hk;have a:=h.cE k c ss hk;have e:fQ (Go.Ar.swp A k c ss) j x↔fQ {A with cE:=A.cE.set k (cH ss)} j x:=by unfold fQ Cl;rw[b.tb,b.cE]
 rw[e,yn hk,IU a];constructor
 ·rintro(⟨rfl,hx⟩|⟨_,hx⟩)
  ·exact(Vq hk).2 hx
  ·exact hx
 ·intro hx;by_cases hjk:j=k
  ·subst hjk;exact .inl ⟨rfl,(Vq hk).1 hx⟩
  ·exact .inr ⟨hjk,hx⟩
theorem Hk {k:Int}:A.ck k=true↔∃j:Nat,k=j/\j<A.tb.length:=by
 unfold AR.ck;simp only[zF,zU];constructor
 ·intro h;exact⟨k.toNat,O,O⟩
 ·rintro⟨j,rfl,h⟩;omega
structure Ob (A B:AR):Prop where
 ga:GA B
 kp:Kp A B
 runs:B.runs=A.runs
theorem I0 (h:GA A)(k m:Int):Ob A (YA A k m)/\(YA A k m).cM=A.cM/\(Yj A k m).Nodup/\(Yj A k m≠[]->∃j:Nat,k=j/\j<A.tb.length)/\(∀x∈Yj A k m,¬fQ A k.toNat (x:Int)) ∧
 ∀j y,fQ (YA A k m) j y↔fQ A j y\/(j=k.toNat/\∃x∈Yj A k m,y=((x:Nat):Int)):=by
 by_cases h0:QC A k m=0
 ·have g:A.ck k=true:=by
   unfold QC at h0;split at h0
   ·assumption
   ·cases h0
  obtain⟨j,rfl,u⟩:=Hk.1 g;obtain⟨c,ss,t,b,C⟩:=h.cl u;have r:Vt A (j:Int) m=Kb c m.toNat ss:=by unfold Vt;rw[dD,b.1,b.2]
  have p:YA A (j:Int) m = {A with cE:=A.cE.set j (Kb c m.toNat ss).2}:=by unfold YA;rw[zC h0,r,dD]
  have e:Yj A (j:Int) m=(Kb c m.toNat ss).1:=by unfold Yj;rw[zC h0,r]
  rw[p,e];obtain⟨s1,s2,D,B,z,s⟩:=HZ m.toNat (h.cE j c ss b);refine⟨⟨h.kX b s1 s2 λw d x a=>(s x).2 (.inr (h.l7 j c ss w b d x a)),Kp.aF rfl rfl rfl rfl,rfl⟩,rfl,B,λ_=>⟨j,rfl,u⟩,λx a=>?_,λi y=>?_⟩
  ·rw[dD,Vq b];exact z x a
  ·rw[yn b,s,dD];by_cases hij:i=j
   ·subst hij;rw[Vq b];constructor
    ·rintro(⟨_,a|a⟩|⟨a,_⟩)
     ·exact .inr ⟨rfl,a⟩
     ·exact .inl a
     ·exact(a rfl).elim
    ·rintro(a|⟨_,a⟩)
     ·exact .inl ⟨rfl,.inr a⟩
     ·exact .inl ⟨rfl,.inl a⟩
   ·constructor
    ·rintro(⟨a,_⟩|⟨_,a⟩)
     ·exact(hij a).elim
     ·exact .inl a
    ·rintro(a|⟨a,_⟩)
     ·exact .inr ⟨hij,a⟩
     ·exact(hij a).elim
 ·have p:YA A k m=A:=by unfold YA;rw[zB h0]
  have e:Yj A k m=[]:=by unfold Yj;rw[zB h0]
  rw[p,e];exact⟨⟨h,Kp.refl A,rfl⟩,rfl,sx,by simp,by simp,by simp⟩
theorem Is {xs:List Int}(h:kv c ss xs):iF c ss xs=0:=by
 unfold iF;have b:xs.any (λx=>(eB c ss x).isNone)=false:=by
  rw[mg];intro x hx;rw[h.1 x hx];simp
 have a:xs.any (λx=>eB c ss x==some false)=false:=by
  rw[mg];intro x hx;rw[h.1 x hx];simp
 rw[b,a,zJ h.2];rfl
theorem Gi (h:GA A)(hk:Cl A k c ss)(xs:List Int):QU A (k:Int) xs=iF c ss xs:=by
 unfold QU;rw[Hk.2 ⟨k,rfl,hk.lt⟩,zC rfl,dD,hk.1,hk.2]
theorem AN (h:GA A){k:Int}{xs:List Int}(h0:QU A k xs=0):∃(j:Nat) (c:bZ) (ss:List cF),k=j/\Cl A j c ss/\kv c ss xs:=by
 have a:A.ck k=true:=by
  unfold QU at h0;split at h0
  ·assumption
  ·cases h0
 obtain⟨j,rfl,d⟩:=Hk.1 a;obtain⟨c,ss,t,b,e⟩:=h.cl d;rw[Gi h b]at h0;exact⟨j,c,ss,rfl,b,Df h0⟩
theorem BU (h:GA A){k:Int}{xs:List Int}(hd:QU A k xs=0->∀x∈xs,¬gZ A k.toNat x):Ob A (ZC A k xs)/\(ZC A k xs).cM=A.cM ∧
 (QU A k xs=0->∀j y,fQ (ZC A k xs) j y↔fQ A j y/\¬(j=k.toNat/\y∈xs))/\(QU A k xs≠0->ZC A k xs=A):=by
 by_cases h0:QU A k xs=0
 ·obtain⟨j,c,g,rfl,e,D⟩:=AN h h0;obtain⟨C,B,s⟩:=D4 xs (h.cE j c g e) D;have p:=h.kX e C B λt u x a=>(s x).2 ⟨h.l7 j c g t e u x a,λz=>hd h0 x z ⟨t,by rw[dD];exact u,a⟩⟩;have d:=U2 e (xs.foldl (fD c) g);have r:ZC A (j:Int) xs=swp {A with cE:=A.cE.set j (xs.foldl (fD c) g)} j c (xs.foldl (fD c) g):=by
   unfold ZC swp;rw[zC h0,dD,e.1,e.2];simp only[nH]
  have b:=p.qV d;rw[r];refine⟨⟨p.swp d,(Kp.aF rfl rfl rfl rfl:Kp A {A with cE:=A.cE.set j (xs.foldl (fD c) g)}).trans (p.BM d),b.runs⟩,b.cM,λ_ i y=>?_,λw=>(w h0).elim⟩;rw[p.A4 d,yn e,s,dD];by_cases hij:i=j
  ·subst hij;rw[Vq e];constructor
   ·rintro(⟨_,a,hy⟩|⟨a,_⟩)
    ·exact⟨a,λm=>hy m.2⟩
    ·exact(a rfl).elim
   ·rintro⟨a,hy⟩;exact .inl ⟨rfl,a,λm=>hy ⟨rfl,m⟩⟩
  ·constructor
   ·rintro(⟨a,_⟩|⟨_,a⟩)
    ·exact(hij a).elim
    ·exact⟨a,λm=>hij m.1⟩
   ·rintro⟨a,_⟩;exact .inr ⟨hij,a⟩
 ·have r:ZC A k xs=A:=by unfold ZC;rw[zB h0]
  rw[r];exact⟨⟨h,Kp.refl A,rfl⟩,rfl,λa=>(h0 a).elim,λ_=>rfl⟩
theorem GA.j7 (h:GA A){k:Nat}{t':gI}(h1:t'.bs.flatten.Nodup)(h2:∀x∈t'.bs.flatten,fQ A k x)(h3:∀c,A.tb[k]?=some c->∀xs∈t'.bs,xs.length=c.batch):GA {A with cM:=A.cM.set k t'}:=by
 have get:∀{j t},(A.cM.set k t')[j]?=some t->(j=k/\t=t')\/(j≠k/\A.cM[j]?=some t):=by
  intro j t a;by_cases hjk:j=k
  ·subst hjk;have g:j<A.cM.length:=by have:=(cX.1 a).1;simpa using this
   rw[zM g]at a;exact .inl ⟨rfl,(Option.some.inj a).symm⟩
  ·rw[zj (Ne.symm hjk)]at a;exact .inr ⟨hjk,a⟩
 refine⟨h.pg.same rfl rfl rfl rfl,h.tb,h.lc,by simp[h.lt],h.cE,h.one,h.ow,h.j4,h.ry,h.gU,h.ko,λj t a=>?_,λj c e t b a x d=>?_,λj c t b a=>?_⟩
 ·rcases get a with⟨rfl,rfl⟩|⟨_,a⟩
  ·exact h1
  ·exact h.pL j t a
 ·rcases get a with⟨rfl,rfl⟩|⟨_,a⟩
  ·exact(Vq b).1 (h2 x d)
  ·exact h.l7 j c e t b a x d
 ·rcases get a with⟨rfl,rfl⟩|⟨_,a⟩
  ·exact h3 c b
  ·exact h.oW j c t b a
theorem yL {t':gI}{j:Nat}{x:Int}(hk:k<A.cM.length):gZ {A with cM:=A.cM.set k t'} j x↔(j=k/\x∈t'.bs.flatten)\/(j≠k/\gZ A j x):=by
 by_cases hjk:j=k
 ·subst hjk;have a:(A.cM.set j t')[j]?=some t':=zM hk;constructor
  ·rintro⟨t,e,hx⟩;have e:(A.cM.set j t')[j]?=some t:=e;rw[a]at e;cases e;exact .inl ⟨rfl,hx⟩
  ·rintro(⟨_,hx⟩|⟨hx,_⟩)
   ·exact⟨_,a,hx⟩
   ·exact(hx rfl).elim
 ·have a:(A.cM.set k t')[j]?=A.cM[j]? := zj (Ne.symm hjk);constructor
  ·rintro⟨t,e,hx⟩;have e:(A.cM.set k t')[j]?=some t:=e;rw[a]at e;exact .inr ⟨hjk,t,e,hx⟩
  ·rintro(⟨hx,_⟩|⟨_,t,e,hx⟩)
   ·exact(hjk hx).elim
   ·exact⟨t,a.trans e,hx⟩
theorem H7 {t:gI}(ht:A.cM[k]?=some t){x:Int}:gZ A k x↔x∈t.bs.flatten:=by
 constructor
 ·rintro⟨t',e,hx⟩;rw[ht]at e;cases e;exact hx
 ·intro hx;exact⟨t,ht,hx⟩
theorem FV (h:GA A)(k:Int):Ob A (ZG A k)/\(∀j y,fQ (ZG A k) j y↔fQ A j y)/\(∀x∈Yy A k,gZ A k.toNat x)/\(Yy A k).Nodup/\(Yy A k≠[]->∃j:Nat,k=j/\j<A.tb.length) ∧
 ∀j y,gZ (ZG A k) j y↔gZ A j y/\¬(j=k.toNat/\y∈Yy A k):=by
 by_cases h0:Z6 A k=0
 ·have p:A.ck k=true:=by
   unfold Z6 at h0;split at h0
   ·assumption
   ·cases h0
  obtain⟨j,rfl,u⟩:=Hk.1 p;obtain⟨c,F,t,E,g⟩:=h.cl u;have hne:t.bs≠[]:=by
   intro e;unfold Z6 at h0;rw[p,zC rfl,dD,g]at h0;simp[e]at h0
  have z:ZG A (j:Int) = {A with cM:=A.cM.set j t.rem}:=by unfold ZG;rw[zC h0,dD,Ve g]
  have C:Yy A (j:Int)=t.bs.getLast?.getD []:=by unfold Yy;rw[zC h0,dD,g]
  have w:t.bs=t.bs.dropLast++[t.bs.getLast hne]:=(List.dropLast_concat_getLast hne).symm;have G:Yy A (j:Int)=t.bs.getLast hne:=by rw[C,List.getLast?_eq_some_getLast hne];rfl
  have d:t.bs.flatten=t.bs.dropLast.flatten++t.bs.getLast hne:=by
   conv=>lhs;rw[w]
   simp
  have r:=h.pL j t g;rw[d]at r;have b:=nC.1 r;have m:t.rem.bs=t.bs.dropLast:=rfl;rw[z,G];refine⟨⟨h.j7 (by rw[m];exact b.1) (λx a=>(Vq E).2 (h.l7 j c F t E g x (by rw[d];exact kr _ a))) λJ D H B=>h.oW j J t D g H ((List.dropLast_sublist _).subset B),Kp.aF rfl rfl rfl rfl,rfl⟩,λ_ _=>Iff.rfl,λx a=>?_,b.2.1,λ_=>⟨j,rfl,u⟩,λi y=>?_⟩
  ·rw[dD,H7 g,d];exact nS _ a
  ·rw[yL (by rw[h.lt];exact u),m,dD];by_cases hij:i=j
   ·subst hij;rw[H7 g,d,zK];constructor
    ·rintro(⟨_,a⟩|⟨a,_⟩)
     ·exact⟨.inl a,λs=>b.2.2 y a y s.2 rfl⟩
     ·exact(a rfl).elim
    ·rintro⟨a|a,s⟩
     ·exact .inl ⟨rfl,a⟩
     ·exact(s ⟨rfl,a⟩).elim
   ·constructor
    ·rintro(⟨a,_⟩|⟨_,a⟩)
     ·exact(hij a).elim
     ·exact⟨a,λs=>hij s.1⟩
    ·rintro⟨a,_⟩;exact .inr ⟨hij,a⟩
 ·have z:ZG A k=A:=by unfold ZG;rw[zB h0]
  have C:Yy A k=[]:=by unfold Yy;rw[zB h0]
  rw[z,C];exact⟨⟨h,Kp.refl A,rfl⟩,λ_ _=>Iff.rfl,by simp,sx,by simp,by simp⟩
theorem Rs (h:GA A)(k:Int){xs:List Int}(hn:xs.Nodup)(hd:∀x∈xs,¬gZ A k.toNat x):Ob A (Ke A k xs)/\(∀j y,fQ (Ke A k xs) j y↔fQ A j y) ∧
 (Vn A k xs=true->(∃j:Nat,k=j/\j<A.tb.length)/\(∀x∈xs,fQ A k.toNat x)/\∀j y,gZ (Ke A k xs) j y↔gZ A j y\/(j=k.toNat/\y∈xs))/\(Vn A k xs=false->Ke A k xs=A):=by
 by_cases h0:Vn A k xs=true
 ·have B:He A k xs=0:=by
   unfold Vn at h0;simp only[zF,zU]at h0;exact h0.1
  have z:A.ck k=true:=by
   unfold He at B;split at B
   ·assumption
   ·cases B
  obtain⟨j,rfl,D⟩:=Hk.1 z;obtain⟨c,F,t,s,u⟩:=h.cl D;have g:=B;unfold He at g;rw[z,zC rfl,dD,s.1,s.2]at g;simp only at g;have p:xs.length=c.batch:=by
   apply Classical.byContradiction;intro d;rw[zB d]at g;cases g
  rw[zC p]at g;have w:∀x∈xs,fQ A j x:=by
   intro x d;split at g
   ·rename_i C;rw[ke]at C;rw[Vq s];simpa[Tk]using C x d
   ·cases g
  have E:Ke A (j:Int) xs = {A with cM:=A.cM.set j {t with bs:=t.bs++[xs]}}:=by unfold Ke;rw[zC h0,dD,Ve u]
  have r:(t.bs++[xs]).flatten=t.bs.flatten++xs:=by simp
  rw[E];refine⟨⟨h.j7 ?_ ?_ ?_,Kp.aF rfl rfl rfl rfl,rfl⟩,λ_ _=>Iff.rfl,λ_=>⟨⟨j,rfl,D⟩,by rw[dD];exact w,λi y=>?_⟩,λG=>by rw[G]at h0;cases h0⟩
  ·show(t.bs++[xs]).flatten.Nodup;rw[r,nC];exact⟨h.pL j t u,hn,λa C b H e=>hd b H (by subst e;rw[dD,H7 u];exact C)⟩
  ·intro x d;have d:x∈(t.bs++[xs]).flatten:=d;rw[r,zK]at d;rcases d with d|d
   ·exact(Vq s).2 (h.l7 j c F t s u x d)
   ·exact w x d
  ·intro c' hc' ys m;have m:ys∈t.bs++[xs]:=m;rcases zK.1 m with m|m
   ·exact h.oW j c' t hc' u ys m
   ·simp only[zL]at m;rw[s.1]at hc';cases hc';rw[m];exact p
  ·rw[yL (by rw[h.lt];exact D),dD];show(i=j/\y∈(t.bs++[xs]).flatten)\/_↔_;rw[r,zK];by_cases hij:i=j
   ·subst hij;rw[H7 u];constructor
    ·rintro(⟨_,d|d⟩|⟨d,_⟩)
     ·exact .inl d
     ·exact .inr ⟨rfl,d⟩
     ·exact(d rfl).elim
    ·rintro(d|⟨_,d⟩)
     ·exact .inl ⟨rfl,.inl d⟩
     ·exact .inl ⟨rfl,.inr d⟩
   ·constructor
    ·rintro(⟨d,_⟩|⟨_,d⟩)
     ·exact(hij d).elim
     ·exact .inl d
    ·rintro(d|⟨d,_⟩)
     ·exact .inr ⟨hij,d⟩
     ·exact(hij d).elim
 ·have E:Ke A k xs=A:=by unfold Ke;rw[zB h0]
  rw[E];exact⟨⟨h,Kp.refl A,rfl⟩,λ_ _=>Iff.rfl,λd=>(h0 d).elim,λ_=>rfl⟩
end Go.Ar
namespace Go.Ar
open Go.Bu (Zj QI Zh pO Vg dC take Kt KI Bounded full can YB UQ ZE QP ZQ Kq QT Qb V9 UX lg)
variable {A:AR}{sp:Sp}{k:Nat}{c:bZ}{ss:List cF}
structure Ow (A:AR) (sp:Sp):Prop where
 l:sp.st.length=A.n
 own:∀p,A.f p≠0->gf sp.st p≠0
 cl:∀p,A.f p=3->gf sp.st p=1
 le:∀p,gf sp.st p<=2
structure St (A B:AR) (sp sp':Sp):Prop where
 ga:GA B
 ow:Ow B sp'
 n:B.n=A.n
 tb:B.tb=A.tb
 room:B.room=A.room
 same:∀p,A.f p=0->B.f p=0->gf sp'.st p=gf sp.st p
 gone:∀p,A.f p≠0->B.f p=0->gf sp'.st p=0
 new:∀p,A.f p=0->B.f p≠0->gf sp.st p=0/\16<=p
theorem St.refl (h:GA A)(hw:Ow A sp):St A A sp sp:=⟨h,hw,rfl,rfl,rfl,λ_ _ _=>rfl,λp b a=>(b a).elim,λp b a=>(a b).elim⟩
theorem Ow.len {B C:AR}{sp sp':Sp}(h:Ow B sp)(k:Ow C sp')(e:C.n=B.n):sp'.st.length=sp.st.length:=by rw[h.l,k.l,e]
theorem St.trans {B C:AR}{sp' sp'':Sp}(h:St A B sp sp')(k:St B C sp' sp''):St A C sp sp'':=by
 refine⟨k.ga,k.ow,k.n.trans h.n,k.tb.trans h.tb,k.room.trans h.room,λp b a=>?_,λp b a=>?_,λp b a=>?_⟩
 ·by_cases hB:B.f p=0
  ·rw[k.same p hB a,h.same p b hB]
  ·rw[k.gone p hB a,(h.new p b hB).1]
 ·by_cases hB:B.f p=0
  ·rw[k.same p hB a,h.gone p b hB]
  ·exact k.gone p hB a
 ·by_cases hB:B.f p=0
  ·have:=k.new p hB a;rw[h.same p b hB]at this;exact this
  ·exact h.new p b hB
theorem Ow.kp {B:AR}(hw:Ow A sp)(h:Kp A B):Ow B sp:=⟨hw.l.trans h.n.symm,λp a=>hw.own p λe=>a ((h.z p).2 e),λp a=>hw.cl p (h.t p a),hw.le⟩
theorem St.kp {B:AR}(hg:GA B)(hw:Ow A sp)(h:Kp A B):St A B sp sp:=
 ⟨hg,hw.kp h,h.n,h.tb,h.room,λ_ _ _=>rfl,λp b a=>(b ((h.z p).1 a)).elim,λp b a=>(a ((h.z p).2 b)).elim⟩
theorem Ob.st {B:AR}(o:Ob A B)(hw:Ow A sp):St A B sp sp:=St.kp o.ga hw o.kp
theorem GA.grown (h:GA A){B:AR}{sp':Sp}{s size:Nat}(g:Grown A B sp sp' s size):GA B:=by
 have e:∀{j d tt},Cl B j d tt↔Cl A j d tt:=λ{j d tt}=>by unfold Cl;rw[g.tb,g.cE]
 exact⟨g.pg,by rw[g.tb];exact h.tb,by rw[g.cE,g.tb];exact h.lc,by rw[g.cM,g.tb];exact h.lt,λj d tt a=>h.cE j d tt (e.1 a),λj d tt a=>h.one j d tt (e.1 a),λj d tt a p=>by rw[g.ow];exact h.ow j d tt (e.1 a) p,
  λp=>by rw[g.ow,g.runs];exact h.j4 p,λp=>by rw[g.ow,g.tb];exact h.ry p,by rw[g.runs];exact h.gU,by rw[g.runs];exact h.ko,by rw[g.cM];exact h.pL,λj d tt t a b=>h.l7 j d tt t (e.1 a) (by rw[←g.cM];exact b),by rw[g.tb,g.cM];exact h.oW⟩
theorem Grown.st (h:GA A)(hw:Ow A sp){B:AR}{sp':Sp}{s size:Nat}(g:Grown A B sp sp' s size):St A B sp sp':=by
 have d:∀p,B.f p≠A.f p->s<=p/\p<s+size:=λp b=>by
  apply Classical.byContradiction;intro hn;exact b (g.o p hn).1
 refine⟨h.grown g,⟨g.l.trans (hw.l.trans g.n.symm),λp b=>?_,λp b=>?_,λp=>?_⟩,g.n,g.tb,g.room,λp j e=>?_,λp j e=>?_,λp j e=>?_⟩
 ·by_cases a:s<=p/\p<s+size
  ·rw[(g.i p a.1 a.2).2];omega
  ·rw[(g.o p a).2];rw[(g.o p a).1]at b;exact hw.own p b
 ·by_cases a:s<=p/\p<s+size
  ·rw[(g.i p a.1 a.2).2]
  ·rw[(g.o p a).2];rw[(g.o p a).1]at b;exact hw.cl p b
 ·by_cases a:s<=p/\p<s+size
  ·rw[(g.i p a.1 a.2).2];omega
  ·rw[(g.o p a).2];exact hw.le p
 ·refine(g.o p λa=>?_).2;rw[(g.i p a.1 a.2).1]at e;omega
 ·have:=d p O;rw[(g.i p this.1 this.2).1]at e;omega
 ·have:=d p O;exact⟨g.un p this.1 this.2,by have:=g.s1;omega⟩
theorem ND {n:Nat}{S:Nat->Bool}(hb:Bounded S n)(hn:n<=1024){j q m a:Nat}(hf:full S j q=true)(hm:m<=2^j)(ha:a<=2^j):Zh n S m a≠none:=by
 intro h0;have r:S (q*2^j)=true:=YB.1 hf _ (BY _ (kJ j));obtain⟨i,g⟩:=UQ hb r;have e:j<=i:=by
  apply Classical.byContradiction;intro hlt;exact QP g hf rfl (BY _ (kJ j)) O
 have s:=ZQ hb (ZE.1 g).1;have d:i<11:=by
  apply Classical.byContradiction;intro hge;have:2^11<=2^i:=oF O O;omega
 have p:2^j<=2^i:=oF O e;have:=UX h0 i d O O;have b:=(QT hb (k:=i)).2 ⟨_,rfl,g⟩;rw[this]at b;simp at b
theorem Bp (m:Nat):Q4 m=16\/Q4 m=32\/Q4 m=64:=by
 unfold Q4;split
 ·exact .inl rfl
 ·split
  ·exact .inr (.inl rfl)
  ·exact .inr (.inr rfl)
theorem Lm {m:Nat}(h:m<=64):m<=Q4 m:=by
 unfold Q4;split
 ·omega
 ·split<;>omega
theorem C0 (h:GA A)(hw:Ow A sp){m a no:Nat}(h1:1<=m)(h2:m<=64)(ha:1<=a/\a<=16) :
 (cZ A sp m a no=(none,A,sp)/\Zh A.n A.S m a=none/\cY sp (Q4 (max m a))=none) ∨
 ∃x A1 sp1,cZ A sp m a no=(some x,dR A1 x m no,sp1)/\Zh A1.n A1.S m a=some x/\(A1=A/\sp1=sp\/Zh A.n A.S m a=none/\∃s,cY sp (Q4 (max m a))=some s/\Grown A A1 sp sp1 s (Q4 (max m a))):=by
 cases ht:Zh A.n A.S m a with
 | some x=>exact .inr ⟨x,A,sp,by unfold cZ;rw[ht],ht,.inl ⟨rfl,rfl⟩⟩
 | none=>
  cases hg:UT A sp (Q4 (max m a))with
  | none=>
   refine .inl ⟨by unfold cZ;rw[ht,hg],rfl,?_⟩;unfold UT at hg;split at hg
   ·assumption
   ·cases hg
  | some r=>
   obtain⟨A1,sp1⟩:=r;obtain⟨s,u,g⟩:=O8 h.pg hw.l (λp b=>Classical.byContradiction λC=>hw.own p C b) (Bp _) hg;have d:Zh A1.n A1.S m a≠none:=by
    have B:=Lm (m:=max m a) O;obtain⟨_,_,⟨i,y⟩,_⟩:=UV (by have:=Bp (max m a);omega) u;have key:∃j,Q4 (max m a)=2^j:=by
     rcases Bp (max m a)with e|e|e
     ·exact⟨4,e⟩
     ·exact⟨5,e⟩
     ·exact⟨6,e⟩
    obtain⟨j,z⟩:=key;refine ND g.pg.jr g.pg.n2 (j:=j) (q:=i) (YB.2 λp b=>?_) O O;rw[g.pg.fr];rw[Qb,←z,←y]at b;rw[(g.i p b.1 b.2).1];omega
   obtain⟨x,w⟩:=Option.ne_none_iff_exists'.1 d;exact .inr ⟨x,A1,sp1,by unfold cZ;rw[ht,hg];simp only;rw[w],w,.inr ⟨rfl,s,u,g⟩⟩
theorem IH (h:PG A){m a x:Nat}(hx:Zh A.n A.S m a=some x):∀p,x<=p->p<x+m->A.S p=true:=λp d b=>(lg h.jr hx).2 p d b
theorem OE (h:PG A){m a x:Nat}(h1:1<=m)(h4:m<=4)(hx:Zh A.n A.S m a=some x):x/16=(x+m-1)/16:=by
 obtain⟨j,_,b,_,d,_⟩:=V9 hx;obtain⟨q,rfl,g⟩:=(QT h.jr).1 (List.mem_of_head? d)
 match j,b with
 | 0,b=>
  have:m=1:=by omega
  subst this;rfl
 | 1,b=>
  have:m<=2:=by omega
  simp only[Nat.pow_one]at *;omega
 | j+2,b=>
  have e:2^(j+2)=4*2^j:=by rw[Nat.pow_add];omega
  rw[e,←xf,Nat.mul_comm q 4,xf];generalize q*2^j=z;omega
theorem EO (h:PG A){a m no:Nat}(h1:1<=m)(hn:no≠0)(hS:∀p,a<=p->p<a+m->A.S p=true):Kp A (dR A a m no):=by
 obtain⟨o,e,d,g⟩:=Ag h h1 hn hS;refine⟨rfl,rfl,rfl,g,λp b=>?_⟩;by_cases hin:a<=p/\p<a+m
 ·rw[(e p hin.1 hin.2).1]at b;omega
 ·rw[o.f p hin]at b;exact b
theorem GA.qC (h:GA A)(hk:Cl A k c ss){x:Nat}(hS:∀p,x<=p->p<x+c.aF->A.S p=true)(h1:x/16=(x+c.aF-1)/16) :
 GA {dR A x c.aF (k+1)with cE:=(dR A x c.aF (k+1)).cE.set k (ij c ss x)}/\(∀s∈ss,s.st+c.aF<=x\/x+c.aF<=s.st):=by
 have u:=h.cE k c ss hk;have r:=u.pg;have B:=hk.lt;have E:=h.tb;obtain⟨o,i,pg,F⟩:=Ag h.pg r (no:=k+1) O hS;have m:∀p,x<=p->p<x+c.aF->A.ow p=0:=λp C z=>by
  have D:=(h.pg.fr p).1 (hS p C z);apply Classical.byContradiction;intro hne;have:=(h.pg.us p).2 hne;omega
 have hd:∀s∈ss,s.st+c.aF<=x\/x+c.aF<=s.st:=λs b=>by
  apply Classical.byContradiction;intro hn;have D:=m (max x s.st) O O;have:=(h.used hk b (p:=max x s.st) O O).2;omega
 refine⟨?_,hd⟩;have e:Cl (dR A x c.aF (k+1)) k c ss:=hk;refine⟨pg.same rfl rfl rfl rfl,h.tb,by show(A.cE.set k _).length=_;simp[h.lc];rfl,h.lt,λj d g a=>?_,λj d g a s b=>?_,λj d g a p=>?_,λp=>?_,λp=>?_,h.gU,h.ko,h.pL,λj d g t a w=>?_,h.oW⟩
 ·rcases Uj e a with⟨rfl,rfl,rfl⟩|⟨hne,a⟩
  ·exact Fq u hd
  ·exact h.cE j d g a
 ·rcases Uj e a with⟨rfl,rfl,rfl⟩|⟨hne,a⟩
  ·rcases Vy.1 b with rfl|b
   ·exact h1
   ·exact h.one _ _ _ hk s b
  ·exact h.one j d g a s b
 ·show(dR A x c.aF (k+1)).ow p=j+1↔_;by_cases hp:x<=p/\p<x+c.aF
  ·rw[(i p hp.1 hp.2).2];rcases Uj e a with⟨rfl,rfl,rfl⟩|⟨hne,a⟩
   ·exact⟨λ_=>⟨_,Vy.2 (.inl rfl),hp.1,hp.2⟩,λ_=>rfl⟩
   ·rw[←h.ow j d g a p,m p hp.1 hp.2];omega
  ·rw[o.ow p hp];rcases Uj e a with⟨rfl,rfl,rfl⟩|⟨hne,a⟩
   ·rw[h.ow _ _ _ hk p];constructor
    ·rintro⟨s,b,h3⟩;exact⟨s,Vy.2 (.inr b),h3⟩
    ·rintro⟨s,b,h3⟩;rcases Vy.1 b with rfl|b
     ·exact(hp h3).elim
     ·exact⟨s,b,h3⟩
   ·exact h.ow j d g a p
 ·show(dR A x c.aF (k+1)).ow p=41↔mf A.runs p;by_cases hp:x<=p/\p<x+c.aF
  ·rw[(i p hp.1 hp.2).2,←h.j4,m p hp.1 hp.2];omega
  ·rw[o.ow p hp];exact h.j4 p
 ·show(dR A x c.aF (k+1)).ow p=41\/(dR A x c.aF (k+1)).ow p<=A.tb.length;by_cases hp:x<=p/\p<x+c.aF
  ·rw[(i p hp.1 hp.2).2];omega
  ·rw[o.ow p hp];exact h.ry p
 ·rcases Uj e a with⟨rfl,rfl,rfl⟩|⟨hne,a⟩
  ·intro y hy;exact(ER u hd).2 (h.l7 _ _ _ t hk w y hy)
  ·exact h.l7 j d g t a w
theorem GA.tF (h:GA A){x m:Nat}(hm:1<=m)(hS:∀p,x<=p->p<x+m->A.S p=true):GA {dR A x m 41 with runs:=A.runs++[(x,m)]}:=by
 have u:=h.tb;obtain⟨o,e,pg,B⟩:=Ag h.pg hm (no:=41) O hS;have i:∀p,x<=p->p<x+m->A.ow p=0:=λp y w=>by
  have z:=(h.pg.fr p).1 (hS p y w);apply Classical.byContradiction;intro hne;have:=(h.pg.us p).2 hne;omega
 refine⟨pg.same rfl rfl rfl rfl,h.tb,h.lc,h.lt,h.cE,h.one,λj d tt b p=>?_,λp=>?_,λp=>?_,λr a=>?_,?_,h.pL,h.l7,h.oW⟩
 ·have b:Cl A j d tt:=b;have:=b.lt;show(dR A x m 41).ow p=j+1↔_;by_cases hp:x<=p/\p<x+m
  ·rw[(e p hp.1 hp.2).2,←h.ow j d tt b p,i p hp.1 hp.2];omega
  ·rw[o.ow p hp];exact h.ow j d tt b p
 ·show(dR A x m 41).ow p=41↔mf (A.runs++[(x,m)]) p;by_cases hp:x<=p/\p<x+m
  ·rw[(e p hp.1 hp.2).2];exact⟨λ_=>⟨(x,m),by simp,hp⟩,λ_=>rfl⟩
  ·rw[o.ow p hp,h.j4];constructor
   ·rintro⟨r,a,h3⟩;exact⟨r,by simp[a],h3⟩
   ·rintro⟨r,a,h3⟩;rcases zK.1 a with a|a
    ·exact⟨r,a,h3⟩
    ·simp only[zL]at a;subst a;exact(hp h3).elim
 ·show(dR A x m 41).ow p=41\/(dR A x m 41).ow p<=A.tb.length;by_cases hp:x<=p/\p<x+m
  ·rw[(e p hp.1 hp.2).2];omega
  ·rw[o.ow p hp];exact h.ry p
 ·rcases zK.1 a with a|a
  ·exact h.gU r a
  ·simp only[zL]at a;subst a;exact hm
 ·refine pY.2 ⟨h.ko,by simp,λr a s g=>?_⟩;simp only[zL]at g;subst g;apply Classical.byContradiction;intro hn;simp only at hn;have:=h.gU r a;have z:=i (max x r.1) O O;have:=(h.jy a (p:=max x r.1) O O).2;omega
theorem Su {l:List (Nat×Nat)}{x m:Nat}(h:∀r∈l,r.1≠x):cA.mset2 l x m=l++[(x,m)]:=by
 unfold cA.mset2;rw[zB];simp only[kf,zT,not_exists,not_and];exact h
theorem De (h:GA A)(hw:Ow A sp)(k:Int) :
 ((cL A sp k=(A,sp))/\KT A sp k≠0/\(A.ck k=true->KT A sp k=6)) ∨
 ∃(j:Nat) (c:bZ) (ss:List cF) (x:Nat) (A1:AR) (sp1:Sp),k=j/\Cl A j c ss/\Cl A1 j c ss/\KT A sp k=0/\cL A sp k=({dR A1 x c.aF (j+1)with cE:=(dR A1 x c.aF (j+1)).cE.set j (ij c ss x)},sp1) ∧
  St A A1 sp sp1/\A1.runs=A.runs/\A1.cM=A.cM/\A1.cE=A.cE/\Zh A1.n A1.S c.aF 1=some x/\(∀s∈ss,s.st+c.aF<=x\/x+c.aF<=s.st)/\St A (cL A sp k).1 sp (cL A sp k).2:=by
 by_cases hck:A.ck k=true
 ·obtain⟨j,rfl,C⟩:=Hk.1 hck;obtain⟨c,ss,t,b,H⟩:=h.cl C;have F:=h.cE j c ss b;have y:=F.ok;unfold bZ.ok at y;have D:=b.lt;rcases C0 h hw (m:=c.aF) (a:=1) (no:=j+1) O O O with⟨hg,_⟩|⟨x,A1,sp1,hg,htk,hor⟩
  ·left;have w:KT A sp (j:Int)=6:=by unfold KT;rw[hck,zC rfl,dD,b.1,b.2];simp only;rw[hg]
   have G:cL A sp (j:Int)=(A,sp):=by unfold cL;rw[hck,zC rfl,dD,b.1,b.2];simp only;rw[hg]
   rw[G,w];exact⟨rfl,by simp,λ_=>rfl⟩
  ·right;have w:KT A sp (j:Int)=GB c ss x:=by unfold KT;rw[hck,zC rfl,dD,b.1,b.2];simp only;rw[hg]
   have u:GA A1:=by
    rcases hor with⟨rfl,rfl⟩|⟨_,s,_,g⟩
    ·exact h
    ·exact h.grown g
   have d:St A A1 sp sp1:=by
    rcases hor with⟨rfl,rfl⟩|⟨_,s,_,g⟩
    ·exact St.refl h hw
    ·exact g.st h hw
   have e:A1.runs=A.runs/\A1.cM=A.cM/\A1.cE=A.cE:=by
    rcases hor with⟨rfl,rfl⟩|⟨_,s,_,g⟩
    ·exact⟨rfl,rfl,rfl⟩
    ·exact⟨g.runs,g.cM,g.cE⟩
   have i:Cl A1 j c ss:=⟨by rw[d.tb];exact b.1,by rw[e.2.2];exact b.2⟩;have B:=IH u.pg htk;obtain⟨E,hd⟩:=u.qC i B (OE u.pg O O htk);have z:=MR hd;have r:cL A sp (j:Int)=({dR A1 x c.aF (j+1)with cE:=(dR A1 x c.aF (j+1)).cE.set j (ij c ss x)},sp1):=by
    unfold cL;rw[hck,zC rfl,dD,b.1,b.2];simp only;rw[hg];simp only;rw[zC z]
   refine⟨j,c,ss,x,A1,sp1,rfl,b,i,by rw[w];exact z,r,d,e.1,e.2.1,e.2.2,htk,hd,?_⟩;rw[r];have kp:=EO u.pg (no:=j+1) O O B;exact d.trans (St.kp E d.ow (kp.trans (Kp.aF rfl rfl rfl rfl)))
 ·left;have p:A.ck k=false:=by simpa using hck
  unfold cL KT;rw[p];exact⟨rfl,by simp,λh=>by cases h⟩
theorem Rk (h:GA A)(hw:Ow A sp)(k:Int):St A (cL A sp k).1 sp (cL A sp k).2/\(cL A sp k).1.runs=A.runs/\(cL A sp k).1.cM=A.cM/\(∀j y,fQ (cL A sp k).1 j y↔fQ A j y)/\(KT A sp k≠0->cL A sp k=(A,sp)):=by
 rcases De h hw k with⟨e,_⟩|⟨j,c,ss,x,A1,sp1,rfl,hk,hk1,hE,e,hst,r1,r2,r3,_,hd,hS⟩
 ·rw[e];exact⟨St.refl h hw,rfl,rfl,λ_ _=>Iff.rfl,λ_=>rfl⟩
 ·refine⟨hS,by rw[e];exact r1,by rw[e];exact r2,λi y=>?_,λd=>(d hE).elim⟩;rw[e];have b:Cl (dR A1 x c.aF (j+1)) j c ss:=hk1;rw[yn b,ER (h.cE j c ss hk) hd];have e2:fQ (dR A1 x c.aF (j+1)) i y↔fQ A i y:=by
   have:(dR A1 x c.aF (j+1)).tb=A.tb/\(dR A1 x c.aF (j+1)).cE=A.cE:=⟨hst.tb,r3⟩;unfold fQ Cl;rw[this.1,this.2]
  rw[e2];by_cases hij:i=j
  ·subst hij;rw[Vq hk];exact⟨λa=>by rcases a with⟨_,a⟩|⟨a,_⟩;exact a;exact(a rfl).elim,λa=>.inl ⟨rfl,a⟩⟩
  ·exact⟨λa=>by rcases a with⟨a,_⟩|⟨_,a⟩;exact(hij a).elim;exact a,λa=>.inr ⟨hij,a⟩⟩
theorem Py {m a:Int}(h:Ks m a=true):∃x y:Nat,m=x/\a=y/\1<=x/\x<=64/\(y=1\/y=2\/y=4\/y=8\/y=16):=by
 unfold Ks at h;simp only[zF,zU,nG,zT]at h;exact⟨m.toNat,a.toNat,O,O,O,O,O⟩
theorem Tq (h:GA A)(hw:Ow A sp)(m a:Int) :
 (cA A sp m a=(A,sp)/\Qx A sp m a≠0/\(Ks m a=true->Qx A sp m a=6/\Zh A.n A.S m.toNat a.toNat=none/\cY sp (Q4 (max m.toNat a.toNat))=none)) ∨
 ∃(x:Nat) (A1:AR) (sp1:Sp),Ks m a=true/\Qx A sp m a=0/\Z5 A sp m a=x/\cA A sp m a=({dR A1 x m.toNat 41 with runs:=A.runs++[(x,m.toNat)]},sp1) ∧
  Zh A1.n A1.S m.toNat a.toNat=some x/\(A1=A/\sp1=sp\/Zh A.n A.S m.toNat a.toNat=none/\∃s,cY sp (Q4 (max m.toNat a.toNat))=some s/\Grown A A1 sp sp1 s (Q4 (max m.toNat a.toNat))) ∧
  St A (cA A sp m a).1 sp (cA A sp m a).2/\(cA A sp m a).1.cM=A.cM/\(∀j y,fQ (cA A sp m a).1 j y↔fQ A j y):=by
 by_cases hp:Ks m a=true
 ·obtain⟨b,w,rfl,rfl,M,L,P⟩:=Py hp;have G:Qx A sp (b:Int) (w:Int)=if(cZ A sp b w 41).1.isSome then 0 else 6:=by unfold Qx;rw[zC hp,dD,dD]
  have J:Z5 A sp (b:Int) (w:Int)=(cZ A sp b w 41).1.getD 0:=by unfold Z5;rw[zC hp,dD,dD]
  rcases C0 h hw (m:=b) (a:=w) (no:=41) M L O with⟨hg,hn1,hn2⟩|⟨x,A1,sp1,hg,htk,hor⟩
  ·left;have N:cA A sp (b:Int) (w:Int)=(A,sp):=by unfold cA;rw[zC hp,dD,dD,hg]
   rw[N,G,hg,dD,dD];exact⟨rfl,by simp,λ_=>⟨rfl,hn1,hn2⟩⟩
  ·right;have z:GA A1:=by
    rcases hor with⟨rfl,rfl⟩|⟨_,s,_,g⟩
    ·exact h
    ·exact h.grown g
   have u:St A A1 sp sp1:=by
    rcases hor with⟨rfl,rfl⟩|⟨_,s,_,g⟩
    ·exact St.refl h hw
    ·exact g.st h hw
   have d:A1.runs=A.runs/\A1.cM=A.cM/\A1.cE=A.cE:=by
    rcases hor with⟨rfl,rfl⟩|⟨_,s,_,g⟩
    ·exact⟨rfl,rfl,rfl⟩
    ·exact⟨g.runs,g.cM,g.cE⟩
   have E:=IH z.pg htk;have C:∀r∈A.runs,r.1≠x:=λr H e=>by
    have B:r∈A1.runs:=by rw[d.1];exact H
    have:=z.gU r B;have Q:=(z.jy B (p:=x) O O).1;have R:=(z.pg.fr x).1 (E x O O);omega
   have i:cA A sp (b:Int) (w:Int)=({dR A1 x b 41 with runs:=A.runs++[(x,b)]},sp1):=by
    unfold cA;rw[zC hp,dD,dD,hg];show({dR A1 x b 41 with runs:=cA.mset2 A1.runs x b},sp1)=_;rw[d.1,Su C]
   have F:=z.tF O E;rw[d.1]at F;have kp:=EO z.pg (no:=41) O O E;refine⟨x,A1,sp1,hp,by rw[G,hg];rfl,by rw[J,hg];rfl,by rw[dD];exact i,by rw[dD,dD];exact htk,by rw[dD,dD];exact hor,?_,by rw[i];exact d.2.1,λj y=>?_⟩
   ·rw[i];exact u.trans (St.kp F u.ow (kp.trans (Kp.aF rfl rfl rfl rfl)))
   ·rw[i];have e1:({dR A1 x b 41 with runs:=A.runs++[(x,b)]}:AR).tb=A.tb:=u.tb;have e2:({dR A1 x b 41 with runs:=A.runs++[(x,b)]}:AR).cE=A.cE:=d.2.2;unfold fQ Cl;rw[e1,e2]
 ·left;have D:Ks m a=false:=by simpa using hp
  unfold cA Qx;rw[D];exact⟨rfl,by simp,λK=>by cases K⟩
theorem Jk {x:Int}{r:Nat×Nat}(h:pT A x=some r):r∈A.runs/\x=(r.1:Int):=by
 unfold pT at h;exact⟨uc h,by have:=sL h;simpa using Eq.symm (by simpa using this)⟩
theorem RD (h:GA A)(x:Int):(Kp A (QD A x)/\GA (QD A x))/\(QD A x).cM=A.cM/\(∀j y,fQ (QD A x) j y↔fQ A j y)/\(K0 A x≠0->QD A x=A) ∧
 (K0 A x=0->∃r∈A.runs,x=(r.1:Int)/\(QD A x).runs=A.runs.filter λq=>!(q==r)):=by
 cases hr:pT A x with
 | none=>
  have e:QD A x=A:=by unfold QD;rw[hr]
  have F:K0 A x=8:=by unfold K0;rw[hr];rfl
  rw[e,F];exact⟨⟨Kp.refl A,h⟩,rfl,λ_ _=>Iff.rfl,λ_=>rfl,λi=>by cases i⟩
 | some r=>
  obtain⟨b,i⟩:=Jk hr;have u:=h.gU r b;have w:A.runs.filter (λq=>!((q.1:Int)==x))=A.runs.filter λq=>!(q==r):=by
   apply ur;intro q g;have:((q.1:Int)==x)=(q==r):=by
    rw[l9];simp only[zT];constructor
    ·intro e;have J:=h.gU q g;exact h.gQ g b (x:=q.1) O O O O
    ·rintro rfl;exact i.symm
   rw[this]
  have e:QD A x=VR {A with runs:=A.runs.filter λq=>!(q==r)} r:=by unfold QD;rw[hr];simp only;rw[w]
  have F:K0 A x=0:=by unfold K0;rw[hr];rfl
  obtain⟨a,m⟩:=r;obtain⟨o,B,pg,G⟩:=Il (A:={A with runs:=A.runs.filter λq=>!(q==(a,m))}) (h.pg.same rfl rfl rfl rfl) u (λp D C=>(h.jy b D C).1);have own:∀p,a<=p->p<a+m->A.ow p=41:=λp D C=>(h.jy b D C).2;have H:=h.tb;rw[e,F];refine⟨⟨⟨rfl,rfl,rfl,G,λp E=>?_⟩,?_⟩,rfl,λ_ _=>Iff.rfl,λi=>(i rfl).elim,λ_=>⟨_,b,i,rfl⟩⟩
  ·by_cases hin:a<=p/\p<a+m
   ·rw[(B p hin.1 hin.2).1]at E;omega
   ·rw[o.f p hin]at E;exact E
  ·refine⟨pg,h.tb,h.lc,h.lt,h.cE,h.one,λj d tt s p=>?_,λp=>?_,λp=>?_,λq g=>h.gU q (zI.1 g).1,h.ko.filter _,h.pL,h.l7,h.oW⟩
   ·have s:Cl A j d tt:=s;have:=s.lt;by_cases hin:a<=p/\p<a+m
    ·rw[(B p hin.1 hin.2).2,←h.ow j d tt s p,own p hin.1 hin.2];omega
    ·rw[o.ow p hin];exact h.ow j d tt s p
   ·show _↔mf (A.runs.filter λq=>!(q==(a,m))) p;by_cases hin:a<=p/\p<a+m
    ·rw[(B p hin.1 hin.2).2];constructor
     ·intro i;omega
     ·rintro⟨q,g,q1,q2⟩;have z:=zI.1 g;have:=h.gQ z.1 b q1 q2 hin.1 hin.2;subst this;simp at z
    ·rw[o.ow p hin];show A.ow p=41↔_;rw[h.j4];constructor
     ·rintro⟨q,g,q1⟩;refine⟨q,zI.2 ⟨g,?_⟩,q1⟩;have:q≠(a,m):=by rintro rfl;exact hin q1
      simpa using this
     ·rintro⟨q,g,q1⟩;exact⟨q,(zI.1 g).1,q1⟩
   ·by_cases hin:a<=p/\p<a+m
    ·rw[(B p hin.1 hin.2).2];omega
    ·rw[o.ow p hin];exact h.ry p
theorem B7 (k:Nat):∀(outs:List (List Int)) {A:AR},GA A->outs.flatten.Nodup->(∀x∈outs.flatten,fQ A k x/\¬gZ A k x) →
 Ob A (outs.foldl (λA' xs=>ZC A' (k:Int) xs) A)/\(outs.foldl (λA' xs=>ZC A' (k:Int) xs) A).cM=A.cM/\∀j y,fQ (outs.foldl (λA' xs=>ZC A' (k:Int) xs) A) j y↔fQ A j y/\¬(j=k/\y∈outs.flatten)
 | [],A,h,_,_=>⟨⟨h,Kp.refl A,rfl⟩,rfl,by simp⟩
 | xs::outs,A,h,hn,ht=>by
  rw[wc]at hn ht;have hn':=nC.1 hn;have p:∀x∈xs,fQ A k x/\¬gZ A k x:=λx i=>ht x (kr _ i);rw[qW];cases xs with
  | nil=>
   have u:ZC A (k:Int) []=A\/QU A (k:Int) []=0:=by
    by_cases w:QU A (k:Int) []=0
    ·exact .inr w
    ·exact .inl (by unfold ZC;rw[zB w])
   obtain⟨o,e,t,_⟩:=BU h (k:=(k:Int)) (xs:=[]) (λ_=>by simp);have s:∀j y,fQ (ZC A (k:Int) []) j y↔fQ A j y:=λj y=>by
    rcases u with u|u
    ·rw[u]
    ·rw[t u];simp
   have m:∀j y,gZ (ZC A (k:Int) []) j y↔gZ A j y:=λj y=>by unfold gZ;rw[e]
   obtain⟨o2,e2,z⟩:=B7 k outs o.ga hn'.2.1 λx i=>by rw[s,m];exact ht x (nS _ i)
   exact⟨⟨o2.ga,o.kp.trans o2.kp,o2.runs.trans o.runs⟩,e2.trans e,λj y=>by rw[z,s];simp⟩
  | cons x0 xs=>
   obtain⟨c,C,B,_⟩:=(p x0 aA).1;have w:QU A (k:Int) (x0::xs)=0:=by
    rw[Gi h B];exact Is ⟨λx i=>(Vq B).1 (p x i).1,hn'.1⟩
   obtain⟨o,e,t,_⟩:=BU h (k:=(k:Int)) (xs:=x0::xs) (λ_ x i=>by rw[dD];exact(p x i).2);have s:=t w;have m:∀j y,gZ (ZC A (k:Int) (x0::xs)) j y↔gZ A j y:=λj y=>by unfold gZ;rw[e]
   obtain⟨o2,e2,z⟩:=B7 k outs o.ga hn'.2.1 λx i=>by
    rw[s,m];have:=ht x (nS _ i);exact⟨⟨this.1,λg=>hn'.2.2 x g.2 x i rfl⟩,this.2⟩
   refine⟨⟨o2.ga,o.kp.trans o2.kp,o2.runs.trans o.runs⟩,e2.trans e,λj y=>?_⟩;rw[z,s,dD,wc,zK];constructor
   ·rintro⟨⟨a,b⟩,d⟩;refine⟨a,λ⟨r,g⟩=>?_⟩;rcases g with g|g
    ·exact b ⟨r,g⟩
    ·exact d ⟨r,g⟩
   ·rintro⟨a,b⟩;exact⟨⟨a,λ⟨r,g⟩=>b ⟨r,.inl g⟩⟩,λ⟨r,g⟩=>b ⟨r,.inr g⟩⟩
structure tv (A B:AR):Prop where
 ob:Ob A B
 sub:∀j y,gZ B j y->gZ A j y
 tk:∀j y,fQ B j y↔fQ A j y/\(gZ A j y->gZ B j y)
theorem tv.trans {B C:AR}(h:tv A B)(k:tv B C):tv A C:=
 ⟨⟨k.ob.ga,h.ob.kp.trans k.ob.kp,k.ob.runs.trans h.ob.runs⟩,λj y g=>h.sub j y (k.sub j y g),λj y=>by
  rw[k.tk,h.tk];exact⟨λ⟨⟨a,b⟩,d⟩=>⟨a,λe=>d (b e)⟩,λ⟨a,b⟩=>⟨⟨a,λe=>k.sub j y (b e)⟩,λe=>b (h.sub j y e)⟩⟩⟩
theorem TG (h:GA A)(hk:k<A.tb.length):tv A (uK A k):=by
 obtain⟨c,F,t,D,m⟩:=h.cl hk;have r:k<A.cM.length:=by rw[h.lt];exact hk
 have e:uK A k=t.out.foldl (λA' w=>ZC A' (k:Int) w) {A with cM:=A.cM.set k t.tick}:=by unfold uK;rw[m]
 have z:t.bs=t.out++t.tick.bs:=(oc ((t.low+1)/2) t.bs).symm;have i:t.bs.flatten=t.out.flatten++t.tick.bs.flatten:=by conv=>lhs;rw[z];rw[List.flatten_append]
 have p:=h.pL k t m;rw[i]at p;have g:=nC.1 p;have s:∀x∈t.bs.flatten,fQ A k x:=λx d=>(Vq D).2 (h.l7 k c F t D m x d);have H:GA {A with cM:=A.cM.set k t.tick}:=h.j7 g.2.1 (λx d=>s x (by rw[i];exact nS _ d)) λG C w B=>h.oW k G t C m w (t.pD w B);obtain⟨o,e2,E⟩:=B7 k t.out H g.1 λx d=>by
  refine⟨s x (by rw[i];exact kr _ d),?_⟩;rw[yL r];rintro(⟨_,hy⟩|⟨hy,_⟩)
  ·exact g.2.2 x d x hy rfl
  ·exact hy rfl
 rw[←e]at o e2 E;have u:∀j y,gZ (uK A k) j y↔(j=k/\y∈t.tick.bs.flatten)\/(j≠k/\gZ A j y):=λj y=>by
  rw[←yL r];unfold gZ;rw[e2]
 refine⟨⟨o.ga,(Kp.aF rfl rfl rfl rfl:Kp A {A with cM:=A.cM.set k t.tick}).trans o.kp,o.runs⟩,λj y d=>?_,λj y=>?_⟩
 ·rcases(u j y).1 d with⟨rfl,hy⟩|⟨_,hy⟩
  ·rw[H7 m,i];exact nS _ hy
  ·exact hy
 ·rw[E,u];show fQ A j y/\_↔_;by_cases hjk:j=k
  ·subst hjk;rw[H7 m,i,zK];constructor
   ·rintro⟨a,b⟩;refine⟨a,λd=>?_⟩;rcases d with d|d
    ·exact(b ⟨rfl,d⟩).elim
    ·exact .inl ⟨rfl,d⟩
   ·rintro⟨a,b⟩;refine⟨a,λ⟨_,d⟩=>?_⟩;rcases b (.inl d)with⟨_,hy⟩|⟨hy,_⟩
    ·exact g.2.2 y d y hy rfl
    ·exact hy rfl
  ·exact⟨λ⟨a,_⟩=>⟨a,λd=>.inr ⟨hjk,d⟩⟩,λ⟨a,_⟩=>⟨a,λ⟨d,_⟩=>hjk d⟩⟩
theorem DZ (h:GA A):∀m,m<=A.tb.length->tv A ((List.range m).foldl uK A)
 | 0,_=>⟨⟨h,Kp.refl A,rfl⟩,λ_ _=>id,λ_ _=>⟨λa=>⟨a,id⟩,λa=>a.1⟩⟩
 | m+1,hm=>by
  have t:=DZ h m O;rw[ox,wU,qW,List.foldl_nil];exact t.trans (TG t.ob.ga (by rw[t.ob.kp.tb];omega))
theorem S5 (h:GA A):tv A (rr A):=DZ h _ (by rw[h.lt];exact zD _)
end Go.Ar
namespace Go.Ar
open Go.Bu (Zj QI Zh pO Vg dC take Kt KI Bounded)
variable {A:AR}{sp:Sp}{k:Nat}{c:bZ}{ss:List cF}
end Go.Ar
namespace Go.Ar
structure Pc where
 k:Nat
 cls:Int
 addr:Nat
 size:Nat
 eN:Bool
 deriving DecidableEq
structure Wd where
 tb:List bZ
 sp:Sp
 bX:List AR
 held:List Pc
structure Act where
 kd:Int
 ar:Int
 cl:Int
 a:Int
 b:Int
 l:List Int
abbrev Key:=Nat×Int×Nat
def Pc.key (p:Pc):Key:=(p.k,p.cls,p.addr)
def lQ (k:Nat)(cls x:Int)(p:Pc):Bool:=p.k==k&&(p.cls==cls&&((p.addr:Int)==x && !p.eN))
def uN (held:List Pc)(k:Nat)(cls x:Int):Option Nat:=held.findIdx? (lQ k cls x)
def jk (held:List Pc)(k:Nat)(cls:Int)(l:List Int):Bool:=l.all (λx=>(uN held k cls x).isSome)&&decide l.Nodup
def lJ (k:Nat)(cls:Int)(held:List Pc)(x:Int):List Pc:=match uN held k cls x with
 | some i=>held.take i++held.drop (i+1)
 | none=>held
def wX (held:List Pc)(k:Nat)(cls:Int)(l:List Int):List Pc:=l.foldl (lJ k cls) held
def dZ (k:Nat)(cls:Int)(l:List Int)(p:Pc):Bool:=p.k==k&&(p.cls==cls&&l.contains (p.addr:Int))
def HJ (held:List Pc)(k:Nat)(cls:Int)(l:List Int)(m:Bool):List Pc:=held.map λp=>if dZ k cls l p then{p with eN:=m}else p
def EJ (held:List Pc)(x:Int):Bool:=held.any λp=>decide ((p.addr:Int)<=x)&&decide (x-(p.addr:Int)<(p.size:Int))
def yC (us:List AR)(held:List Pc):List Pc:=held.filter λp=>!p.eN||(match us[p.k]? with
 | some A=>vJ A (p.addr:Int)
 | none=>false)
def oU (tb:List bZ)(k:Int):Nat:=((tb[k.toNat]?).map (·.size)).getD 0
def Wd.put (W:Wd)(k:Nat)(A:AR)(sp:Sp)(held:List Pc):Wd:={W with sp:=sp,bX:=W.bX.set k A,held:=held}
def Hd (A:AR)(p:Pc):Prop:=(p.cls = -1/\p.eN=false/\∃r∈A.runs,p.addr=r.1*256/\p.size=r.2*256) ∨
 ∃(j:Nat) (c:bZ),p.cls=j/\A.tb[j]?=some c/\p.size=c.size/\fQ A j (p.addr:Int)/\(p.eN=true↔gZ A j (p.addr:Int))
structure WI (W:Wd):Prop where
 ga:∀(k:Nat) (A:AR),W.bX[k]?=some A->GA A
 ow:∀(k:Nat) (A:AR),W.bX[k]?=some A->Ow A W.sp
 tb:∀(k:Nat) (A:AR),W.bX[k]?=some A->A.tb=W.tb
 low:∀(k:Nat) (A:AR),W.bX[k]?=some A->∀p,p<16->A.f p=0
 own:∀p,gf W.sp.st p≠0->∃(k:Nat) (A:AR),W.bX[k]?=some A/\A.f p≠0
 one:∀p (k l:Nat) (A B:AR),W.bX[k]?=some A->W.bX[l]?=some B->A.f p≠0->B.f p≠0->k=l
 hk:(W.held.map Pc.key).Nodup
 hf:∀p∈W.held,∃A,W.bX[p.k]?=some A/\Hd A p
 ht:∀(k:Nat) (A:AR),W.bX[k]?=some A->∀(j:Nat) (y:Int),fQ A j y->∃p∈W.held,p.k=k/\p.cls=j/\(p.addr:Int)=y
 hr:∀(k:Nat) (A:AR),W.bX[k]?=some A->∀r∈A.runs,∃p∈W.held,p.k=k/\p.cls = -1/\p.addr=r.1*256
variable {W:Wd}{k:Nat}{A:AR}
theorem Vm {α:Type}{l:List α}{k j:Nat}{x y:α}(h:(l.set k x)[j]?=some y):(j=k/\y=x/\k<l.length)\/(j≠k/\l[j]?=some y):=by
 by_cases hjk:j=k
 ·subst hjk;have a:j<l.length:=by have:=(cX.1 h).1;simpa using this
  rw[zM a]at h;exact .inl ⟨rfl,(Option.some.inj h).symm,a⟩
 ·rw[zj (Ne.symm hjk)]at h;exact .inr ⟨hjk,h⟩
theorem WI.unique (h:WI W){p q:Pc}(hp:p∈W.held)(hq:q∈W.held)(e:p.key=q.key):p=q:=by
 obtain⟨i,d⟩:=zQ hp;obtain⟨j,g⟩:=zQ hq;obtain⟨a,rfl⟩:=cX.1 d;obtain⟨b,rfl⟩:=cX.1 g;have:=k6.1 h.hk;rcases pR i j with hl|hl|hl
 ·exact(this i j (by simpa using a) (by simpa using b) hl (by simpa using e)).elim
 ·subst hl;rfl
 ·exact(this j i (by simpa using b) (by simpa using a) hl (by simpa using e.symm)).elim
theorem WI.step (h:WI W)(hk:W.bX[k]?=some A){B:AR}{sp':Sp}{held':List Pc}(s:St A B W.sp sp')(h1:(held'.map Pc.key).Nodup)(h2:∀p∈held',p.k=k->Hd B p)(h3:∀p,p.k≠k->(p∈held'↔p∈W.held))
 (h4:∀(j:Nat) (y:Int),fQ B j y->∃p∈held',p.k=k/\p.cls=j/\(p.addr:Int)=y) (h5:∀r∈B.runs,∃p∈held',p.k=k/\p.cls = -1/\p.addr=r.1*256):WI (W.put k B sp' held'):=by
 have E:=(cX.1 hk).1;have m:(W.bX.set k B)[k]?=some B:=zM E;have J:∀{j:Nat} {C:AR},j≠k->W.bX[j]?=some C->(W.bX.set k B)[j]?=some C:=λa e=>(zj (Ne.symm a)).trans e;have g:∀{j:Nat} {C:AR},j≠k->W.bX[j]?=some C->∀p,C.f p≠0->A.f p=0/\B.f p=0/\gf sp'.st p=gf W.sp.st p:=by
  intro j C a e p b;have u:A.f p=0:=Classical.byContradiction λx=>a (h.one p j k C A e hk b x);have w:B.f p=0:=Classical.byContradiction λx=>by
   have:=(s.new p u x).1;exact(h.ow j C e).own p b this
  exact⟨u,w,s.same p u w⟩
 refine⟨λj C a=>?_,λj C a=>?_,λj C a=>?_,λj C a p b=>?_,λp b=>?_,λp j l C D a G e F=>?_,h1,λp b=>?_,λj C a i y H=>?_,λj C a r hr=>?_⟩
 ·rcases Vm a with⟨rfl,rfl,_⟩|⟨_,a⟩
  ·exact s.ga
  ·exact h.ga j C a
 ·rcases Vm a with⟨rfl,rfl,_⟩|⟨d,a⟩
  ·exact s.ow
  ·have o:=h.ow j C a;have K:=h.ow k A hk;refine⟨?_,λp b=>?_,λp b=>?_,s.ow.le⟩
   ·show sp'.st.length=C.n;rw[s.ow.l,s.n,←K.l,o.l]
   ·show gf sp'.st p≠0;rw[(g d a p b).2.2];exact o.own p b
   ·show gf sp'.st p=1;rw[(g d a p O).2.2];exact o.cl p b
 ·rcases Vm a with⟨rfl,rfl,_⟩|⟨_,a⟩
  ·exact s.tb.trans (h.tb _ A hk)
  ·exact h.tb j C a
 ·rcases Vm a with⟨rfl,rfl,_⟩|⟨_,a⟩
  ·apply Classical.byContradiction;intro x;have:=s.new p (h.low _ A hk p b) x;omega
  ·exact h.low j C a p b
 ·have b:gf sp'.st p≠0:=b;by_cases w:B.f p=0
  ·by_cases u:A.f p=0
   ·rw[s.same p u w]at b;obtain⟨j,C,a,e⟩:=h.own p b;have d:j≠k:=by
     rintro rfl;rw[hk]at a;cases a;exact e u
    exact⟨j,C,J d a,e⟩
   ·exact(b (s.gone p u w)).elim
  ·exact⟨k,B,m,w⟩
 ·rcases Vm a with⟨rfl,rfl,_⟩|⟨d,hj'⟩
  ·rcases Vm G with⟨rfl,rfl,_⟩|⟨hne2,hl'⟩
   ·rfl
   ·exact(e (g hne2 hl' p F).2.1).elim
  ·rcases Vm G with⟨rfl,rfl,_⟩|⟨hne2,hl'⟩
   ·exact(F (g d hj' p e).2.1).elim
   ·exact h.one p j l C D hj' hl' e F
 ·by_cases hpk:p.k=k
  ·exact⟨B,by rw[hpk];exact m,h2 p b hpk⟩
  ·obtain⟨C,e,L⟩:=h.hf p ((h3 p hpk).1 b);exact⟨C,J hpk e,L⟩
 ·rcases Vm a with⟨rfl,rfl,_⟩|⟨d,a⟩
  ·exact h4 i y H
  ·obtain⟨p,b,e1,e2,z⟩:=h.ht j C a i y H;exact⟨p,(h3 p (by rw[e1];exact d)).2 b,e1,e2,z⟩
 ·rcases Vm a with⟨rfl,rfl,_⟩|⟨d,a⟩
  ·exact h5 r hr
  ·obtain⟨p,b,e1,e2,z⟩:=h.hr j C a r hr;exact⟨p,(h3 p (by rw[e1];exact d)).2 b,e1,e2,z⟩
theorem Hd.to {B:AR}{p:Pc}(h:Hd A p)(e1:B.tb=A.tb)(e2:B.runs=A.runs)(e3:∀j y,fQ A j y->fQ B j y)(e4:∀j y,gZ B j y↔gZ A j y):Hd B p:=by
 rcases h with⟨h1,h2,r,hr,h3⟩|⟨j,c,h1,h2,h3,h4,h5⟩
 ·exact .inl ⟨h1,h2,r,by rw[e2];exact hr,h3⟩
 ·exact .inr ⟨j,c,h1,by rw[e1];exact h2,h3,e3 _ _ h4,by rw[e4];exact h5⟩
theorem WI.hd (h:WI W)(hk:W.bX[k]?=some A){p:Pc}(hp:p∈W.held)(e:p.k=k):Hd A p:=by
 obtain⟨C,a,b⟩:=h.hf p hp;rw[e,hk]at a;cases a;exact b
theorem WI.lO (h:WI W)(hk:W.bX[k]?=some A){B:AR}{sp':Sp}(s:St A B W.sp sp')(e2:B.runs=A.runs)(e3:∀j y,fQ B j y↔fQ A j y)(e4:B.cM=A.cM):WI (W.put k B sp' W.held):=
 h.step hk s h.hk (λp b e=>(h.hd hk b e).to s.tb e2 (λj y=>(e3 j y).2) λj y=>by unfold gZ;rw[e4]) (λ_ _=>Iff.rfl) (λj y a=>h.ht k A hk j y ((e3 j y).1 a)) λr hr=>h.hr k A hk r (by rw[←e2];exact hr)
theorem WI.cls (h:WI W){p:Pc}(hp:p∈W.held){j:Nat}(e:p.cls=j)(hk:W.bX[p.k]?=some A):∃c,A.tb[j]?=some c/\p.size=c.size/\fQ A j (p.addr:Int)/\(p.eN=true↔gZ A j (p.addr:Int)):=by
 rcases h.hd hk hp rfl with⟨h1,_⟩|⟨i,c,h1,h2,h3,h4,h5⟩
 ·omega
 ·obtain rfl:i=j:=by omega
  exact⟨c,h2,h3,h4,h5⟩
theorem WI.run (h:WI W){p:Pc}(hp:p∈W.held)(e:p.cls = -1)(hk:W.bX[p.k]?=some A):p.eN=false/\∃r∈A.runs,p.addr=r.1*256/\p.size=r.2*256:=by
 rcases h.hd hk hp rfl with⟨_,h2⟩|⟨i,c,h1,_⟩
 ·exact h2
 ·omega
theorem KK {k:Nat}{cls x:Int}{p:Pc}:lQ k cls x p=true↔p.k=k/\p.cls=cls/\(p.addr:Int)=x/\p.eN=false:=by
 simp[lQ]
theorem Z3 {k:Nat}{cls:Int}{l:List Int}{p:Pc}:dZ k cls l p=true↔p.k=k/\p.cls=cls/\(p.addr:Int)∈l:=by
 simp[dZ]
theorem OD {held:List Pc}{k:Nat}{cls x:Int}{i:Nat}(h:uN held k cls x=some i):∃p,held[i]?=some p/\lQ k cls x p=true:=by
 obtain⟨b,a,_⟩:=nm.1 h;exact⟨held[i],cU b,a⟩
theorem S1 {held:List Pc}{k:Nat}{cls x:Int}{p:Pc}(hp:p∈held)(h:lQ k cls x p=true):(uN held k cls x).isSome=true:=by
 unfold uN;rw[List.findIdx?_isSome,kf];exact⟨p,hp,h⟩
theorem KG {held:List Pc}{k:Nat}{cls:Int}{l:List Int}:jk held k cls l=true↔(∀x∈l,∃p∈held,lQ k cls x p=true)/\l.Nodup:=by
 unfold jk;rw[zF,ke,zU];refine and_congr_left λ_=>forall_congr' λx=>imp_congr_right λa=>?_;unfold uN;rw[List.findIdx?_isSome,kf]
theorem RV {held:List Pc}(hn:(held.map Pc.key).Nodup){i:Nat}{p:Pc}(hi:held[i]?=some p):held.take i++held.drop (i+1)=held.filter λq=>!(q.key==p.key):=by
 induction held generalizing i with
 | nil=>simp at hi
 | cons q l ih=>
  rw[zR,zo]at hn;cases i with
  | zero=>
   simp only[xM,Option.some.injEq]at hi;subst hi;have:l.filter (λr=>!(r.key==q.key))=l:=by
    rw[qg];intro r hr;have:r.key≠q.key:=λe=>hn.1 (zE.2 ⟨r,hr,e⟩);simpa using this
   simp[this]
  | succ i=>
   have hi:l[i]?=some p:=by simpa using hi
   have a:q.key≠p.key:=λe=>hn.1 (zE.2 ⟨p,zG hi,e.symm⟩);rw[uw,y5,lu,ih hn.2 hi,sP];have:(!(q.key==p.key))=true:=by simpa using a
   rw[this];rfl
theorem V3 {held:List Pc}(hn:(held.map Pc.key).Nodup)(f:Pc->Bool):((held.filter f).map Pc.key).Nodup:=hn.sublist (List.filter_sublist.map _)
theorem Fy {k:Nat}{cls:Int}:∀(l:List Int) {held:List Pc},(held.map Pc.key).Nodup->(∀x∈l,∃p∈held,lQ k cls x p=true)->l.Nodup->wX held k cls l=held.filter λp=>!dZ k cls l p
 | [],held,_,_,_=>by
  have:∀p,dZ k cls [] p=false:=λp=>by simp[dZ]
  exact(qg.2 λp _=>by rw[this];rfl).symm
 | x::l,held,hn,ho,hl=>by
  obtain⟨p,A,C⟩:=ho x aA;obtain⟨i,u⟩:=qi.1 (S1 A C);obtain⟨q,B,j⟩:=OD u;have g:=zo.1 hl;have e1:lJ k cls held x=held.filter λr=>!(r.key==q.key):=by unfold lJ;rw[u];exact RV hn B
  obtain⟨G,D,F,H⟩:=KK.1 j;have w:=Fy l (held:=held.filter λr=>!(r.key==q.key)) (V3 hn _) (λy s=>by
   obtain⟨r,m,d⟩:=ho y (by simp[s]);refine⟨r,zI.2 ⟨m,?_⟩,d⟩;have:r.key≠q.key:=λe=>by
    have E:r.addr=q.addr:=congrArg (λz:Key=>z.2.2) e;have:=(KK.1 d).2.2.1;have:y=x:=by omega
    subst this;exact g.1 s
   simpa using this) g.2
  unfold wX at w ⊢;rw[qW,e1,w,AX];apply ur;intro r m;have e:(r.key==q.key)=(r.k==k&&(r.cls==cls&&(r.addr:Int)==x)):=by
   rw[l9];simp only[Pc.key,zT,zF,Prod.mk.injEq];constructor
   ·rintro⟨a,b,c⟩;exact⟨O,O,O⟩
   ·rintro⟨a,b,c⟩;exact⟨O,O,O⟩
  rw[e];unfold dZ;rw[List.contains_cons];cases r.k==k<;>cases r.cls==cls<;>cases((r.addr:Int)==x)<;>cases l.contains (r.addr:Int)<;>rfl
theorem QL {held:List Pc}{k:Nat}{cls:Int}{l:List Int}{m:Bool}{p:Pc}:p∈HJ held k cls l m↔∃q∈held,p=if dZ k cls l q then{q with eN:=m}else q:=by
 unfold HJ;rw[zE];constructor
 ·rintro⟨q,hq,rfl⟩;exact⟨q,hq,rfl⟩
 ·rintro⟨q,hq,rfl⟩;exact⟨q,hq,rfl⟩
theorem Ps {held:List Pc}{k:Nat}{cls:Int}{l:List Int}{m:Bool}:(HJ held k cls l m).map Pc.key=held.map Pc.key:=by
 unfold HJ;rw[lx];apply kh;intro p _;simp only[Function.comp];split<;>rfl
theorem GM (hk:W.bX[k]?=some A)(h:WI W):WI (W.put k A W.sp W.held):=h.lO hk (St.refl (h.ga k A hk) (h.ow k A hk)) rfl (λ_ _=>Iff.rfl) rfl
theorem Re (h:GA A){j:Nat}{c:bZ}{ss:List cF}(hc:Cl A j c ss){l:Nat}{s:cF}{i:Nat}(hs:ss[l]?=some s)(hi:i<c.n){x:Nat}(h1:at_ c s i<=x)(h2:x<at_ c s i+c.size):U4 A (x:Int)=some ((j:Int),at_ c s i):=by
 have d:=h.cE j c ss hc;have b:=HV d.pos hi h1 h2;have a:=h.used hc (zG hs) b.1 b.2;have m:=h.pg.lt (p:=x/256) (by rw[a.1];omega);have r:=h.pg.n2;have e:=hc.lt;have g:=h.tb;unfold U4;rw[zB O,dD];simp only;rw[zC (show x/256<1024 by omega),a.2,zB O,zB O,Nat.add_sub_cancel,hc.1,hc.2];simp only;rw[(E8 d).2 ⟨l,s,i,hs,hi,rfl,O,O⟩];rfl
theorem DO (h:GA A){r:Nat×Nat}(hr:r∈A.runs){x:Nat}(h1:r.1*256<=x)(h2:x<(r.1+r.2)*256):U4 A (x:Int)=some (-1,r.1*256):=by
 have a:=h.jy hr (p:=x/256) O O;have b:=h.pg.lt (p:=x/256) (by rw[a.1];omega);have d:=h.pg.n2;unfold U4;rw[zB O,dD];simp only;rw[zC (show x/256<1024 by omega),a.2,zB O,zC rfl,BD h.pE hr O O];rfl
theorem Mn (h:GA A){x:Int}{k:Int}{a:Nat}(hf:U4 A x=some (k,a)):(k = -1/\∃r∈A.runs,a=r.1*256/\((r.1*256:Nat):Int)<=x/\x<(((r.1+r.2)*256:Nat):Int)) ∨
 ∃(j:Nat) (c:bZ) (ss:List cF) (l:Nat) (s:cF) (i:Nat),k=j/\Cl A j c ss/\ss[l]?=some s/\i<c.n/\a=at_ c s i/\((at_ c s i:Nat):Int)<=x/\x<((at_ c s i+c.size:Nat):Int):=by
 unfold U4 at hf;split at hf
 ·cases hf
 ·rename_i hx;obtain⟨y,rfl⟩:=zc (show 0<=x by omega);rw[dD]at hf;simp only at hf;by_cases hlt:y/256<1024
  ·rw[zC hlt]at hf;split at hf
   ·cases hf
   ·split at hf
    ·rename_i h0 h41;obtain⟨r,d,b⟩:=oT.1 hf;have z:=uc d;have w:=sL d;simp at w;cases b;exact .inl ⟨rfl,r,z,rfl,O,O⟩
    ·rename_i h0 h41;split at hf
     ·rename_i c ss h1 h2;obtain⟨C,u,b⟩:=oT.1 hf;cases b;have e:Cl A (A.ow (y/256)-1) c ss:=⟨h1,h2⟩;obtain⟨l,s,i,p,m,rfl,g,B⟩:=(E8 (h.cE _ _ _ e)).1 u;exact .inr ⟨_,c,ss,l,s,i,rfl,e,p,m,rfl,g,B⟩
     ·cases hf
  ·rw[zB hlt,zC rfl]at hf;cases hf
theorem fQ.find (h:GA A){j:Nat}{x:Int}(hx:fQ A j x):∃y:Nat,x=y/\U4 A x=some ((j:Int),y):=by
 obtain⟨c,d,a,m⟩:=hx;have b:=h.cE j c d a;obtain⟨l,s,i,g,e,rfl,p⟩:=(VH b).1 m;exact⟨_,rfl,Re h a g e (zD _) (by have:=b.pos;omega)⟩
theorem AJ (h:GA A){x:Int}:vJ A x=true↔(∃j,fQ A j x)\/∃r∈A.runs,x=((r.1*256:Nat):Int):=by
 constructor
 ·intro hx;unfold vJ at hx;split at hx
  ·rename_i k a e;split at hx
   ·rename_i he;rcases Mn h e with⟨rfl,r,hr,rfl,_⟩|⟨j,c,d,l,s,i,rfl,b,hs,hi,rfl,_⟩
    ·exact .inr ⟨r,hr,he.symm⟩
    ·rw[zB O,dD,b.1,b.2]at hx;exact .inl ⟨j,c,d,b,by simpa[Tk]using hx⟩
   ·cases hx
  ·cases hx
 ·rintro(⟨j,hj⟩|⟨r,hr,rfl⟩)
  ·obtain⟨y,rfl,e⟩:=hj.find h;obtain⟨c,d,b,g⟩:=hj;unfold vJ;rw[e];simp only;rw[zC True.intro,zB O,dD,b.1,b.2];unfold Tk at g;show(eB c d (y:Int)==some true)=true;rw[g];rfl
  ·unfold vJ;have:=h.gU r hr;rw[DO h hr (zD _) O];simp
theorem WI.xo (h:WI W)(hk:W.bX[k]?=some A){cl:Int}{l:List Int}(ho:jk W.held k cl l=true){j:Nat}(e:cl=j):∀x∈l,¬gZ A j x:=by
 intro x hx hin;obtain⟨p,m,a⟩:=(KG.1 ho).1 x hx;obtain⟨i,g,r,b⟩:=KK.1 a;obtain⟨c,_,_,_,d⟩:=h.cls m (j:=j) (by rw[g,e]) (by rw[i];exact hk);rw[r]at d;rw[d.2 hin]at b;cases b
theorem WI.grow (h:WI W)(hk:W.bX[k]?=some A)(x:Int):WI (W.put k (cL A W.sp x).1 (cL A W.sp x).2 W.held):=by
 obtain⟨s,e1,e2,a,_⟩:=Rk (h.ga k A hk) (h.ow k A hk) x;exact h.lO hk s e1 a e2
theorem WI.from (h:WI W)(hk:W.bX[k]?=some A)(cl m:Int):WI (W.put k (YA A cl m) W.sp (W.held++(Yj A cl m).map λy=>⟨k,cl,y,oU W.tb cl,false⟩)):=by
 obtain⟨o,e1,e2,G,E,z⟩:=I0 (h.ga k A hk) cl m;have tb:(YA A cl m).tb=A.tb:=o.kp.tb;have i:∀y∈Yj A cl m,∃j:Nat,cl=j/\j<A.tb.length:=λy g=>G (λe=>by rw[e]at g;simp at g);have w:∀y∈Yj A cl m,∀p∈W.held,¬(p.k=k/\p.cls=cl/\p.addr=y):=by
  rintro y g p d ⟨K,M,N⟩;obtain⟨j,rfl,_⟩:=i y g;obtain⟨c,_,_,ht,_⟩:=h.cls d M (by rw[K];exact hk);rw[N]at ht;exact E y g (by rw[dD];exact ht)
 refine h.step hk (o.st (h.ow k A hk)) ?_ (λp d e=>?_) (λp C=>?_) (λj y g=>?_) λr hr=>?_
 ·rw[zy,nC];refine⟨h.hk,?_,λa H b J e=>?_⟩
  ·rw[lx];exact List.Pairwise.map (R:=(· ≠ ·)) _ (λa b B e=>B (by simpa[Pc.key]using e)) e2
  ·subst e;obtain⟨p,d,rfl⟩:=zE.1 H;obtain⟨q,L,e⟩:=zE.1 J;obtain⟨y,g,rfl⟩:=zE.1 L;simp only[Pc.key,Prod.mk.injEq]at e;exact w y g p d ⟨e.1.symm,e.2.1.symm,e.2.2.symm⟩
 ·rcases zK.1 d with d|d
  ·exact(h.hd hk d e).to tb o.runs (λj y u=>(z j y).2 (.inl u)) λj y=>by unfold gZ;rw[e1]
  ·obtain⟨y,g,rfl⟩:=zE.1 d;obtain⟨j,rfl,u⟩:=i y g;refine .inr ⟨j,A.tb[j],rfl,by rw[tb];exact cU u,?_,(z j y).2 (.inr ⟨(dD j).symm,y,g,rfl⟩),?_⟩
   ·show oU W.tb (j:Int)=_;unfold oU;rw[dD,←h.tb k A hk,cU u];rfl
   ·constructor
    ·intro hx;cases hx
    ·rintro⟨t,ht,hx⟩;rw[e1]at ht;obtain⟨c,F,P,D,s⟩:=(h.ga k A hk).cl u;rw[ht]at s;cases s;exact(E y g (by rw[dD];exact(Vq D).2 ((h.ga k A hk).l7 j c F t D ht _ hx))).elim
 ·rw[zK];constructor
  ·rintro(d|d)
   ·exact d
   ·obtain⟨y,_,rfl⟩:=zE.1 d;exact(C rfl).elim
  ·exact .inl
 ·rcases(z j y).1 g with g|⟨rfl,x,hx,rfl⟩
  ·obtain⟨p,d,q⟩:=h.ht k A hk j y g;exact⟨p,kr _ d,q⟩
  ·obtain⟨j,rfl,_⟩:=i x hx;exact⟨_,nS _ (zE.2 ⟨x,hx,rfl⟩),rfl,by simp,rfl⟩
 ·rw[o.runs]at hr;obtain⟨p,d,q⟩:=h.hr k A hk r hr;exact⟨p,kr _ d,q⟩
theorem WI.yT (h:WI W){cl:Int}{l:List Int}(ho:jk W.held k cl l=true):wX W.held k cl l=W.held.filter λp=>!dZ k cl l p:=
 Fy l h.hk (KG.1 ho).1 (KG.1 ho).2
theorem WI.Ng (h:WI W)(hk:W.bX[k]?=some A){cl:Int}{l:List Int}(ho:jk W.held k cl l=true):WI (W.put k (ZC A cl l) W.sp (if QU A cl l=0 then wX W.held k cl l else W.held)):=by
 have ga:=h.ga k A hk;obtain⟨o,e1,e2,H⟩:=BU ga (k:=cl) (xs:=l) λg x m=>by
  obtain⟨j,c,G,rfl,_⟩:=AN ga g;rw[dD];exact h.xo hk ho rfl x m
 by_cases g:QU A cl l=0
 ·rw[zC g,h.yT ho];obtain⟨j,c,G,rfl,L,N⟩:=AN ga g;have e2:=e2 g;rw[dD]at e2;refine h.step hk (o.st (h.ow k A hk)) (V3 h.hk _) (λp u e=>?_) (λp E=>?_) (λi y K=>?_) λr hr=>?_
  ·have s:=zI.1 u;have z:dZ k (j:Int) l p=false:=by simpa using s.2
   rcases h.hd hk s.1 e with⟨h1,h2,r,hr,h3⟩|⟨i,d,h1,h2,h3,h4,h5⟩
   ·exact .inl ⟨h1,h2,r,by rw[o.runs];exact hr,h3⟩
   ·refine .inr ⟨i,d,h1,by rw[o.kp.tb];exact h2,h3,(e2 i _).2 ⟨h4,λ⟨a,b⟩=>?_⟩,by unfold gZ at h5 ⊢;rw[e1];exact h5⟩;have:dZ k (j:Int) l p=true:=Z3.2 ⟨e,by rw[h1,a],b⟩;rw[z]at this;cases this
  ·rw[zI];have:dZ k (j:Int) l p=false:=by
    apply nk.2;intro m;exact E (Z3.1 m).1
   rw[this];simp
  ·obtain⟨B,F⟩:=(e2 i y).1 K;obtain⟨p,u,C,D,w⟩:=h.ht k A hk i y B;refine⟨p,zI.2 ⟨u,?_⟩,C,D,w⟩;have:dZ k (j:Int) l p=false:=by
    apply nk.2;intro m;obtain⟨_,M,J⟩:=Z3.1 m;exact F ⟨O,by rw[←w];exact J⟩
   rw[this];rfl
  ·rw[o.runs]at hr;obtain⟨p,u,C,D,w⟩:=h.hr k A hk r hr;refine⟨p,zI.2 ⟨u,?_⟩,C,D,w⟩;have:dZ k (j:Int) l p=false:=by
    apply nk.2;intro m;have:=(Z3.1 m).2.1;omega
   rw[this];rfl
 ·rw[zB g,H g];exact GM hk h
theorem WI.move (h:WI W)(hk:W.bX[k]?=some A){B:AR}{j:Nat}{l:List Int}{m:Bool}(o:Ob A B)(e1:∀i y,fQ B i y↔fQ A i y)(e2:∀i y,gZ B i y↔if i=j/\y∈l then m=true else gZ A i y):WI (W.put k B W.sp (HJ W.held k (j:Int) l m)):=by
 refine h.step hk (o.st (h.ow k A hk)) (by rw[Ps];exact h.hk) (λp a e=>?_) (λp b=>?_) (λi y g=>?_) λr hr=>?_
 ·obtain⟨q,s,rfl⟩:=QL.1 a;have d:q.k=k:=by
   split at e<;>exact e
  rcases h.hd hk s d with⟨h1,h2,r,hr,h3⟩|⟨i,c,h1,h2,h3,h4,h5⟩
  ·have:dZ k (j:Int) l q=false:=by
    apply nk.2;intro hx;have:=(Z3.1 hx).2.1;omega
   rw[this];exact .inl ⟨h1,h2,r,by rw[o.runs];exact hr,h3⟩
  ·by_cases hx:dZ k (j:Int) l q=true
   ·rw[zC hx];obtain⟨_,D,C⟩:=Z3.1 hx;have u:i=j:=by omega
    refine .inr ⟨i,c,h1,by rw[o.kp.tb];exact h2,h3,(e1 _ _).2 h4,?_⟩;show m=true↔gZ B i (q.addr:Int);rw[e2,zC ⟨u,C⟩]
   ·rw[zB hx];refine .inr ⟨i,c,h1,by rw[o.kp.tb];exact h2,h3,(e1 _ _).2 h4,?_⟩;rw[e2,zB λg=>hx (Z3.2 ⟨d,by rw[h1,g.1],g.2⟩)];exact h5
 ·rw[QL];constructor
  ·rintro⟨q,s,rfl⟩;have:dZ k (j:Int) l q=false:=by
    apply nk.2;intro hx;rw[zC hx]at b;exact b (Z3.1 hx).1
   rw[this];exact s
  ·intro a;refine⟨p,a,?_⟩;have:dZ k (j:Int) l p=false:=by
    apply nk.2;intro hx;exact b (Z3.1 hx).1
   rw[this];rfl
 ·obtain⟨p,a,x,w,z⟩:=h.ht k A hk i y ((e1 i y).1 g);refine⟨_,QL.2 ⟨p,a,rfl⟩,?_,?_,?_⟩
  ·split<;>exact x
  ·split<;>exact w
  ·split<;>exact z
 ·rw[o.runs]at hr;obtain⟨p,a,x,w,z⟩:=h.hr k A hk r hr;refine⟨_,QL.2 ⟨p,a,rfl⟩,?_,?_,?_⟩
  ·split<;>exact x
  ·split<;>exact w
  ·split<;>exact z
theorem NI {held:List Pc}{k:Nat}{cls:Int}{m:Bool}:HJ held k cls [] m=held:=by
 unfold HJ;have:∀p,dZ k cls [] p=false:=λp=>by simp[dZ]
 simp[this]
theorem WI.wO (h:WI W)(hk:W.bX[k]?=some A)(cl:Int):WI (W.put k (ZG A cl) W.sp (HJ W.held k cl (Yy A cl) false)):=by
 obtain⟨o,e1,e2,s,b,a⟩:=FV (h.ga k A hk) cl;by_cases hv:Yy A cl=[]
 ·rw[hv,NI];have g:∀j y,gZ (ZG A cl) j y↔gZ A j y:=λj y=>by rw[a,hv];simp
  refine h.step hk (o.st (h.ow k A hk)) h.hk (λp d e=>(h.hd hk d e).to o.kp.tb o.runs (λj y=>(e1 j y).2) g) (λ_ _=>Iff.rfl) (λj y m=>h.ht k A hk j y ((e1 j y).1 m)) λr hr=>h.hr k A hk r (by rw[←o.runs];exact hr)
 ·obtain⟨j,rfl,_⟩:=b hv;rw[dD]at a;exact h.move hk o e1 λi y=>by
   rw[a];split
   ·rename_i hx;simp[hx]
   ·rename_i hx;simp[hx]
theorem WI.JT (h:WI W)(hk:W.bX[k]?=some A){cl:Int}{l:List Int}(ho:jk W.held k cl l=true):WI (W.put k (Ke A cl l) W.sp (if Vn A cl l then HJ W.held k cl l true else W.held)):=by
 by_cases a:Vn A cl l=true
 ·have b:∃j:Nat,cl=j:=by
   have d:He A cl l=0:=by
    unfold Vn at a;simp only[zF,zU]at a;exact a.1
   have b:A.ck cl=true:=by
    unfold He at d;split at d
    ·assumption
    ·cases d
   obtain⟨j,g,_⟩:=Hk.1 b;exact⟨j,g⟩
  obtain⟨j,rfl⟩:=b;obtain⟨o,e1,e2,_⟩:=Rs (h.ga k A hk) (j:Int) (xs:=l) (KG.1 ho).2 (by rw[dD];exact h.xo hk ho rfl);obtain⟨_,_,e2⟩:=e2 a;rw[dD]at e2;rw[a,zC rfl];exact h.move hk o e1 λi y=>by
   rw[e2];split
   ·rename_i hx;simp[hx]
   ·rename_i hx;simp[hx]
 ·have a:Vn A cl l=false:=by simpa using a
  have e:Ke A cl l=A:=by unfold Ke;rw[a];rfl
  rw[a,e];exact GM hk h
theorem WI.vU (h:WI W)(hk:W.bX[k]?=some A)(m a:Int):WI (W.put k (cA A W.sp m a).1 (cA A W.sp m a).2 (if Qx A W.sp m a=0 then W.held++[⟨k, -1,Z5 A W.sp m a*256,m.toNat*256,false⟩]else W.held)):=by
 rcases Tq (h.ga k A hk) (h.ow k A hk) m a with⟨e,hE,_⟩|⟨x,A1,sp1,g,hE,hV,e,htk,hor,s,et,ek⟩
 ·rw[zB hE,e];exact GM hk h
 ·rw[zC hE,hV];have u:(cA A W.sp m a).1.runs=A.runs++[(x,m.toNat)]:=by rw[e]
  have w:∀r∈A.runs,r.1≠x:=by
   have hd:=s.ga.ko;rw[u]at hd;intro r hr e2;have z:=(pY.1 hd).2.2 r hr (x,m.toNat) aA;have B:=(h.ga k A hk).gU r hr;have i:=s.ga.gU (x,m.toNat) (by rw[u];simp);simp only at z i;omega
  refine h.step hk s ?_ (λp g e=>?_) (λp C=>?_) (λj y E=>?_) λr hr=>?_
  ·rw[zy,nC];refine⟨h.hk,by simp,λb D d hd e2=>?_⟩;subst e2;obtain⟨p,g,rfl⟩:=zE.1 D;simp only[zR,pX,zL,Pc.key,Prod.mk.injEq]at hd;obtain⟨_,r,hr,i,_⟩:=h.run g hd.2.1 (A:=A) (by rw[hd.1];exact hk);exact w r hr O
  ·rcases zK.1 g with g|g
   ·rcases h.hd hk g e with⟨z,B,r,hr,i⟩|⟨j,c,z,B,i,h4,h5⟩
    ·exact .inl ⟨z,B,r,by rw[u];exact kr _ hr,i⟩
    ·exact .inr ⟨j,c,z,by rw[s.tb];exact B,i,(ek _ _).2 h4,by unfold gZ at h5 ⊢;rw[et];exact h5⟩
   ·simp only[zL]at g;subst g;exact .inl ⟨rfl,rfl,(x,m.toNat),by rw[u];simp,rfl,rfl⟩
  ·rw[zK];constructor
   ·rintro(g|g)
    ·exact g
    ·simp only[zL]at g;subst g;exact(C rfl).elim
   ·exact .inl
  ·obtain⟨p,g,q⟩:=h.ht k A hk j y ((ek j y).1 E);exact⟨p,kr _ g,q⟩
  ·rw[u]at hr;rcases zK.1 hr with hr|hr
   ·obtain⟨p,g,q⟩:=h.hr k A hk r hr;exact⟨p,kr _ g,q⟩
   ·simp only[zL]at hr;subst hr;exact⟨_,nS _ (zL.2 rfl),rfl,rfl,rfl⟩
theorem WI.mN (h:WI W)(hk:W.bX[k]?=some A){r:Nat×Nat}(hr:r∈A.runs):jk W.held k (-1) [(r.1:Int)*256]=true:=by
 refine KG.2 ⟨λx e=>?_,by simp⟩;simp only[zL]at e;subst e;obtain⟨p,a,d,b,g⟩:=h.hr k A hk r hr;exact⟨p,a,KK.2 ⟨d,b,O,(h.run a b (by rw[d];exact hk)).1⟩⟩
theorem WI.vq (h:WI W)(hk:W.bX[k]?=some A)(x:Int):WI (W.put k (QD A x) W.sp (if K0 A x=0 then wX W.held k (-1) [x*256]else W.held)):=by
 have ga:=h.ga k A hk;obtain⟨⟨kp,g⟩,K,H,e1,e2⟩:=RD ga x;by_cases h0:K0 A x=0
 ·rw[zC h0];obtain⟨r,hr,rfl,G⟩:=e2 h0;rw[h.yT (h.mN hk hr)];have m:∀p:Pc,dZ k (-1) [(r.1:Int)*256] p=true↔p.k=k/\p.cls = -1/\p.addr=r.1*256:=λp=>by
   rw[Z3];simp only[zL];constructor
   ·rintro⟨a,b,c⟩;exact⟨a,b,O⟩
   ·rintro⟨a,b,c⟩;exact⟨a,b,O⟩
  refine h.step hk (St.kp g (h.ow k A hk) kp) (V3 h.hk _) (λp z e=>?_) (λp C=>?_) (λi y L=>?_) λq d=>?_
  ·have w:=zI.1 z;have u:¬dZ k (-1) [(r.1:Int)*256] p=true:=by simpa using w.2
   rw[m]at u;rcases h.hd hk w.1 e with⟨h1,h2,q,d,s⟩|⟨j,c,h1,h2,s,J,F⟩
   ·refine .inl ⟨h1,h2,q,?_,s⟩;rw[G,zI];refine⟨d,?_⟩;have:q≠r:=by rintro rfl;exact u ⟨e,h1,s.1⟩
    simpa using this
   ·exact .inr ⟨j,c,h1,by rw[kp.tb];exact h2,s,(H _ _).2 J,by unfold gZ at F ⊢;rw[K];exact F⟩
  ·rw[zI];have:dZ k (-1) [(r.1:Int)*256] p=false:=by
    apply nk.2;intro hx;exact C (Z3.1 hx).1
   rw[this];simp
  ·obtain⟨p,z,D,B,E⟩:=h.ht k A hk i y ((H i y).1 L);refine⟨p,zI.2 ⟨z,?_⟩,D,B,E⟩;have:dZ k (-1) [(r.1:Int)*256] p=false:=by
    apply nk.2;intro hx;have:=((m p).1 hx).2.1;omega
   rw[this];rfl
  ·rw[G,zI]at d;obtain⟨p,z,D,B,E⟩:=h.hr k A hk q d.1;refine⟨p,zI.2 ⟨z,?_⟩,D,B,E⟩;have:dZ k (-1) [(r.1:Int)*256] p=false:=by
    apply nk.2;intro hx;have s:=((m p).1 hx).2.2;have J:=ga.gU q d.1;have F:=ga.gU r hr;have:q=r:=ga.gQ d.1 hr (x:=q.1) O O O O;subst this;simp at d
   rw[this];rfl
 ·rw[zB h0,e1 h0];exact GM hk h
theorem WI.tick (h:WI W)(hk:W.bX[k]?=some A):WI (W.put k (rr A) W.sp (yC (W.bX.set k (rr A)) W.held)):=by
 have ga:=h.ga k A hk;have t:=S5 ga;have u:=(cX.1 hk).1;have d:(W.bX.set k (rr A))[k]?=some (rr A):=zM u;have bS:∀p∈W.held,p∈yC (W.bX.set k (rr A)) W.held↔(p.k=k->∀j:Nat,p.cls=j->fQ (rr A) j (p.addr:Int)):=by
  intro p a;unfold yC;rw[zI];simp only[a,tI,nG,mq];by_cases hpk:p.k=k
  ·rw[hpk,d];simp only[true_implies];rcases h.hd hk a hpk with⟨h1,h2,r,hr,h3⟩|⟨j,c,h1,h2,h3,h4,h5⟩
   ·exact⟨λ_ j s=>O,λ_=>.inl h2⟩
   ·constructor
    ·intro hx i E;obtain rfl:i=j:=by omega
     rcases hx with hx|hx
     ·refine(t.tk i _).2 ⟨h4,λz=>?_⟩;rw[h5.2 z]at hx;cases hx
     ·rcases(AJ t.ob.ga).1 hx with⟨j',hj'⟩|⟨r,hr,e⟩
      ·obtain⟨y,e,hf⟩:=((t.tk j' _).1 hj').1.find ga;obtain⟨J,H,b⟩:=h4.find ga;rw[hf]at b;have:j'=i:=by
        have:=congrArg Prod.fst (Option.some.inj b);simp only at this;omega
       rw[←this];exact hj'
      ·rw[t.ob.runs]at hr;have:=ga.gU r hr;have L:=DO ga hr (x:=r.1*256) (zD _) O;obtain⟨J,H,b⟩:=h4.find ga;rw[e,L]at b;have:=congrArg Prod.fst (Option.some.inj b);simp only at this;omega
    ·intro hx;by_cases hm:p.eN=true
     ·exact .inr ((AJ t.ob.ga).2 (.inl ⟨j,hx j h1⟩))
     ·exact .inl (by simpa using hm)
  ·constructor
   ·intro _ hx;exact(hpk hx).elim
   ·intro _;obtain⟨C,G,K⟩:=h.hf p a;rw[zj (Ne.symm hpk),G];rcases K with⟨h1,h2,_⟩|⟨j,c,_,_,_,h4,_⟩
    ·exact .inl h2
    ·exact .inr ((AJ (h.ga _ C G)).2 (.inl ⟨j,h4⟩))
 have sub:∀p,p∈yC (W.bX.set k (rr A)) W.held->p∈W.held:=λp a=>(zI.1 a).1;refine h.step hk (t.ob.st (h.ow k A hk)) (V3 h.hk _) (λp a e=>?_) (λp D=>⟨sub p,λa=>(bS p a).2 λe=>(D e).elim⟩) (λj y F=>?_) λr hr=>?_
 ·have m:=(bS p (sub p a)).1 a e;rcases h.hd hk (sub p a) e with⟨h1,h2,r,hr,h3⟩|⟨j,c,h1,h2,h3,h4,h5⟩
  ·exact .inl ⟨h1,h2,r,by rw[t.ob.runs];exact hr,h3⟩
  ·have s:=m j h1;refine .inr ⟨j,c,h1,by rw[t.ob.kp.tb];exact h2,h3,s,?_⟩;rw[h5];exact⟨((t.tk j _).1 s).2,t.sub j _⟩
 ·obtain⟨p,a,w,B,g⟩:=h.ht k A hk j y ((t.tk j y).1 F).1;refine⟨p,(bS p a).2 λ_ i E=>?_,w,B,g⟩;obtain rfl:i=j:=by omega
  rw[g];exact F
 ·rw[t.ob.runs]at hr;obtain⟨p,a,w,B,g⟩:=h.hr k A hk r hr;exact⟨p,(bS p a).2 λ_ i E=>O,w,B,g⟩
theorem WI.oz (h:WI W){p:Pc}(hp:p∈W.held)(hk:W.bX[p.k]?=some A){x:Nat}(h1:p.addr<=x)(h2:x<p.addr+p.size):A.f (x/256)=1:=by
 have ga:=h.ga _ A hk;rcases h.hd hk hp rfl with⟨_,_,r,hr,e1,e2⟩|⟨j,c,_,hc,e1,ht,_⟩
 ·exact(ga.jy hr O O).1
 ·obtain⟨b,m,a,d⟩:=ht;have:b=c:=Option.some.inj (a.1.symm.trans hc);subst this;have g:=ga.cE j b m a;obtain⟨l,s,i,w,u,e,_⟩:=(VH g).1 d;have y:p.addr=at_ b s i:=Int.ofNat.inj e;have:=HV g.pos u (s:=s) (x:=x) O O;exact(ga.used a (zG w) this.1 this.2).1
theorem WI.write (h:WI W){x v:Int}(hi:EJ W.held x=true):WI {W with sp:=W5 W.sp x v}:=by
 unfold EJ at hi;rw[kf]at hi;obtain⟨p,i,u⟩:=hi;simp only[zF,zU]at u;obtain⟨y,rfl⟩:=zc (show 0<=x by omega);obtain⟨A,hk,_⟩:=h.hf p i;have w:=h.oz i hk (x:=y) O O;have r:=(h.ow _ A hk).own (y/256) O;by_cases hacc:dT W.sp (y:Int)=0
 ·have e:(W5 W.sp (y:Int) v).st=W.sp.st.set (y/256) 2:=by
   unfold W5;rw[zC hacc];show W.sp.st.set (_/32) 2=_;rw[dD,show y/8/32=y/256 by omega]
  have g:=C8 r;have d:∀q,gf (W5 W.sp (y:Int) v).st q=if q=y/256 then 2 else gf W.sp.st q:=λq=>by
   rw[e];unfold gf;simp only[zP];by_cases a:q=y/256
   ·subst a;rw[zM g,zC rfl];rfl
   ·rw[zj (Ne.symm a),zB a]
  have m:∀q,gf (W5 W.sp (y:Int) v).st q≠0↔gf W.sp.st q≠0:=λq=>by
   rw[d];split
   ·rename_i a;subst a;simp[r]
   ·exact Iff.rfl
  refine⟨h.ga,λj C b=>?_,h.tb,h.low,λq a=>h.own q ((m q).1 a),h.one,h.hk,h.hf,h.ht,h.hr⟩;have o:=h.ow j C b;refine⟨by show(W5 W.sp (y:Int) v).st.length=_;rw[e,ns];exact o.l,λq a=>(m q).2 (o.own q a),λq a=>?_,λq=>?_⟩
  ·show gf (W5 W.sp (y:Int) v).st q=1;rw[d,zB]
   ·exact o.cl q a
   ·rintro rfl;have s:j=p.k:=h.one (y/256) j p.k C A b hk O O;subst s;rw[hk]at b;cases b;omega
  ·show gf (W5 W.sp (y:Int) v).st q<=2;rw[d];have:=o.le q;split<;>omega
 ·have e:W5 W.sp (y:Int) v=W.sp:=by unfold W5;rw[zB hacc]
  rw[e];exact h
theorem fQ.lt (h:GA A){j:Nat}{x:Int}(hx:fQ A j x):∃y:Nat,x=y/\y<262144:=by
 obtain⟨c,e,b,m⟩:=hx;have a:=h.cE j c e b;obtain⟨l,s,i,r,g,rfl,w⟩:=(VH a).1 m;have d:=HV a.pos (s:=s) (x:=at_ c s i) g (zD _) (by have:=a.pos;omega);have u:=(h.used b (zG r) d.1 d.2).1;have:=h.pg.lt (p:=at_ c s i/256) O;have:=h.pg.n2;exact⟨_,rfl,O⟩
theorem WI.jI (h:WI W){p:Pc}(hp:p∈W.held):p.addr<262144/\p.addr+p.size<=270000:=by
 obtain⟨A,i,m⟩:=h.hf p hp;have ga:=h.ga _ A i;have s:=ga.pg.n2;rcases m with⟨_,_,r,hr,h1,h2⟩|⟨j,c,_,hc,h2,h3,_⟩
 ·have w:=ga.fit hr;have x:=ga.gU r hr;omega
 ·obtain⟨y,e,u⟩:=h3.lt ga;obtain⟨g,d,a,_⟩:=h3;have:g=c:=Option.some.inj (a.1.symm.trans hc);subst this;have b:=(ga.cE j _ d a).ok;unfold bZ.ok at b;omega
theorem BI:∀(N:Nat) (l:List Nat),l.Nodup->(∀x∈l,x<N)->l.length<=N
 | 0,l,_,h=>by
  cases l with
  | nil=>simp
  | cons x l=>have:=h x aA;omega
 | N+1,l,hn,h=>by
  have i:=BI N (l.filter (· != N)) (hn.sublist tU) λx b=>by
   have b:=zI.1 b;have:=h x b.1;have:x≠N:=by simpa using b.2
   omega
  have d:=List.length_eq_countP_add_countP (l:=l) (p:=(· != N));have g:l.countP (λa=>¬(a != N)=true)<=1:=by
   have e:l.countP (λa=>¬(a != N)=true)=l.count N:=by
    unfold List.count;apply List.countP_congr;intro x _;simp
   rw[e];exact BE.1 hn N
  rw[xH]at d;omega
theorem WI.apart (h:WI W){p q:Pc}(hp:p∈W.held)(hq:q∈W.held){x:Nat}(p1:p.addr<=x)(p2:x<p.addr+p.size)(q1:q.addr<=x)(q2:x<q.addr+q.size):p=q:=by
 obtain⟨A,y,H⟩:=h.hf p hp;obtain⟨B,m,C⟩:=h.hf q hq;have e1:=h.oz hp y p1 p2;have e2:=h.oz hq m q1 q2;have z:p.k=q.k:=h.one (x/256) p.k q.k A B y m O O;rw[←z,y]at m;cases m;have ga:=h.ga _ A y;have J:=ga.tb;have own:∀{r:Pc},Hd A r->r.addr<=x->x<r.addr+r.size->(r.cls = -1/\A.ow (x/256)=41/\∃u∈A.runs,r.addr=u.1*256/\u.1<=x/256/\x/256<u.1+u.2) ∨
  ∃(j:Nat) (c:bZ) (b:List cF) (l:Nat) (s:cF) (i:Nat),r.cls=j/\A.ow (x/256)=j+1/\Cl A j c b/\b[l]?=some s/\i<c.n/\r.addr=at_ c s i/\r.size=c.size:=by
  intro r hr r1 r2;rcases hr with⟨c1,_,u,hu,c2,c3⟩|⟨j,c,c1,c2,c3,c4,_⟩
  ·exact .inl ⟨c1,(ga.jy hu O O).2,u,hu,c2,O,O⟩
  ·obtain⟨d,b,a,K⟩:=c4;have:d=c:=Option.some.inj (a.1.symm.trans c2);subst this;have F:=ga.cE j d b a;obtain⟨l,s,i,E,D,e,_⟩:=(VH F).1 K;have L:r.addr=at_ d s i:=Int.ofNat.inj e;have g:=HV F.pos (s:=s) (x:=x) D O O;exact .inr ⟨j,d,b,l,s,i,c1,(ga.used a (zG E) g.1 g.2).2,a,E,D,L,c3⟩
 refine h.unique hp hq ?_;rcases own H p1 p2 with⟨a1,a2,u,hu,a3,a4,a5⟩|⟨j,c,b,l,s,i,a1,a2,a3,a4,a5,a6,a7⟩
 ·rcases own C q1 q2 with⟨b1,b2,w,hw,b3,b4,b5⟩|⟨j',d,ss',l',s',i',b1,b2,b3,b4,b5,b6,b7⟩
  ·have:=ga.gQ hu hw a4 a5 b4 b5;subst this;unfold Pc.key;rw[z,a1,b1,a3,b3]
  ·have:=b3.lt;omega
 ·rcases own C q1 q2 with⟨b1,b2,w,hw,b3,b4,b5⟩|⟨j',d,ss',l',s',i',b1,b2,b3,b4,b5,b6,b7⟩
  ·have:=a3.lt;omega
  ·have G:j=j':=by omega
   subst G;obtain⟨rfl,rfl⟩:=a3.eq b3;have:=UA (ga.cE j c b a3) a4 b4 a5 b5 (x:=x) O O O O;unfold Pc.key;rw[z,a1,b1,a6,b6,this.2.1,this.2.2]
theorem WI.size_pos (h:WI W){p:Pc}(hp:p∈W.held):8<=p.size/\p.size%8=0:=by
 obtain⟨A,g,i⟩:=h.hf p hp;have ga:=h.ga _ A g;rcases i with⟨_,_,r,hr,h1,h2⟩|⟨j,c,_,hc,h2,h3,_⟩
 ·have m:=ga.gU r hr;omega
 ·obtain⟨e,d,a,_⟩:=h3;have:e=c:=Option.some.inj (a.1.symm.trans hc);subst this;have b:=(ga.cE j _ d a).ok;unfold bZ.ok at b;omega
theorem WI.len (h:WI W):W.held.length<=262144:=by
 have r:(W.held.map (·.addr)).Nodup:=by
  have w:=k6.1 h.hk;refine k6.2 λi j u g d e=>?_;have b:i<W.held.length:=by simpa using u
  have a:j<W.held.length:=by simpa using g
  refine w i j (by simpa using b) (by simpa using a) d ?_;simp only[rF]at e ⊢;have s1:=(h.size_pos (zp b)).1;have s2:=(h.size_pos (zp a)).1;rw[h.apart (zp b) (zp a) (x:=W.held[i].addr) (zD _) O O O]
 have:=BI 262144 _ r λx s=>by
  obtain⟨p,m,rfl⟩:=zE.1 s;exact(h.jI m).1
 simpa using this
end Go.Ar
namespace Go.Ar
open Go.Vc (bU dA cR)
def mb (live:List (Int×Bk))(k x:Int):Nat:=live.countP λe=>e.2.2.2.1==k&&e.1==x
def lK (ls:List Li)(k x:Int):Nat:=if 0<=k then(ls.getD k.toNat il).os.count x else 0
def lU (bs:List Bt)(k x:Int):Nat:=(bs.map λb=>if(b.1:Int)=k then b.2.count x else 0).sum
def jD (p:Option Ph)(k x:Int):Nat:=match p with
 | some (.dC s _)=>if k = -1/\x=s*256 then 1 else 0
 | _=>0
def gM (g:Th)(k x:Int):Nat:=lK g.ls k x+lU g.bP k x+jD g.ph k x
def qR (H:Hw)(k x:Int):Nat:=mb H.live k x+(H.bQ.map λg=>gM g k x).sum
def Um (held:List Pc)(k x:Int):Prop:=∃p∈held,p.eN=false/\p.cls=k/\(p.addr:Int)=x
open Classical in
noncomputable def kV (held:List Pc)(k x:Int):Nat:=if Um held k x then 1 else 0
theorem Ez (held:List Pc)(k x:Int):kV held k x<=1:=by unfold kV;split<;>omega
theorem Ca {held:List Pc}{k x:Int}(h:1<=kV held k x):Um held k x:=by
 unfold kV at h;split at h
 ·assumption
 ·omega
theorem VB {held:List Pc}{k x:Int}(h:Um held k x):kV held k x=1:=by unfold kV;rw[zC h]
theorem Ko {held:List Pc}{k x:Int}(h:¬Um held k x):kV held k x=0:=by unfold kV;rw[zB h]
theorem IV {l:List Int}(hn:l.Nodup)(x:Int):l.count x=if x∈l then 1 else 0:=by
 split
 ·rename_i h;have b:=BE.1 hn x;have a:=AG.2 h;omega
 ·rename_i h;exact xV.2 h
theorem BG {held held':List Pc}{cl:Int}{l:List Int}(hn:l.Nodup)(h0:∀x∈l,¬Um held cl x)(h:∀k x,Um held' k x↔Um held k x\/(k=cl/\x∈l))(k x:Int):kV held' k x=kV held k x+(if cl=k then l.count x else 0):=by
 by_cases hk:cl=k
 ·subst hk;rw[zC rfl,IV hn];by_cases hx:x∈l
  ·rw[zC hx,Ko (h0 x hx),VB ((h _ _).2 (.inr ⟨rfl,hx⟩))]
  ·rw[zB hx,j9];by_cases hu:Um held cl x
   ·rw[VB hu,VB ((h _ _).2 (.inl hu))]
   ·rw[Ko hu,Ko λa=>by rcases(h _ _).1 a with a|⟨_,a⟩;exact hu a;exact hx a]
 ·rw[zB hk,j9];by_cases hu:Um held k x
  ·rw[VB hu,VB ((h _ _).2 (.inl hu))]
  ·rw[Ko hu,Ko λa=>by rcases(h _ _).1 a with a|⟨a,_⟩;exact hu a;exact hk a.symm]
theorem Fb {held held':List Pc}{cl:Int}{l:List Int}(hn:l.Nodup)(h0:∀x∈l,Um held cl x)(h:∀k x,Um held' k x↔Um held k x/\¬(k=cl/\x∈l))(k x:Int):kV held k x=kV held' k x+(if cl=k then l.count x else 0):=by
 by_cases hk:cl=k
 ·subst hk;rw[zC rfl,IV hn];by_cases hx:x∈l
  ·rw[zC hx,VB (h0 x hx),Ko λa=>((h _ _).1 a).2 ⟨rfl,hx⟩]
  ·rw[zB hx,j9];by_cases hu:Um held cl x
   ·rw[VB hu,VB ((h _ _).2 ⟨hu,λa=>hx a.2⟩)]
   ·rw[Ko hu,Ko λa=>hu ((h _ _).1 a).1]
 ·rw[zB hk,j9];by_cases hu:Um held k x
  ·rw[VB hu,VB ((h _ _).2 ⟨hu,λa=>hk a.1.symm⟩)]
  ·rw[Ko hu,Ko λa=>hu ((h _ _).1 a).1]
theorem D6 {α:Type}(f:α->Nat):∀{l:List α} {t:Nat} {g:α} (g':α),l[t]?=some g->((l.set t g').map f).sum+f g=(l.map f).sum+f g'
 | [],t,g,g',h=>by simp at h
 | a::l,0,g,g',h=>by
  simp only[xM,Option.some.injEq]at h;subst h;simp only[List.set_cons_zero,zR,nf];omega
 | a::l,t+1,g,g',h=>by
  have:=D6 f (l:=l) (t:=t) g' (by simpa using h);simp only[rZ,zR,nf];omega
theorem As {α:Type}(f:α->Nat){l:List α}{g:α}(h:g∈l):f g<=(l.map f).sum:=by
 induction l with
 | nil=>simp at h
 | cons a l ih=>
  simp only[zR,nf];rcases zV.1 h with rfl|h
  ·omega
  ·have:=ih h;omega
theorem G8 (ls:List Li)(k:Nat)(x:Int):lK ls (k:Int) x=(ls.getD k il).os.count x:=by
 unfold lK;rw[zC O,dD]
theorem D5 {ls:List Li}{j:Nat}(l:Li)(k:Nat)(h:j<ls.length):(ls.set j l).getD k il=if k=j then l else ls.getD k il:=by
 rw[zP,m7];by_cases hkj:k=j
 ·subst hkj;simp[h]
 ·rw[zB hkj,zB (Ne.symm hkj),zP]
theorem J7 {ls:List Li}{j:Nat}(l:Li)(h:j<ls.length)(k x:Int):lK (ls.set j l) k x+(if(j:Int)=k then(ls.getD j il).os.count x else 0)=lK ls k x+(if(j:Int)=k then l.os.count x else 0):=by
 by_cases hk:0<=k
 ·obtain⟨k,rfl⟩:=zc hk;rw[G8,G8,D5 l k h];by_cases hjk:j=k
  ·subst hjk;simp;omega
  ·have:¬(j:Int)=(k:Int):=by omega
   rw[zB (Ne.symm hjk),zB this,zB this]
 ·unfold lK;rw[zB hk,zB hk,zB O,zB O]
theorem VC (k x:Int):lU [] k x=0:=rfl
theorem KN (b:Bt)(bs:List Bt)(k x:Int):lU (b::bs) k x=(if(b.1:Int)=k then b.2.count x else 0)+lU bs k x:=by
 unfold lU;rw[zR,nf]
theorem Fa (a b:List Bt)(k x:Int):lU (a++b) k x=lU a k x+lU b k x:=by
 unfold lU;rw[zy,List.sum_append]
theorem IS {f:bZ->Li->List Int×Li}(hf:∀c l x,(f c l).1.count x+(f c l).2.os.count x=l.os.count x){tb:List bZ}{ls:List Li}(hl:ls.length=tb.length)(k x:Int):lU (Kg f tb ls) k x+lK (Kc f tb ls) k x=lK ls k x:=by
 have key:∀n,n<=tb.length->lU ((List.range n).filterMap λk=>match tb[k]?,ls[k]? with
  | some c,some l=>if(f c l).1=[]then none else some (k,(f c l).1)
  | _,_=>none) k x=if 0<=k/\k<(n:Int)then(match tb[k.toNat]?,ls[k.toNat]? with
  | some c,some l=>(f c l).1.count x
  | _,_=>0)else 0:=by
  intro n
  induction n with
  | zero=>intro _;rw[zB O];rfl
  | succ n i=>
   intro hn;have i:=i O;rw[ox,vV,Fa,i];have d:tb[n]?=some tb[n]:=cU O;have a:ls[n]?=some ls[n]:=cU O;have e:lU ([n].filterMap λk=>match tb[k]?,ls[k]? with
    | some c,some l=>if(f c l).1=[]then none else some (k,(f c l).1)
    | _,_=>none) k x=if(n:Int)=k then(f tb[n] ls[n]).1.count x else 0:=by
    rw[B6,d,a];simp only;by_cases he:(f tb[n] ls[n]).1=[]
    ·rw[zC he,he];simp[VC]
    ·rw[zB he];simp only[List.filterMap_nil,KN,VC,j9]
   rw[e];by_cases b:0<=k/\k<(n:Int)
   ·rw[zC b,zB (show ¬(n:Int)=k by omega),j9,zC (show 0<=k/\k<((n+1:Nat):Int)from⟨b.1,O⟩)]
   ·rw[zB b,zH];by_cases g:(n:Int)=k
    ·subst g;rw[zC rfl,zC (show(0:Int)<=(n:Int)/\(n:Int)<((n+1:Nat):Int)from⟨O,O⟩),dD,d,a]
    ·rw[zB g,zB O]
 have b:=key tb.length (zD _);have e:Kg f tb ls=(List.range tb.length).filterMap λk=>match tb[k]?,ls[k]? with
  | some c,some l=>if(f c l).1=[]then none else some (k,(f c l).1)
  | _,_=>none:=rfl
 rw[e,b];by_cases hk:0<=k
 ·obtain⟨k,rfl⟩:=zc hk;rw[G8,G8,dD];by_cases hkl:k<tb.length
  ·have d:tb[k]?=some tb[k]:=cU hkl;have a:ls[k]?=some ls[k]:=cU O;rw[zC ⟨O,O⟩,d,a];simp only;have:(Kc f tb ls).getD k il=(f tb[k] ls[k]).2:=by
    unfold Kc;rw[zP,CI,d,a];rfl
   rw[this,zP,a];exact hf _ _ _
  ·rw[zB O,zH];have b:(Kc f tb ls).getD k il=il:=by
    unfold Kc;rw[zP,zW (by rw[List.length_zipWith];omega)];rfl
   have g:ls.getD k il=il:=by rw[zP,zW O];rfl
   rw[b,g]
 ·rw[zB O,zH];unfold lK;rw[zB hk,zB hk]
theorem AZ (m:Nat)(l:Li)(x:Int):(gC m l).1.count x+(gC m l).2.os.count x=l.os.count x:=by
 show(l.os.take m).count x+(l.os.drop m).count x=_;rw[←vH,oc]
theorem SU (c:bZ)(l:Li)(x:Int):(KU c l).1.count x+(KU c l).2.os.count x=l.os.count x:=AZ _ l x
theorem Sb (c:bZ)(l:Li)(x:Int):(ZP c l).1.count x+(ZP c l).2.os.count x=l.os.count x:=AZ _ l x
theorem Sy (c:bZ)(y:Int)(l:Li)(hl:l.os.length<=255)(x:Int):(dK c y l).1.count x+(dK c y l).2.os.count x=l.os.count x + [y].count x:=by
 have a:(eC [y] l).os=l.os++[y]:=by
  unfold eC;rw[zB aE]
 unfold dK;rw[zB O];split
 ·rw[a,List.count_nil,zH,vH]
 ·rw[AZ];have:(mh c (eC [y] l)).os=(eC [y] l).os:=by unfold mh;split<;>rfl
  rw[this,a,vH]
theorem E6 {c:bZ}{l l':Li}{y:Int}(h:Kh c l=(some y,l'))(x:Int):l.os.count x=l'.os.count x + [y].count x:=by
 unfold Kh at h;split at h
 ·simp at h
 ·rename_i z hz;cases h;have:l.os=l.os.dropLast++[y]:=by
   obtain⟨b,a⟩:=List.getLast?_eq_some_iff.1 hz;rw[a];simp
  conv=>lhs;rw[this]
  rw[vH]
theorem Lj {c:bZ}{l l':Li}(h:Kh c l=(none,l')):l.os=[]/\l'.os=[]:=by
 unfold Kh at h;split at h
 ·rename_i hz;have:l.os=[]:=by simpa using hz
  cases h;refine⟨this,?_⟩;split<;>exact this
 ·simp at h
theorem CP {live:List (Int×Bk)}{x:Int}(b:Bk)(h:bU live x=none)(k y:Int):mb (dA live x b) k y=mb live k y+(if b.2.2.1=k then[x].count y else 0):=by
 have a:live.any (λe=>e.1==x)=false:=by
  rw[mg];intro e he hx;unfold bU at h;rw[rY,nQ]at h;exact h e he hx
 unfold dA;rw[a,zB aA];unfold mb;rw[List.countP_append]
 congr 1
 rw[vI,List.countP_nil,zH];by_cases h1:b.2.2.1=k
 ·by_cases h2:x=y
  ·subst h2;simp[h1]
  ·simp[h1,h2]
 ·simp[h1]
theorem GN {live:List (Int×Bk)}{x:Int}{b:Bk}(h:bU live x=none){e:Int×Bk}:e∈dA live x b↔e∈live\/e=(x,b):=by
 have a:live.any (λe=>e.1==x)=false:=by
  rw[mg];intro e he hx;unfold bU at h;rw[rY,nQ]at h;exact h e he hx
 unfold dA;rw[a,zB aA,zK,zL]
theorem GK {live:List (Int×Bk)}{x:Int}{e:Int×Bk}:e∈cR live x↔e∈live/\e.1≠x:=by
 unfold cR;rw[zI];simp
theorem A0:∀{live:List (Int×Bk)} {x:Int} {b:Bk},(live.map (·.1)).Nodup->bU live x=some b->∀k y,mb live k y=mb (cR live x) k y+(if b.2.2.1=k then[x].count y else 0)
 | [],x,b,_,h,_,_=>by simp[bU]at h
 | e::l,x,b,hn,h,k,y=>by
  rw[zR,zo]at hn;by_cases he:e.1=x
  ·have hb:e.2=b:=by
    unfold bU at h;rw[List.find?_cons_of_pos (by simpa using he)]at h;simpa using h
   have hd:cR (e::l) x=l:=by
    unfold cR;rw[sr (by simpa using he),qg];intro a ha;have:a.1≠x:=λi=>hn.1 (zE.2 ⟨a,ha,i.trans he.symm⟩);simpa using this
   rw[hd];unfold mb;rw[vI,hb,he]
   congr 1
   by_cases h1:b.2.2.1=k
   ·by_cases h2:x=y
    ·subst h2;simp[h1]
    ·simp[h1,h2]
   ·simp[h1]
  ·have g:bU l x=some b:=by
    unfold bU at h ⊢
    rwa [List.find?_cons_of_neg (by simpa using he)]at h
   have d:=A0 hn.2 g k y;have hd:cR (e::l) x=e::cR l x:=by
    unfold cR;rw[tG (by simpa using he)]
   rw[hd];unfold mb at d ⊢;rw[vI,vI,d];omega
theorem DH {live:List (Int×Bk)}{e:Int×Bk}(h:e∈live):1<=mb live e.2.2.2.1 e.1:=by
 unfold mb;exact List.countP_pos_iff.2 ⟨e,h,by simp⟩
structure jx (s s':Sp):Prop where
 l:s'.st.length=s.st.length
 z:∀p,gf s'.st p=0↔gf s.st p=0
 w:s'.wd=s.wd
def ir (m:Nat)(g:Th):Prop:=match g.ph with
 | none=>g.bP=[]
 | some (.take k)=>g.bP=[]/\k<m
 | some (.cI k w)=>g.bP=[]/\k<m/\(g.li k).os=[]/\1<=w/\w<=32
 | some (.cJ k w)=>g.bP=[]/\k<m/\(g.li k).os=[]/\1<=w/\w<=32
 | some (.grow k w)=>g.bP=[]/\k<m/\(g.li k).os=[]/\1<=w/\w<=32
 | some .fill=>∃k x xs,g.bP=[(k,x::xs)]/\k<m/\(g.li k).os=[]/\xs.length<=128
 | some (.eJ n)=>g.bP=[]/\1<=n/\n<=64
 | some (.find x)=>g.bP=[]/\iG x
 | some (.put k x)=>g.bP=[(k,[x])]/\k<m
 | some .back=>g.bP≠[]
 | some (.dC _ _)=>g.bP=[]
 | some .drain=>g.bP=[]
structure tZ (m:Nat) (g:Th):Prop where
 ll:g.ls.length=m
 lo:∀l∈g.ls,fN l/\l.os.length<=128
 hb:∀b∈g.bP,b.1<m/\b.2≠[]/\b.2.length<=256
 hl:g.bP.length<=41
 ph:ir m g
def Lv (held:List Pc)(e:Int×Bk):Prop:=e.2.1=e.1/\∃p∈held,p.eN=false/\p.cls=e.2.2.2.1/\(p.addr:Int)=e.1/\e.2.2.1=(p.size:Int)/\e.2.2.2.2=(p.k:Int)
def Gv (held:List Pc)(s a:Int):Prop:=∃p∈held,p.eN=false/\p.cls = -1/\(p.addr:Int)=s*256/\a=(p.k:Int)
structure HI (H:Hw) (held:List Pc) (s0:Sp):Prop where
 wi:WI ⟨H.tb,s0,H.bX,held⟩
 mY:jx s0 H.sp
 cn:∀k x,qR H k x=kV held k x
 lk:(H.live.map (·.1)).Nodup
 lv:∀e∈H.live,Lv held e
 gv:∀g∈H.bQ,∀s a,g.ph=some (.dC s a)->Gv held s a
 th:∀g∈H.bQ,tZ H.tb.length g
 ok:∀c∈H.tb,c.ok
 a1:1<=H.bX.length
 sl:H.sp.st.length=H.cf.aF
variable {H:Hw}{held:List Pc}{s0:Sp}{t k:Nat}{g:Th}{A:AR}
theorem jx.refl (s:Sp):jx s s:=⟨rfl,λ_=>Iff.rfl,rfl⟩
theorem HI.apart (h:HI H held s0){p q:Pc}(hp:p∈held)(hq:q∈held){x:Nat}(p1:p.addr<=x)(p2:x<p.addr+p.size)(q1:q.addr<=x)(q2:x<q.addr+q.size):p=q:=h.wi.apart hp hq p1 p2 q1 q2
theorem WI.same {W:Wd}(h:WI W){p q:Pc}(hp:p∈W.held)(hq:q∈W.held)(e:p.addr=q.addr):p=q:=by
 have b:=(h.size_pos hp).1;have a:=(h.size_pos hq).1;exact h.apart hp hq (x:=p.addr) (zD _) O O O
theorem WI.um {W:Wd}(h:WI W){p:Pc}(hp:p∈W.held){k x:Int}(hu:Um W.held k x)(e:(p.addr:Int)=x):p.eN=false/\p.cls=k:=by
 obtain⟨q,b,d,a,g⟩:=hu;obtain rfl:=h.same hp b O;exact⟨d,a⟩
theorem HI.mS (h:HI H held s0){e:Int×Bk}(he:e∈H.live):Um held e.2.2.2.1 e.1:=by
 obtain⟨_,p,a,g,b,d,_⟩:=h.lv e he;exact⟨p,a,g,b,d⟩
theorem HI.oY (h:HI H held s0){g:Th}(hg:g∈H.bQ)(k x:Int):gM g k x<=kV held k x:=by
 rw[←h.cn];unfold qR;have:=As (λg=>gM g k x) hg;omega
theorem HI.qE (h:HI H held s0){g:Th}(hg:g∈H.bQ){k x:Int}(hc:1<=gM g k x):Um held k x:=Ca (zY hc (h.oY hg k x))
theorem HI.lM (h:HI H held s0){g:Th}(hg:g∈H.bQ){k x:Int}(hc:1<=gM g k x):bU H.live x=none:=by
 cases hm:bU H.live x with
 | none=>rfl
 | some b=>
  have e:=Vb hm;have m:=h.qE hg hc;obtain⟨q,s,w,p,j⟩:=h.mS e;have i:k=b.2.2.1:=by
   have:=(h.wi.um (W:=⟨H.tb,s0,H.bX,held⟩) s m j).2;exact this.symm.trans p
  have u:=DH e;have a:=h.cn k x;have r:=Ez held k x;have d:=As (λg=>gM g k x) hg;simp only at u d;unfold qR at a;rw[i]at a r d hc;omega
theorem HI.sZ (h:HI H held s0){x:Int}(hn:∀k,¬Um held k x):bU H.live x=none:=by
 cases hm:bU H.live x with
 | none=>rfl
 | some b=>exact(hn _ (h.mS (Vb hm))).elim
theorem HI.fo (h:HI H held s0)(hg:H.bQ[t]?=some g){g':Th}{live':List (Int×Bk)}{s0' sp':Sp}{ars':List AR}{held':List Pc}(wi:WI ⟨H.tb,s0',ars',held'⟩)(mY:jx s0' sp')(hsl:sp'.st.length=H.sp.st.length)(hl:ars'.length=H.bX.length)
 (sub:∀p∈held',p.eN=false->p∈held\/∀k,¬Um held k (p.addr:Int))
 (cn:∀k x,mb live' k x+gM g' k x+kV held k x=mb H.live k x+gM g k x+kV held' k x)
 (lk:(live'.map (·.1)).Nodup) (lv:∀e∈live',e∈H.live\/Lv held' e) (gv:∀s a,g'.ph=some (.dC s a)->Gv held' s a) (th:tZ H.tb.length g') :
 HI {H with live:=live',sp:=sp',bX:=ars',bQ:=H.bQ.set t g'} held' s0':=by
 have r:∀k x,qR {H with live:=live',sp:=sp',bX:=ars',bQ:=H.bQ.set t g'} k x=kV held' k x:=λk x=>by
  have i:=h.cn k x;have u:=cn k x;have b:=D6 (λg=>gM g k x) g' hg;unfold qR at i ⊢;simp only at b ⊢;omega
 have F:=(cX.1 hg).1;have bS:∀p∈held,p.eN=false->Um held' p.cls (p.addr:Int)->p∈held':=λp m C ⟨q,B,i,u,b⟩=>by
  rcases sub q B i with hs|hs
  ·have:q=p:=h.wi.same (W:=⟨H.tb,s0,H.bX,held⟩) hs m O;rw[←this];exact B
  ·exact(hs p.cls ⟨p,m,C,rfl,b.symm⟩).elim
 refine⟨wi,mY,r,lk,λe A=>?_,λw d s a m=>?_,λw d=>?_,h.ok,by simp only;rw[hl];exact h.a1,hsl.trans h.sl⟩
 ·rcases lv e A with he'|he'
  ·obtain⟨D,p,m,i,u,b,y⟩:=h.lv e he';refine⟨D,p,bS p m i ?_,i,u,b,y⟩;rw[u,b];apply Ca;rw[←r];have:1<=mb live' e.2.2.2.1 e.1:=DH A;unfold qR;simp only;omega
  ·exact he'
 ·rcases List.mem_iff_getElem?.1 d with⟨j,hj⟩;rcases Vm hj with⟨rfl,rfl,_⟩|⟨hne,hj'⟩
  ·exact gv s a m
  ·obtain⟨p,z,i,u,b,y⟩:=h.gv w (zG hj') s a m;refine⟨p,bS p z i ?_,i,u,b,y⟩;rw[u,b];apply Ca;rw[←r];have E:=As (λg=>gM g (-1) (s*256)) d;have G:1<=gM w (-1) (s*256):=by unfold gM;rw[m];simp[jD]
   unfold qR;simp only at E ⊢;omega
 ·rcases List.mem_iff_getElem?.1 d with⟨j,hj⟩;rcases Vm hj with⟨rfl,rfl,_⟩|⟨hne,hj'⟩
  ·exact th
  ·exact h.th w (zG hj')
theorem HI.kj (h:HI H held s0)(hg:H.bQ[t]?=some g){g':Th}{live':List (Int×Bk)}(cn:∀k x,mb live' k x+gM g' k x=mb H.live k x+gM g k x)(lk:(live'.map (·.1)).Nodup)(lv:∀e∈live',e∈H.live\/Lv held e)
 (gv:∀s a,g'.ph=some (.dC s a)->Gv held s a) (th:tZ H.tb.length g'):HI {H with live:=live',bQ:=H.bQ.set t g'} held s0:=
 h.fo hg h.wi h.mY rfl rfl (λp b _=>.inl b) (λk x=>by have:=cn k x;omega) lk lv gv th
theorem Pd {A:AR}{x:Int}:G4 A x=true↔0<=x/\A.f x.toNat≠0:=by
 unfold G4 AR.f gf;simp
theorem WI.owner {W:Wd}(h:WI W){p:Pc}(hp:p∈W.held){x:Nat}(h1:p.addr<=x)(h2:x<p.addr+p.size):XU W.bX (x:Int)=(p.k:Int):=by
 obtain⟨A,b,_⟩:=h.hf p hp;have g:=h.oz hp b h1 h2;have a:=(cX.1 b).1;have own:∀(j:Nat) (B:AR),W.bX[j]?=some B->(G4 B ((x:Int)/256)=true↔j=p.k):=λj B d=>by
  have e:((x:Int)/256).toNat=x/256:=by omega
  rw[Pd,e];constructor
  ·rintro⟨_,hf⟩;exact h.one (x/256) j p.k B A d b hf O
  ·rintro rfl;rw[b]at d;cases d;exact⟨O,O⟩
 unfold XU;rw[zB O];have hf:W.bX.findIdx? (λA=>G4 A ((x:Int)/256))=some p.k:=by
  rw[nm];refine⟨a,(own p.k _ (cU a)).2 rfl,λj i=>?_⟩;have:=own j W.bX[j] (cU O);intro hx;have:=this.1 hx;omega
 rw[hf]
theorem HI.owner (h:HI H held s0){p:Pc}(hp:p∈held){x:Nat}(h1:p.addr<=x)(h2:x<p.addr+p.size):XU H.bX (x:Int)=(p.k:Int):=h.wi.owner (W:=⟨H.tb,s0,H.bX,held⟩) hp h1 h2
theorem HI.pc (h:HI H held s0){p:Pc}(hp:p∈held):XU H.bX (p.addr:Int)=(p.k:Int):=h.owner hp (zD _) (by have:=(h.wi.size_pos (W:=⟨H.tb,s0,H.bX,held⟩) hp).1;omega)
theorem HI.i63 (h:HI H held s0){k x:Int}(hu:Um held k x):iG x/\0<=x/\0<=XU H.bX x:=by
 obtain⟨p,a,_,_,rfl⟩:=hu;have:=(h.wi.jI (W:=⟨H.tb,s0,H.bX,held⟩) a).1;refine⟨by unfold iG;omega,O,?_⟩;rw[h.pc a];omega
end Go.Ar
namespace Go.Ar
open Go.Vc (bU dA cR)
open Go.Bu (Zj)
structure KS (s s':Sp):Prop where
 l:s'.st.length=s.st.length
 k:∀p,gf s.st p≠0->gf s'.st p≠0/\∀w,w/32=p->s'.wd w=s.wd w
theorem KS.refl (s:Sp):KS s s:=⟨rfl,λp a=>⟨a,λ_ _=>rfl⟩⟩
theorem KS.trans {a b c:Sp}(h:KS a b)(k:KS b c):KS a c:=⟨k.l.trans h.l,λp d=>⟨(k.k p (h.k p d).1).1,λw e=>((k.k p (h.k p d).1).2 w e).trans ((h.k p d).2 w e)⟩⟩
variable {s s' sp sp' s0 s0':Sp}{A B:AR}{k:Nat}
theorem jx.mz (h:jx s s'):s'.st.map (λx=>decide (x=0))=s.st.map λx=>decide (x=0):=by
 refine zr λi=>?_;rw[zg,zg];have a:=h.z i;unfold gf at a;rw[zP,zP]at a;by_cases hi:i<s.st.length
 ·have b:i<s'.st.length:=by rw[h.l];exact hi
  rw[cU hi,cU b]at a ⊢;simp only[pZ]at a;simp[a]
 ·have d:=h.l;rw[zW O,zW O]
theorem Rv {l l':List Nat}(h:l'.map (λx=>decide (x=0))=l.map λx=>decide (x=0))(a m:Nat)(f:Bool->Bool):((l'.drop a).take m).any (λx=>f (decide (x=0)))=((l.drop a).take m).any λx=>f (decide (x=0)):=by
 have e:∀l:List Nat,((l.drop a).take m).any (λx=>f (decide (x=0)))=(((l.map λx=>decide (x=0)).drop a).take m).any f:=λl=>by
  rw[←List.map_drop,←List.map_take,List.any_map];rfl
 rw[e,e,h]
theorem jx.fA (h:jx s s')(a m:Int):fA s' a m=fA s a m:=by
 unfold Go.Ar.fA;rw[h.l];have:=Rv h.mz a.toNat m.toNat (λb=>!b);have e:∀l:List Nat,l.any (λx=>x != 0)=l.any λx=>!decide (x=0):=λl=>by
  refine congrArg l.any (funext λx=>?_);cases x<;>rfl
 rw[e,e,this]
theorem jx.set (h:jx s s'){a m v:Nat}(hl:a+m<=s.st.length):jx (s.set a m v) (s'.set a m v):=by
 refine⟨by simp[Sp.set,KJ,h.l],λp=>?_,?_⟩
 ·show gf (gD s'.st a (a+m) v) p=0↔gf (gD s.st a (a+m) v) p=0;rw[u9 (by rw[h.l];exact hl),u9 hl];split
  ·exact Iff.rfl
  ·exact h.z p
 ·show(λw=>if a*32<=w/\w<(a+m)*32 then 0 else s'.wd w)=_
  rw[h.w];rfl
theorem Sc {n:Nat}{a m:Int}(h:Zj n a m=true):a.toNat+m.toNat<=n:=by
 by_cases h0:0<=a/\0<=m
 ·obtain⟨a,rfl⟩:=zc h0.1;obtain⟨m,rfl⟩:=zc h0.2;rw[dD,dD];exact(Uw.1 h).2
 ·exfalso;unfold Zj at h;simp at h;omega
theorem jx.fU (h:jx s s')(a m:Int):jx (fU s a m) (fU s' a m):=by
 unfold Go.Ar.fU;rw[h.fA];split
 ·rename_i h0;refine h.set ?_;unfold Go.Ar.fA at h0;split at h0
  ·rename_i hr;exact Sc hr
  ·simp at h0
 ·exact h
theorem E9 (s:Sp)(a m:Nat):KS s (fU s (a:Int) (m:Int)):=by
 by_cases h:fA s (a:Int) (m:Int)=0
 ·have j:=y7 h;obtain⟨r,i,g,_⟩:=Eh h;refine⟨r,λp d=>?_⟩;have b:¬(a<=p/\p<a+m):=λe=>d (j.2.2 p e.1 e.2);exact⟨by rw[i,zB b];exact d,λw u=>g w O⟩
 ·unfold fU;rw[zB h];exact KS.refl s
theorem jx.cY (h:jx s s')(size:Nat):cY s' size=cY s size:=by
 unfold Go.Ar.cY;rw[h.l]
 congr 1
 funext x
 rw[h.fA]
theorem jx.cZ (h:jx s s')(A:AR)(m a no:Nat):(cZ A s' m a no).1=(cZ A s m a no).1/\(cZ A s' m a no).2.1=(cZ A s m a no).2.1/\jx (cZ A s m a no).2.2 (cZ A s' m a no).2.2/\KS s' (cZ A s' m a no).2.2:=by
 unfold Go.Ar.cZ;split
 ·exact⟨rfl,rfl,h,KS.refl _⟩
 ·unfold UT;rw[h.cY];cases hg:Go.Ar.cY s (Q4 (max m a))with
  | none=>exact⟨rfl,rfl,h,KS.refl _⟩
  | some x=>
   simp only;split
   ·exact⟨rfl,rfl,h.fU _ _,E9 _ _ _⟩
   ·exact⟨rfl,rfl,h.fU _ _,E9 _ _ _⟩
theorem jx.cL (h:jx s s')(A:AR)(k:Int):(cL A s' k).1=(cL A s k).1/\KT A s' k=KT A s k/\jx (cL A s k).2 (cL A s' k).2/\KS s' (cL A s' k).2:=by
 unfold Go.Ar.cL KT;split
 ·split
  ·rename_i c ss _ _;obtain⟨e,a,b,d⟩:=h.cZ A c.aF 1 (k.toNat+1);cases e1:Go.Ar.cZ A s c.aF 1 (k.toNat+1)with
   | mk o1 r1=>cases e2:Go.Ar.cZ A s' c.aF 1 (k.toNat+1)with
    | mk o2 r2=>
     obtain⟨m,j⟩:=r1;obtain⟨i,g⟩:=r2;rw[e1,e2]at e a b;rw[e2]at d;simp only at e a b d;subst e;subst a;cases o2<;>exact⟨rfl,rfl,b,d⟩
  ·exact⟨rfl,rfl,h,KS.refl _⟩
 ·exact⟨rfl,rfl,h,KS.refl _⟩
theorem jx.cA (h:jx s s')(A:AR)(m a:Int):(cA A s' m a).1=(cA A s m a).1/\Qx A s' m a=Qx A s m a/\Z5 A s' m a=Z5 A s m a/\jx (cA A s m a).2 (cA A s' m a).2/\KS s' (cA A s' m a).2:=by
 unfold Go.Ar.cA Qx Z5;split
 ·obtain⟨g,b,d,e⟩:=h.cZ A m.toNat a.toNat 41;cases e1:Go.Ar.cZ A s m.toNat a.toNat 41 with
  | mk o1 r1=>cases e2:Go.Ar.cZ A s' m.toNat a.toNat 41 with
   | mk o2 r2=>
    obtain⟨r,p⟩:=r1;obtain⟨j,i⟩:=r2;rw[e1,e2]at g b d;rw[e2]at e;simp only at g b d e;subst g;subst b;cases o2<;>exact⟨rfl,rfl,rfl,d,e⟩
 ·exact⟨rfl,rfl,rfl,h,KS.refl _⟩
variable {W:Wd}
theorem RC (h:WI W){cl:Int}{l:List Int}(ho:jk W.held k cl l=true)(c x:Int):Um (W.held.filter λp=>!dZ k cl l p) c x↔Um W.held c x/\¬(c=cl/\x∈l):=by
 constructor
 ·rintro⟨p,hp,h1,h2,h3⟩;obtain⟨a,b⟩:=zI.1 hp;refine⟨⟨p,a,h1,h2,h3⟩,?_⟩;rintro⟨rfl,d⟩;obtain⟨q,m,e⟩:=(KG.1 ho).1 x d;obtain⟨i,r,u,s⟩:=KK.1 e;obtain rfl:=h.same (p:=p) (q:=q) a m O;have:dZ k c l p=true:=Z3.2 ⟨i,h2,by rw[h3];exact d⟩;rw[this]at b;cases b
 ·rintro⟨⟨p,hp,h1,h2,h3⟩,b⟩;refine⟨p,zI.2 ⟨hp,?_⟩,h1,h2,h3⟩;have:dZ k cl l p=false:=nk.2 λd=>by
   obtain⟨_,g,j⟩:=Z3.1 d;exact b ⟨h2.symm.trans g,by rw[←h3];exact j⟩
  rw[this];rfl
theorem RQ {held:List Pc}{cl:Int}{l:List Int}(ho:jk held k cl l=true):∀x∈l,Um held cl x:=λx i=>by
 obtain⟨q,g,a⟩:=(KG.1 ho).1 x i;obtain⟨j,b,e,d⟩:=KK.1 a;exact⟨q,g,d,b,e⟩
theorem Of (h:WI W){cl:Int}{l:List Int}(ho:jk W.held k cl l=true)(c x:Int):Um (HJ W.held k cl l true) c x↔Um W.held c x/\¬(c=cl/\x∈l):=by
 constructor
 ·rintro⟨p,hp,h1,h2,h3⟩;obtain⟨q,b,rfl⟩:=QL.1 hp;by_cases hof:dZ k cl l q=true
  ·rw[zC hof]at h1;cases h1
  ·rw[zB hof]at h1 h2 h3;refine⟨⟨q,b,h1,h2,h3⟩,?_⟩;rintro⟨rfl,hx⟩;obtain⟨r,e,a⟩:=(KG.1 ho).1 x hx;obtain⟨g,j,s,m⟩:=KK.1 a;obtain rfl:=h.same b e O;exact hof (Z3.2 ⟨g,h2,by rw[h3];exact hx⟩)
 ·rintro⟨⟨p,hp,h1,h2,h3⟩,hn⟩;refine⟨p,QL.2 ⟨p,hp,?_⟩,h1,h2,h3⟩;rw[zB];intro hx;obtain⟨_,d,i⟩:=Z3.1 hx;exact hn ⟨h2.symm.trans d,by rw[←h3];exact i⟩
theorem Pa {held:List Pc}{cl:Int}{l:List Int}:∀p∈HJ held k cl l true,p.eN=false->p∈held:=λp b a=>by
 obtain⟨q,d,rfl⟩:=QL.1 b;by_cases hof:dZ k cl l q=true
 ·rw[zC hof]at a;cases a
 ·rw[zB hof];exact d
theorem PL (h:WI W)(hk:W.bX[k]?=some A){j:Nat}:(∀x∈Yy A (j:Int),∀c,¬Um W.held c x)/\(Yy A (j:Int)).Nodup/\(∀c x,Um (HJ W.held k j (Yy A (j:Int)) false) c x↔Um W.held c x\/(c=j/\x∈Yy A (j:Int))) ∧
 (∀p∈HJ W.held k j (Yy A (j:Int)) false,p.eN=false->p∈W.held\/∀c,¬Um W.held c (p.addr:Int)):=by
 obtain⟨o,e1,e2,D,L,K⟩:=FV (h.ga k A hk) (j:Int);rw[dD]at e2;have z:∀x∈Yy A (j:Int),∃q∈W.held,q.k=k/\q.cls=j/\(q.addr:Int)=x/\q.eN=true:=λx d=>by
  have u:=e2 x d;obtain⟨t,ht,i⟩:=u;have r:j<A.tb.length:=by rw[←(h.ga k A hk).lt];exact(cX.1 ht).1
  obtain⟨c,B,J,w,C⟩:=(h.ga k A hk).cl r;have s:fQ A j x:=(Vq w).2 ((h.ga k A hk).l7 j c B t w ht x i);obtain⟨q,a,m,e,b⟩:=h.ht k A hk j x s;obtain⟨_,_,_,_,H⟩:=h.cls a e (by rw[m];exact hk);exact⟨q,a,m,e,b,H.2 (by rw[b];exact⟨t,ht,i⟩)⟩
 have new:∀x∈Yy A (j:Int),∀c,¬Um W.held c x:=λx d c E=>by
  obtain⟨q,a,_,_,b,y⟩:=z x d;have:=(h.um a E b).1;rw[y]at this;cases this
 refine⟨new,D,λc x=>⟨?_,?_⟩,λp g M=>?_⟩
 ·rintro⟨p,g,h1,h2,h3⟩;obtain⟨q,a,rfl⟩:=QL.1 g;by_cases hof:dZ k (j:Int) (Yy A (j:Int)) q=true
  ·rw[zC hof]at h2 h3;obtain⟨_,G,F⟩:=Z3.1 hof;exact .inr ⟨h2.symm.trans G,by rw[←h3];exact F⟩
  ·rw[zB hof]at h1 h2 h3;exact .inl ⟨q,a,h1,h2,h3⟩
 ·rintro(⟨p,g,h1,h2,h3⟩|⟨rfl,d⟩)
  ·refine⟨p,QL.2 ⟨p,g,?_⟩,h1,h2,h3⟩;split
   ·rw[←h1]
   ·rfl
  ·obtain⟨q,a,m,e,b,y⟩:=z x d;refine⟨{q with eN:=false},QL.2 ⟨q,a,?_⟩,rfl,e,b⟩;rw[zC (Z3.2 ⟨m,e,by rw[b];exact d⟩)]
 ·obtain⟨q,a,rfl⟩:=QL.1 g;by_cases hof:dZ k (j:Int) (Yy A (j:Int)) q=true
  ·rw[zC hof];exact .inr (new _ (Z3.1 hof).2.2)
  ·rw[zB hof];exact .inl a
theorem Bf {tb:List bZ}{bX:List AR}{sp:Sp}{held new:List Pc}(h:WI ⟨tb,sp,bX,held++new⟩):∀p∈new,∀c,¬Um held c (p.addr:Int):=by
 rintro p b c ⟨q,d,_,_,g⟩;have e:=h.same (p:=p) (q:=q) (nS _ b) (kr _ d) O;have a:=h.hk;simp only[zy]at a;rw[nC]at a;exact a.2.2 q.key (zE.2 ⟨q,d,rfl⟩) p.key (zE.2 ⟨p,b,rfl⟩) (by rw[e])
theorem EN {held new:List Pc}{cl:Int}{l:List Int}(h1:∀p∈new,p.eN=false/\p.cls=cl/\(p.addr:Int)∈l)(h2:∀x∈l,∃p∈new,(p.addr:Int)=x)(c x:Int):Um (held++new) c x↔Um held c x\/(c=cl/\x∈l):=by
 constructor
 ·rintro⟨p,b,a1,a2,a3⟩;rcases zK.1 b with b|b
  ·exact .inl ⟨p,b,a1,a2,a3⟩
  ·obtain⟨_,d,g⟩:=h1 p b;exact .inr ⟨a2.symm.trans d,by rw[←a3];exact g⟩
 ·rintro(⟨p,b,a⟩|⟨rfl,hx⟩)
  ·exact⟨p,kr _ b,a⟩
  ·obtain⟨p,b,e⟩:=h2 x hx;exact⟨p,nS _ b,(h1 p b).1,(h1 p b).2.1,e⟩
theorem ET {tb:List bZ}{bX:List AR}{sp:Sp}{held new:List Pc}(h:WI ⟨tb,sp,bX,held++new⟩):∀p∈held++new,p.eN=false->p∈held\/∀c,¬Um held c (p.addr:Int):=λp a _=>by
 rcases zK.1 a with a|a
 ·exact .inl a
 ·exact .inr (Bf h p a)
theorem Va {ss:List cF}:∀{i:Nat},Zi ss i=none->∀k,k<i->∀s,ss[k]?=some s->¬s.many<s.tk.length
 | 0,_,k,hk,_,_=>by omega
 | i+1,h,k,hk,s,hs=>by
  unfold Zi at h;by_cases hki:k=i
  ·subst hki;rw[hs]at h;simp only at h;intro hlt;rw[zC hlt]at h;split at h
   ·split at h
    ·split at h<;>cases h
    ·cases h
   ·cases h
  ·cases hi:ss[i]? with
   | none=>
    rw[hi]at h;exact Va h k O s hs
   | some x=>
    rw[hi]at h;simp only at h;split at h
    ·split at h
     ·split at h
      ·split at h<;>cases h
      ·cases h
     ·exact Va (by assumption) k O s hs
    ·exact Va h k O s hs
theorem Ov (h:GA A)(hw:Ow A sp){j:Nat}(hE:KT A sp (j:Int)=0){w:Nat}(h1:1<=w):Yj (cL A sp (j:Int)).1 (j:Int) (w:Int)≠[]:=by
 rcases De h hw (j:Int)with⟨_,hn,_⟩|⟨j',c,ss,x,A1,sp1,hj,hk,hk1,_,e,hst,r1,r2,r3,_,hd,hS⟩
 ·exact(hn hE).elim
 ·obtain rfl:j=j':=by omega
  have a:Cl (cL A sp (j:Int)).1 j c (ij c ss x):=by
   rw[e];have d:Cl (dR A1 x c.aF (j+1)) j c ss:=hk1;exact U2 d _
  have E:=hS.ga.cE j c _ a;have b:(⟨x,List.replicate c.n false⟩:cF)∈ij c ss x:=Vy.2 (.inl rfl);have g:(cL A sp (j:Int)).1.ck (j:Int)=true:=Hk.2 ⟨j,rfl,a.lt⟩;unfold Yj QC Vt;rw[g,zC rfl,zB (show ¬((w:Int)<0) by omega),zC rfl,dD,dD,a.1,a.2];simp only;obtain⟨w,rfl⟩:∃v,w=v+1:=⟨w-1,O⟩;cases ho:iY c (ij c ss x)with
  | some r=>
   obtain⟨y,D⟩:=r;rw[HR ho];simp
  | none=>
   exfalso;unfold iY iK at ho;obtain⟨l,z⟩:=zQ b;have m:=(cX.1 z).1;have u:(⟨x,List.replicate c.n false⟩:cF).many<(⟨x,List.replicate c.n false⟩:cF).tk.length:=by
    have:=E.ok.rU;simp[cF.many,yN];omega
   cases hb:Zi (ij c ss x) (ij c ss x).length with
   | none=>exact Va hb l m _ z u
   | some i=>
    rw[hb]at ho;obtain⟨_,s,C,p⟩:=QR hb;obtain⟨r,B,_⟩:=GT p;simp only[C,B]at ho;cases ho
end Go.Ar
namespace Go.Ar
open Go.Vc (bU dA cR)
variable {H:Hw}{held:List Pc}{s0:Sp}{t k:Nat}{g:Th}{A:AR}{c:bZ}
theorem Z4 {p:Ph}{H1:Hw}{g1:Th}{nx:Option Ph}{a e:Int}(ht:t<H.bQ.length)(hs:Wt H t p=({H1 with bQ:=H.bQ.set t g1},nx,a,e)):QE H t p = {H1 with bQ:=H.bQ.set t {g1 with ph:=nx}}:=by
 unfold QE;rw[hs];show Hw.dV _ t _=_;rw[Zz (g:=g1) (by simp[ht])];simp only[nH]
structure iA (H:Hw) (t:Nat) (p:Ph):Prop where
 ok:uL H t p
 hi:∃held s0,HI (QE H t p) held s0
 ks:KS H.sp (QE H t p).sp
theorem iA.mk' {p:Ph}(hg:H.bQ[t]?=some g)(hl:g.bP.length<=41)(h1:uS H t p){H':Hw}{held':List Pc}{s0':Sp}(e:QE H t p=H')(h2:HI H' held' s0')(h3:KS H.sp H'.sp):iA H t p:=
 ⟨⟨h1,λb a=>by rw[hg]at a;cases a;omega⟩,⟨held',s0',by rw[e];exact h2⟩,by rw[e];exact h3⟩
def Rq (tb:List bZ)(g:Th):Ph->Int->Int->Prop
 | .take k,cl,sz=>cl=k/\∃c,tb[k]?=some c/\sz=c.size
 | .cI k _,cl,sz=>cl=k/\∃c,tb[k]?=some c/\sz=c.size
 | .cJ k _,cl,sz=>cl=k/\∃c,tb[k]?=some c/\sz=c.size
 | .grow k _,cl,sz=>cl=k/\∃c,tb[k]?=some c/\sz=c.size
 | .fill,cl,sz=>∃k xs r c,g.bP=(k,xs)::r/\cl=k/\tb[k]?=some c/\sz=c.size
 | .eJ m,cl,sz=>cl = -1/\sz=((m*256:Nat):Int)
 | _,_,_=>False
def oB (H:Hw)(t:Nat):Ph->Nat
 | .take _=>5
 | .cI _ _=>4
 | .cJ k w=>if Yj (H.eD t) (k:Int) (w:Int)=[]then 3 else 1
 | .grow _ _=>2
 | _=>0
def sQ (H:Hw)(t:Nat)(p:Ph)(cl sz:Int):Prop:=
 (∃p' g',(Wt H t p).2.1=some p'/\(QE H t p).live=H.live/\(QE H t p).bQ[t]?=some g'/\Rq H.tb g' p' cl sz/\oB (QE H t p) t p'<oB H t p) ∨
 ((Wt H t p).2.1=none/\(Wt H t p).2.2.2≠0/\(Wt H t p).2.2.1=0/\(QE H t p).live=H.live) ∨
 ((Wt H t p).2.1=none/\(Wt H t p).2.2.2=0/\bU H.live (Wt H t p).2.2.1=none/\(QE H t p).live=dA H.live (Wt H t p).2.2.1 ((Wt H t p).2.2.1,sz,cl,XU (QE H t p).bX (Wt H t p).2.2.1))
theorem HI.mem (h:HI H held s0)(hg:H.bQ[t]?=some g):g∈H.bQ:=zG hg
theorem HI.jN (h:HI H held s0)(t:Nat):H.own t<H.bX.length:=uP _ (by have:=h.a1;omega)
theorem HI.eD (h:HI H held s0)(t:Nat):H.bX[H.own t]?=some (H.eD t):=by
 have a:=cU (h.jN t);rw[Bh a];exact a
theorem HI.qG (h:HI H held s0):H.tb.length<=40:=by
 have a:=h.eD 0;have:=(h.wi.ga _ _ a).tb;rw[h.wi.tb _ _ a]at this;exact this
theorem HI.cls (h:HI H held s0)(hk:k<H.tb.length):∃c,H.tb[k]?=some c/\c.ok:=⟨H.tb[k],cU hk,h.ok _ (zp hk)⟩
theorem tZ.li {m:Nat}(h:tZ m g)(hk:k<m):∃l,g.ls[k]?=some l/\g.li k=l/\fN l/\l.os.length<=128:=by
 have a:=cU (l:=g.ls) (i:=k) (by rw[h.ll];exact hk);have:=h.lo _ (zp (by rw[h.ll];exact hk));exact⟨_,a,yq a,this.1,this.2⟩
theorem tZ.gT {m:Nat}(h:tZ m g){l':Li}(h1:fN l')(h2:l'.os.length<=128):(g.ls.set k l').length=m/\∀l∈g.ls.set k l',fN l/\l.os.length<=128:=by
 refine⟨by rw[ns];exact h.ll,λl a=>?_⟩;rcases yY a with a|rfl
 ·exact h.lo l a
 ·exact⟨h1,h2⟩
theorem Mi {ls:List Li}{l':Li}{hs:List Bt}{ph:Option Ph}(hk:k<ls.length):(⟨ls.set k l',hs,ph⟩:Th).li k=l':=by
 unfold Th.li;rw[D5 l' k hk,zC rfl]
theorem HI.wI (h:HI H held s0){y:Int}(hu:Um held (k:Int) y)(hc:H.tb[k]?=some c):Lv held (y,(y,(c.size:Int),(k:Int),XU H.bX y)):=by
 obtain⟨p,d,j,g,rfl⟩:=hu;obtain⟨A,e,_⟩:=h.wi.hf p d;obtain⟨c',b,i,_⟩:=h.wi.cls d g e;rw[h.wi.tb _ _ e]at b;have a:H.tb[k]?=some c':=b;rw[hc]at a;cases a;exact⟨rfl,p,d,j,g,rfl,by rw[i],by rw[h.pc d]⟩
theorem G2 {ls:List Li}{l:Li}(hl:ls[k]?=some l)(l':Li)(k' x:Int):lK (ls.set k l') k' x+(if(k:Int)=k' then l.os.count x else 0)=lK ls k' x+(if(k:Int)=k' then l'.os.count x else 0):=by
 have:=J7 l' (cX.1 hl).1 k' x;rw[zP,hl]at this;exact this
theorem Ru {ls:List Li}{l:Li}(hl:ls[k]?=some l)(x:Int):lK ls (k:Int) x=l.os.count x:=by
 rw[G8,zP,hl];rfl
theorem LZ (h:HI H held s0)(hg:H.bQ[t]?=some g)(hph:g.ph=some (.take k)){cl sz:Int}(hr:Rq H.tb g (.take k) cl sz):iA H t (.take k)/\sQ H t (.take k) cl sz:=by
 have J:=(cX.1 hg).1;have b:=h.th g (h.mem hg);obtain⟨Q,z⟩:g.bP=[]/\k<H.tb.length:=by have:=b.ph;unfold ir at this;rw[hph]at this;exact this
 obtain⟨rfl,c,m,rfl⟩:=hr;have p:=h.ok c (zG m);obtain⟨l,hl,i,M,R⟩:=b.li z;have d:=FL p M;have j:=Gw hg;cases hT:Kh c l with
 | mk o l'=>
  rw[hT]at d;cases o with
  | some y=>
   have A:Wt H t (.take k)=({{H with live:=dA H.live y (y,(c.size:Int),(k:Int),XU H.bX y)}with bQ:=H.bQ.set t {g with ls:=g.ls.set k l'}},none,y,0):=by
    simp only[Wt,j,Ud m,i,hT,VE,Zz hg,Th.gT]
   have e:=Z4 J A;have r:1<=gM g (k:Int) y:=by
    have:=E6 hT y;rw[Ay]at this;unfold gM;rw[Ru hl];omega
   have P:=h.qE (h.mem hg) r;have L:=h.lM (h.mem hg) r;have B:l'.os.length<=128:=by
    have:l'.os.length<=l.os.length:=by
     unfold Kh at hT;split at hT
     ·cases hT
     ·cases hT;simp
    omega
   obtain⟨ll,F⟩:=b.gT (k:=k) d B;have G:=h.kj hg (g':={g with ls:=g.ls.set k l',ph:=none}) (live':=dA H.live y (y,(c.size:Int),(k:Int),XU H.bX y)) (λD x=>by
    rw[CP _ L];have E:=G2 hl l' D x;have W:=E6 hT x;unfold gM;rw[hph];simp only[jD];by_cases hkk:(k:Int)=D
    ·simp only[hkk,zS]at E ⊢;omega
    ·simp only[hkk,j8]at E ⊢;omega)
    (Go.Vc.gY h.lk) (λV C=>by
     rcases(GN L).1 C with C|rfl
     ·exact .inl C
     ·exact .inr (h.wI P m))
    (λs a K=>by cases K) ⟨ll,F,b.hb,b.hl,by unfold ir;exact Q⟩
   refine⟨iA.mk' hg b.hl ⟨z,λU N w=>?_⟩ e G (KS.refl _),.inr (.inr ?_)⟩
   ·rw[j,i,Ud m,hT]at w;cases w;exact(h.i63 P).1
   ·rw[e,A];exact⟨rfl,rfl,L,rfl⟩
  | none=>
   have A:Wt H t (.take k)=({H with bQ:=H.bQ.set t {g with ls:=g.ls.set k l'}},some (.cI k (oM c l')),0,0):=by
    simp only[Wt,j,Ud m,i,hT,Zz hg,Th.gT]
   have e:=Z4 J A;obtain⟨o1,o2⟩:=Lj hT;obtain⟨ll,F⟩:=b.gT (k:=k) d (by rw[o2];simp);have u:=d.nN;have S:1<=oM c l'/\oM c l'<=32:=by
    unfold bZ.ok at p;unfold oM;simp only at u;omega
   have G:=h.kj hg (g':={g with ls:=g.ls.set k l',ph:=some (.cI k (oM c l'))}) (live':=H.live) (λD x=>by
    have E:=G2 hl l' D x;rw[o1,o2]at E;unfold gM;rw[hph];simp only[jD];omega) h.lk (λV C=>.inl C) (λs a K=>by cases K) ⟨ll,F,b.hb,b.hl,by
     unfold ir;exact⟨Q,z,by rw[Mi (by rw[b.ll];exact z)];exact o2,S⟩⟩
   refine⟨iA.mk' hg b.hl ⟨z,λU N w=>?_⟩ e G (KS.refl _),.inl ?_⟩
   ·rw[j,i,Ud m,hT]at w;cases w
   ·rw[e,A];exact⟨_,_,rfl,rfl,zM J,⟨rfl,c,m,rfl⟩,by simp[oB]⟩
theorem Gp (h:GA A)(h0:Z6 A (k:Int)=0)(hc:A.tb[k]?=some c):∃x xs,Yy A (k:Int)=x::xs/\xs.length+1=c.batch:=by
 have b:Yy A (k:Int)=(match A.cM[k]? with
  | some t=>t.bs.getLast?.getD []
  | none=>[]):=by unfold Yy;rw[zC h0,dD];rfl
 unfold Z6 at h0;rw[dD]at h0;split at h0
 ·split at h0
  ·rename_i t ht;split at h0
   ·cases h0
   ·rename_i hb;rw[ht]at b;simp only at b;have j:t.bs.getLast?=some (t.bs.getLast hb):=List.getLast?_eq_some_getLast hb;rw[j]at b;simp only[pZ]at b;have:=h.oW k c t hc ht _ (List.getLast_mem hb);rw[←b]at this;have m:=h.cE;cases hx:Yy A (k:Int)with
    | nil=>
     rw[hx]at this;have d:k<A.tb.length:=(cX.1 hc).1;obtain⟨g,i,_,a,_⟩:=h.cl d;have e:g=c:=Option.some.inj (a.1.symm.trans hc);have:=(h.cE k g i a).ok;unfold bZ.ok at this;simp at *;subst e;omega
    | cons x xs=>exact⟨x,xs,rfl,by rw[hx]at this;simpa using this⟩
  ·cases h0
 ·cases h0
theorem Oh (h:HI H held s0)(hg:H.bQ[t]?=some g){w:Nat}(hph:g.ph=some (.cI k w)){cl sz:Int}(hr:Rq H.tb g (.cI k w) cl sz):iA H t (.cI k w)/\sQ H t (.cI k w) cl sz:=by
 have B:=(cX.1 hg).1;have d:=h.th g (h.mem hg);obtain⟨J,C,u,N⟩:g.bP=[]/\k<H.tb.length/\(g.li k).os=[]/\1<=w/\w<=32:=by have:=d.ph;unfold ir at this;rw[hph]at this;exact this
 obtain⟨rfl,c,i,rfl⟩:=hr;have F:=h.ok c (zG i);have z:=F;unfold bZ.ok at z;have D:=h.eD t;have ga:=h.wi.ga _ _ D;have p:(H.eD t).tb[k]?=some c:=by rw[h.wi.tb _ _ D];exact i
 have M:uS H t (.cI k w):=⟨C,λA=>by
  obtain⟨x,m,e,_⟩:=Gp ga A p;rw[e];simp⟩
 by_cases hcase:w=c.batch/\Z6 (H.eD t) (k:Int)=0
 ·obtain⟨rfl,A⟩:=hcase;obtain⟨x,m,L,U⟩:=Gp ga A p;have r:Wt H t (.cI k c.batch)=({H.cD (H.own t) (ZG (H.eD t) (k:Int))with bQ:=H.bQ.set t {g with bP:=[(k,x::m)]}},some .fill,0,0):=by
   simp only[Wt,Ud i,zS,A,QO,L];rw[Zz (g:=g) (by exact hg),J];rfl
  have e:=Z4 (H1:=H.cD (H.own t) (ZG (H.eD t) (k:Int))) B r;obtain⟨R,V,W,Q⟩:=PL h.wi D (j:=k);have wi:=h.wi.wO D (k:Int);have E:=h.fo hg (g':={g with bP:=[(k,x::m)],ph:=some .fill}) (live':=H.live) wi h.mY rfl (by simp[Wd.put]) Q (λP y=>by
   rw[BG V (λy S=>R y S _) W,L];unfold gM;rw[hph,J];simp only[jD,KN,VC];omega) h.lk (λX K=>.inl K) (λs a G=>by cases G) ⟨d.ll,d.lo,λb hb=>by
    simp only[zL]at hb;subst hb;exact⟨C,by simp,by simp;omega⟩,by simp,by
    unfold ir;exact⟨k,x,m,rfl,C,u,O⟩⟩
  refine⟨iA.mk' hg d.hl M e E (KS.refl _),.inl ?_⟩;rw[e,r];exact⟨_,_,rfl,rfl,zM B,⟨k,x::m,[],c,rfl,rfl,i,rfl⟩,by simp[oB]⟩
 ·have r:Wt H t (.cI k w)=({H with bQ:=H.bQ.set t g},some (.cJ k w),0,0):=by
   have:H.bQ.set t g=H.bQ:=Qh hg;rw[this];simp only[Wt,Ud i];split
   ·split
    ·exact(hcase ⟨by assumption,by assumption⟩).elim
    ·rfl
   ·rfl
  have e:=Z4 B r;have E:=h.kj hg (g':={g with ph:=some (.cJ k w)}) (live':=H.live) (λP x=>by
   unfold gM;rw[hph];simp only[jD]) h.lk (λX K=>.inl K) (λs a G=>by cases G) ⟨d.ll,d.lo,d.hb,d.hl,by
    unfold ir;exact⟨J,C,u,N⟩⟩
  refine⟨iA.mk' hg d.hl M e E (KS.refl _),.inl ?_⟩;rw[e,r];refine⟨_,_,rfl,rfl,zM B,⟨rfl,c,i,rfl⟩,?_⟩;simp only[oB];split<;>omega
theorem I4 (h:GA A)(j w:Nat):(Yj A (j:Int) (w:Int)).length<=w:=by
 unfold Yj;split
 ·rename_i h0;have b:A.ck (j:Int)=true:=by
   unfold QC at h0;split at h0
   ·assumption
   ·cases h0
  obtain⟨i,g,e⟩:=Hk.1 b;obtain⟨c,d,t,a,m⟩:=h.cl e;have:i=j:=by omega
  subst this;unfold Vt;rw[dD,dD,a.1,a.2];exact(HZ w (h.cE i c d a)).2.2.1
 ·simp
theorem Mm (H:Hw)(t:Nat)(B:AR)(h:H.own t<H.bX.length)(sp:Sp)(bQ:List Th):Hw.eD {H.cD (H.own t) B with sp:=sp,bQ:=bQ} t=B:=by
 refine Bh ?_;have:Hw.own {H.cD (H.own t) B with sp:=sp,bQ:=bQ} t=H.own t:=by unfold Hw.own Hw.cD;simp
 rw[this];simp[Hw.cD,h]
theorem N3 (h:HI H held s0)(hg:H.bQ[t]?=some g){w:Nat}(hph:g.ph=some (.cJ k w)){cl sz:Int}(hr:Rq H.tb g (.cJ k w) cl sz):iA H t (.cJ k w)/\sQ H t (.cJ k w) cl sz:=by
 have C:=(cX.1 hg).1;have d:=h.th g (h.mem hg);obtain⟨F,G,B,N⟩:g.bP=[]/\k<H.tb.length/\(g.li k).os=[]/\1<=w/\w<=32:=by have:=d.ph;unfold ir at this;rw[hph]at this;exact this
 obtain⟨rfl,c,K,rfl⟩:=hr;have L:=h.eD t;have ga:=h.wi.ga _ _ L;have wi:=h.wi.from L (k:Int) (w:Int);have i:=I4 ga k w;have r:=(I0 ga (k:Int) (w:Int)).2.2.1;cases hv:Yj (H.eD t) (k:Int) (w:Int)with
 | nil=>
  have A:Wt H t (.cJ k w)=({H.cD (H.own t) (YA (H.eD t) (k:Int) (w:Int))with bQ:=H.bQ.set t g},some (.grow k w),0,0):=by
   have:H.bQ.set t g=H.bQ:=Qh hg;rw[this];simp only[Wt,hv,zS,Hw.cD]
  have e:=Z4 (H1:=H.cD (H.own t) (YA (H.eD t) (k:Int) (w:Int))) C A;rw[hv]at wi;simp only[pX,kI]at wi;have D:=h.fo hg (g':={g with ph:=some (.grow k w)}) (live':=H.live) wi h.mY rfl (by simp[Wd.put]) (λp j _=>.inl j) (λP y=>by
   unfold gM;rw[hph];simp only[jD]) h.lk (λS J=>.inl J) (λs a j=>by cases j) ⟨d.ll,d.lo,d.hb,d.hl,by
    unfold ir;exact⟨F,G,B,N⟩⟩
  refine⟨iA.mk' hg d.hl trivial e D (KS.refl _),.inl ?_⟩;rw[e,A];exact⟨_,_,rfl,rfl,zM C,⟨rfl,c,K,rfl⟩,by simp[oB,hv]⟩
 | cons v vs=>
  have A:Wt H t (.cJ k w)=({H.cD (H.own t) (YA (H.eD t) (k:Int) (w:Int))with bQ:=H.bQ.set t {g with bP:=[(k,(v::vs).map λ(x:Nat)=>(x:Int))]}},some .fill,0,0):=by
   simp only[Wt,hv,QO];rw[zB aA,Zz (g:=g) (by exact hg),F];rfl
  have e:=Z4 (H1:=H.cD (H.own t) (YA (H.eD t) (k:Int) (w:Int))) C A;rw[hv]at wi i r;have m:((v::vs).map λ(x:Nat)=>(x:Int)).Nodup:=List.Pairwise.map (R:=(· ≠ ·)) _ (λa b E e=>E O) r;have app:=EN (held:=held) (new:=(v::vs).map λy=>(⟨H.own t,(k:Int),y,oU H.tb (k:Int),false⟩:Pc)) (cl:=(k:Int)) (l:=(v::vs).map λ(x:Nat)=>(x:Int)) (λp j=>by
   obtain⟨y,u,rfl⟩:=zE.1 j;exact⟨rfl,rfl,zE.2 ⟨y,u,rfl⟩⟩) λx Q=>by
   obtain⟨y,u,rfl⟩:=zE.1 Q;exact⟨_,zE.2 ⟨y,u,rfl⟩,rfl⟩
  have new:=Bf wi;have D:=h.fo hg (g':={g with bP:=[(k,(v::vs).map λ(x:Nat)=>(x:Int))],ph:=some .fill}) (live':=H.live) wi h.mY rfl (by simp[Wd.put]) (ET wi) (λP y=>by
   rw[BG m (λy u=>by
    obtain⟨z,M,rfl⟩:=zE.1 u;exact new ⟨H.own t,(k:Int),z,oU H.tb (k:Int),false⟩ (zE.2 ⟨z,M,rfl⟩) _) app]
   unfold gM;rw[hph,F];simp only[jD,KN,VC];omega) h.lk (λS J=>.inl J) (λs a j=>by cases j) ⟨d.ll,d.lo,λb hb=>by
    simp only[zL]at hb;subst hb;exact⟨G,by simp,by simp at i ⊢;omega⟩,by simp,by
    unfold ir;exact⟨k,(v:Int),vs.map λ(x:Nat)=>(x:Int),rfl,G,B,by simp at i ⊢;omega⟩⟩
  refine⟨iA.mk' hg d.hl trivial e D (KS.refl _),.inl ?_⟩;rw[e,A];refine⟨_,_,rfl,rfl,zM C,⟨k,_,[],c,rfl,rfl,K,rfl⟩,?_⟩;simp[oB,hv]
theorem SS (h:HI H held s0)(hg:H.bQ[t]?=some g){w:Nat}(hph:g.ph=some (.grow k w)){cl sz:Int}(hr:Rq H.tb g (.grow k w) cl sz):iA H t (.grow k w)/\sQ H t (.grow k w) cl sz:=by
 have z:=(cX.1 hg).1;have b:=h.th g (h.mem hg);obtain⟨C,F,A,E⟩:g.bP=[]/\k<H.tb.length/\(g.li k).os=[]/\1<=w/\w<=32:=by have:=b.ph;unfold ir at this;rw[hph]at this;exact this
 obtain⟨rfl,c,G,rfl⟩:=hr;have B:=h.eD t;have ga:=h.wi.ga _ _ B;obtain⟨e1,e2,D,r⟩:=h.mY.cL (H.eD t) (k:Int);have wi:=h.wi.grow B (k:Int);by_cases h0:KT (H.eD t) H.sp (k:Int)=0
 ·have m:Wt H t (.grow k w)=({{H.cD (H.own t) (cL (H.eD t) H.sp (k:Int)).1 with sp:=(cL (H.eD t) H.sp (k:Int)).2}with bQ:=H.bQ.set t g},some (.cJ k w),0,0):=by
   have:H.bQ.set t g=H.bQ:=Qh hg;rw[this];simp only[Wt,h0,zS,Hw.cD]
  have e:=Z4 (H1:={H.cD (H.own t) (cL (H.eD t) H.sp (k:Int)).1 with sp:=(cL (H.eD t) H.sp (k:Int)).2}) z m;have d:=Ov ga (h.wi.ow _ _ B) (j:=k) (by rw[←e2];exact h0) E.1;rw[show(Wd.mk H.tb s0 H.bX held).sp=s0 from rfl,←e1]at d;rw[show(Wd.mk H.tb s0 H.bX held).sp=s0 from rfl,←e1]at wi;have x:=h.fo hg (g':={g with ph:=some (.cJ k w)}) (live':=H.live) wi D r.l (by simp[Wd.put]) (λp i _=>.inl i) (λJ y=>by
   unfold gM;rw[hph];simp only[jD]) h.lk (λK u=>.inl u) (λs a i=>by cases i) ⟨b.ll,b.lo,b.hb,b.hl,by
    unfold ir;exact⟨C,F,A,E⟩⟩
  refine⟨iA.mk' hg b.hl trivial e x r,.inl ?_⟩;rw[e,m];refine⟨_,_,rfl,rfl,zM z,⟨rfl,c,G,rfl⟩,?_⟩;have:=Mm H t (cL (H.eD t) H.sp (k:Int)).1 (h.jN t) (cL (H.eD t) H.sp (k:Int)).2 (H.bQ.set t {g with ph:=some (.cJ k w)});simp only[oB];rw[this,zB d];omega
 ·have m:Wt H t (.grow k w)=({{H.cD (H.own t) (cL (H.eD t) H.sp (k:Int)).1 with sp:=(cL (H.eD t) H.sp (k:Int)).2}with bQ:=H.bQ.set t g},none,0,KT (H.eD t) H.sp (k:Int)):=by
   have:H.bQ.set t g=H.bQ:=Qh hg;rw[this];simp only[Wt,h0,j8,Hw.cD]
  have e:=Z4 (H1:={H.cD (H.own t) (cL (H.eD t) H.sp (k:Int)).1 with sp:=(cL (H.eD t) H.sp (k:Int)).2}) z m;rw[show(Wd.mk H.tb s0 H.bX held).sp=s0 from rfl,←e1]at wi;have x:=h.fo hg (g':={g with ph:=none}) (live':=H.live) wi D r.l (by simp[Wd.put]) (λp i _=>.inl i) (λJ y=>by
   unfold gM;rw[hph];simp only[jD]) h.lk (λK u=>.inl u) (λs a i=>by cases i) ⟨b.ll,b.lo,b.hb,b.hl,by
    unfold ir;exact C⟩
  refine⟨iA.mk' hg b.hl trivial e x r,.inr (.inl ?_)⟩;rw[e,m];exact⟨rfl,h0,rfl,rfl⟩
theorem Nd (h:HI H held s0)(hg:H.bQ[t]?=some g)(hph:g.ph=some .fill){cl sz:Int}(hr:Rq H.tb g .fill cl sz):iA H t .fill/\sQ H t .fill cl sz:=by
 have Q:=(cX.1 hg).1;have d:=h.th g (h.mem hg);obtain⟨k,x,xs,z,J,j,U⟩:∃k x xs,g.bP=[(k,x::xs)]/\k<H.tb.length/\(g.li k).os=[]/\xs.length<=128:=by have:=d.ph;unfold ir at this;rw[hph]at this;exact this
 obtain⟨k',W,r,c,A,rfl,G,rfl⟩:=hr;rw[z]at A;obtain⟨i, -⟩:=List.cons.inj A;obtain rfl:k=k':=congrArg Prod.fst i;obtain⟨l,hl,p,D,L⟩:=d.li J;have u:=Gw hg;rw[p]at j;have m:(eC xs.reverse l).os=xs.reverse:=by unfold eC;rw[j,zB aE];simp
 have K:Wt H t .fill=({{H with live:=dA H.live x (x,(c.size:Int),(k:Int),XU H.bX x)}with bQ:=H.bQ.set t {ls:=g.ls.set k (eC xs.reverse l),bP:=[],ph:=g.ph}},none,x,0):=by
  simp only[Wt,u,z,Ud G,VE,Zz hg,p]
 have e:=Z4 Q K;have w:1<=gM g (k:Int) x:=by
  unfold gM;rw[z,KN,zC rfl];have:1<=(x::xs).count x:=AG.2 aA;simp only;omega
 have F:=h.qE (h.mem hg) w;have C:=h.lM (h.mem hg) w;obtain⟨M,N⟩:=d.gT (k:=k) (yv (xs:=xs.reverse) D) (by rw[m];simp;omega);have P:=h.kj hg (g':={ls:=g.ls.set k (eC xs.reverse l),bP:=[],ph:=none}) (live':=dA H.live x (x,(c.size:Int),(k:Int),XU H.bX x)) (λk' y=>by
  rw[CP _ C];have B:=G2 hl (eC xs.reverse l) k' y;rw[j,m,List.count_reverse,List.count_nil]at B;have V:(x::xs).count y=[x].count y+xs.count y:=vH (l₁:=[x]) (l₂:=xs);unfold gM;rw[hph,z];simp only[jD,KN,VC];by_cases i:(k:Int)=k'
  ·simp only[i,zS]at B ⊢;omega
  ·simp only[i,j8]at B ⊢;omega)
  (Go.Vc.gY h.lk) (λX E=>by
   rcases(GN C).1 E with E|rfl
   ·exact .inl E
   ·exact .inr (h.wI F G))
  (λs a S=>by cases S) ⟨M,N,λb R=>by simp at R,by simp,by unfold ir;rfl⟩
 refine⟨iA.mk' hg d.hl ⟨k,x,xs,[],by rw[u];exact z,J,(h.i63 F).1,by rw[u,p,j];simp;omega⟩ e P (KS.refl _),.inr (.inr ?_)⟩;rw[e,K];exact⟨rfl,rfl,C,rfl⟩
theorem RB (h:HI H held s0)(hg:H.bQ[t]?=some g){m:Nat}(hph:g.ph=some (.eJ m)){cl sz:Int}(hr:Rq H.tb g (.eJ m) cl sz):iA H t (.eJ m)/\sQ H t (.eJ m) cl sz:=by
 have L:=(cX.1 hg).1;have b:=h.th g (h.mem hg);obtain⟨M,U,S⟩:g.bP=[]/\1<=m/\m<=64:=by have:=b.ph;unfold ir at this;rw[hph]at this;exact this
 obtain⟨rfl,rfl⟩:=hr;have P:=h.eD t;have ga:=h.wi.ga _ _ P;obtain⟨e1,e2,R,K,C⟩:=h.mY.cA (H.eD t) (m:Int) 1;have wi:=h.wi.vU P (m:Int) 1;rw[show(Wd.mk H.tb s0 H.bX held).sp=s0 from rfl,←e1,←e2,←R]at wi;by_cases h0:Qx (H.eD t) H.sp (m:Int) 1=0
 ·rw[zC h0]at wi;have j:=Bf wi;have z:=EN (held:=held) (new:=[(⟨H.own t, -1,Z5 (H.eD t) H.sp (m:Int) 1*256,(m:Int).toNat*256,false⟩:Pc)]) (cl:=-1) (l:=[((Z5 (H.eD t) H.sp (m:Int) 1*256:Nat):Int)]) (λp d=>by
   simp only[zL]at d;subst d;exact⟨rfl,rfl,by simp⟩) λx D=>by
   simp only[zL]at D;subst D;exact⟨_,zL.2 rfl,rfl⟩
  have i:(⟨H.own t, -1,Z5 (H.eD t) H.sp (m:Int) 1*256,(m:Int).toNat*256,false⟩:Pc)∈held++[(⟨H.own t, -1,Z5 (H.eD t) H.sp (m:Int) 1*256,(m:Int).toNat*256,false⟩:Pc)]:=by simp
  have F:=wi.size_pos i;have u:=wi.jI i;have E:=wi.owner i (x:=Z5 (H.eD t) H.sp (m:Int) 1*256) (zD _) (by simp only at F ⊢;omega);generalize B:Z5 (H.eD t) H.sp (m:Int) 1=V at *;have r:bU H.live ((V*256:Nat):Int)=none:=h.sZ λJ Q=>j _ (zL.2 rfl) J Q;have w:Wt H t (.eJ m)=({{H.cD (H.own t) (cA (H.eD t) H.sp (m:Int) 1).1 with sp:=(cA (H.eD t) H.sp (m:Int) 1).2,live:=dA H.live ((V*256:Nat):Int) (((V*256:Nat):Int),((m*256:Nat):Int), -1,XU (H.bX.set (H.own t) (cA (H.eD t) H.sp (m:Int) 1).1) ((V*256:Nat):Int))}with bQ:=H.bQ.set t g},none,((V*256:Nat):Int),0):=by
   have:H.bQ.set t g=H.bQ:=Qh hg;rw[this];simp only[Wt,h0,zS,Hw.cD,VE,B]
  have e:=Z4 (H1:={H.cD (H.own t) (cA (H.eD t) H.sp (m:Int) 1).1 with sp:=(cA (H.eD t) H.sp (m:Int) 1).2,live:=dA H.live ((V*256:Nat):Int) (((V*256:Nat):Int),((m*256:Nat):Int), -1,XU (H.bX.set (H.own t) (cA (H.eD t) H.sp (m:Int) 1).1) ((V*256:Nat):Int))}) L w;have G:=h.fo hg (g':={g with ph:=none}) (live':=dA H.live ((V*256:Nat):Int) (((V*256:Nat):Int),((m*256:Nat):Int), -1,XU (H.bX.set (H.own t) (cA (H.eD t) H.sp (m:Int) 1).1) ((V*256:Nat):Int))) wi K C.l (by simp[Wd.put]) (ET wi) (λJ y=>by
   rw[CP _ r,BG (l:=[((V*256:Nat):Int)]) (cl:=-1) aA (λy N=>by
    simp only[zL]at N;subst N;exact j _ (zL.2 rfl) _) z]
   unfold gM;rw[hph];simp only[jD];omega) (Go.Vc.gY h.lk) (λW A=>by
    rcases(GN r).1 A with A|rfl
    ·exact .inl A
    ·refine .inr ⟨rfl,_,i,rfl,rfl,rfl,?_,?_⟩
     ·simp
     ·exact E) (λs a d=>by cases d) ⟨b.ll,b.lo,b.hb,b.hl,by
    unfold ir;exact M⟩
  refine⟨iA.mk' hg b.hl ?_ e G C,.inr (.inr ?_)⟩
  ·show Z5 (H.eD t) H.sp (m:Int) 1<=1000000;rw[B];simp only at u;omega
  ·rw[e,w];exact⟨rfl,rfl,r,rfl⟩
 ·rw[zB h0]at wi;have B:Z5 (H.eD t) H.sp (m:Int) 1=0:=by
   unfold Qx at h0;unfold Z5;split
   ·rename_i d;rw[d,zC rfl]at h0;split at h0
    ·exact(h0 rfl).elim
    ·rename_i hn;cases D:(cZ (H.eD t) H.sp (m:Int).toNat (1:Int).toNat 41).1 with
     | none=>rfl
     | some y=>rw[D]at hn;simp at hn
   ·rfl
  have w:Wt H t (.eJ m)=({{H.cD (H.own t) (cA (H.eD t) H.sp (m:Int) 1).1 with sp:=(cA (H.eD t) H.sp (m:Int) 1).2}with bQ:=H.bQ.set t g},none,0,Qx (H.eD t) H.sp (m:Int) 1):=by
   have:H.bQ.set t g=H.bQ:=Qh hg;rw[this];simp only[Wt,h0,j8,Hw.cD]
  have e:=Z4 (H1:={H.cD (H.own t) (cA (H.eD t) H.sp (m:Int) 1).1 with sp:=(cA (H.eD t) H.sp (m:Int) 1).2}) L w;have G:=h.fo hg (g':={g with ph:=none}) (live':=H.live) wi K C.l (by simp[Wd.put]) (λp d _=>.inl d) (λJ y=>by
   unfold gM;rw[hph];simp only[jD]) h.lk (λW A=>.inl A) (λs a d=>by cases d) ⟨b.ll,b.lo,b.hb,b.hl,by
    unfold ir;exact M⟩
  refine⟨iA.mk' hg b.hl ?_ e G C,.inr (.inl ?_)⟩
  ·show Z5 (H.eD t) H.sp (m:Int) 1<=1000000;rw[B];omega
  ·rw[e,w];exact⟨rfl,h0,rfl,rfl⟩
theorem M3 {W:Wd}(h:WI W)(hk:W.bX[k]?=some A){j:Nat}{l:List Int}(hl:∀x∈l,∃p∈W.held,lQ k (j:Int) x p=true)(hn:l.Nodup)(hj:j<W.tb.length):QU A (j:Int) l=0/\WI (W.put k (ZC A (j:Int) l) W.sp (W.held.filter λp=>!dZ k (j:Int) l p)):=by
 have ga:=h.ga k A hk;have g:jk W.held k (j:Int) l=true:=KG.2 ⟨hl,hn⟩;obtain⟨c,w,_,e,_⟩:=ga.cl (k:=j) (by rw[h.tb k A hk];exact hj);have d:QU A (j:Int) l=0:=by
  rw[Gi ga e];refine Is ⟨λx u=>?_,hn⟩;obtain⟨p,m,b⟩:=hl x u;obtain⟨r,i,s,y⟩:=KK.1 b;obtain⟨_,_,_,a,_⟩:=h.cls m i (by rw[r];exact hk);rw[s]at a;exact(Vq e).1 a
 refine⟨d,?_⟩;have:=h.Ng hk g;rw[zC d,h.yT g]at this;exact this
theorem Fx {xs:List Int}{tb:List bZ}{ars0:List AR}(hH:H.tb=tb)(h:WI ⟨tb,s0,H.bX,held⟩)(hk:k<tb.length)(hxs:∀x∈xs,Um held (k:Int) x)(hn:xs.Nodup)(ha:∀p∈held,XU ars0 (p.addr:Int)=(p.k:Int)):∀j,j<=H.bX.length →
 ∃ars',Vh H k (ZO ars0 xs) (List.range j) = {H with bX:=ars'}/\ars'.length=H.bX.length/\WI ⟨tb,s0,ars',held.filter λp=>!(decide (p.k<j)&&(p.cls==(k:Int)&&xs.contains (p.addr:Int)))⟩
 | 0,_=>by
  refine⟨H.bX,rfl,rfl,?_⟩;have:(held.filter λp=>!(decide (p.k<0)&&(p.cls==(k:Int)&&xs.contains (p.addr:Int))))=held:=qg.2 λp _=>by simp
  rw[this];exact h
 | j+1,hj=>by
  obtain⟨ars',e,s,w⟩:=Fx hH h hk hxs hn ha j O;rw[Vj,e];have y:ars'[j]?=some (ars'[j]' O):=cU _;simp only[y];have b:∀{p:Pc},p∈held->p.k=j->((p.addr:Int)∈ZO ars0 xs j↔(p.addr:Int)∈xs):=λ{p} d a=>by
   unfold ZO;rw[zI,ha p d,a];simp
  have g:((held.filter λp=>!(decide (p.k<j)&&(p.cls==(k:Int)&&xs.contains (p.addr:Int)))).filter λp=>!dZ j (k:Int) (ZO ars0 xs j) p)=held.filter λp=>!(decide (p.k<j+1)&&(p.cls==(k:Int)&&xs.contains (p.addr:Int))):=by
   rw[AX];apply ur;intro p d;have e1:dZ j (k:Int) (ZO ars0 xs j) p=(p.k==j&&(p.cls==(k:Int)&&xs.contains (p.addr:Int))):=by
    unfold dZ;by_cases a:p.k=j
    ·have:=b d a;have e2:(ZO ars0 xs j).contains (p.addr:Int)=xs.contains (p.addr:Int):=by
      rw[l9,yD,yD];exact this
     rw[e2]
    ·have:(p.k==j)=false:=by simpa using a
     rw[this];rfl
   rw[e1];have z:decide (p.k<j+1)=(decide (p.k<j)||p.k==j):=by
    rw[l9];simp;omega
   rw[z];cases p.k==j<;>cases decide (p.k<j)<;>cases(p.cls==(k:Int)&&xs.contains (p.addr:Int))<;>rfl
  by_cases d:ZO ars0 xs j=[]
  ·rw[zC d];refine⟨ars',rfl,s,?_⟩;rw[←g,d];have:∀p:Pc,(!dZ j (k:Int) [] p)=true:=λp=>by simp[dZ]
   rw[qg.2 λp _=>this p];exact w
  ·rw[zB d];refine⟨ars'.set j (ZC (ars'[j]' O) (k:Int) (ZO ars0 xs j)),by simp[Hw.cD],by simp[s],?_⟩;rw[←g];refine(M3 w y (j:=k) (l:=ZO ars0 xs j) (λx u=>?_) (hn.sublist tU) hk).2;unfold ZO at u;obtain⟨m,i⟩:=zI.1 u;obtain⟨p,d,B,A,r⟩:=hxs x m;have a:p.k=j:=by
    have:=ha p d;rw[r]at this;rw[this]at i;have:(p.k:Int)=(j:Int):=by simpa using i
    omega
   exact⟨p,zI.2 ⟨d,by simp[a]⟩,KK.2 ⟨a,A,r,B⟩⟩
theorem To {tb:List bZ}(hH:H.tb=tb)(h:WI ⟨tb,s0,H.bX,held⟩){own:Nat}(hown:own<H.bX.length)(hk:k<tb.length){xs:List Int}(hxs:∀x∈xs,Um held (k:Int) x)(hn:xs.Nodup) :
 ∃ars' held',HU H own k xs = {H with bX:=ars'}/\ars'.length=H.bX.length/\WI ⟨tb,s0,ars',held'⟩/\(∀c x,Um held' c x↔Um held c x/\¬(c=(k:Int)/\x∈xs))/\∀p∈held',p.eN=false->p∈held:=by
 have u:H.bX[own]?=some H.bX[own]:=cU hown;have y:∀p∈held,XU H.bX (p.addr:Int)=(p.k:Int):=λp a=>h.owner a (zD _) (by have:=(h.size_pos a).1;omega);have all:∃ars' held',Vh H k (ZO H.bX xs) (List.range H.bX.length) = {H with bX:=ars'}/\ars'.length=H.bX.length/\WI ⟨tb,s0,ars',held'⟩/\(∀c x,Um held' c x↔Um held c x/\¬(c=(k:Int)/\x∈xs))/\∀p∈held',p.eN=false->p∈held:=by
  obtain⟨ars',e,r,j⟩:=Fx hH h hk hxs hn y H.bX.length (zD _);refine⟨ars',_,e,r,j,λc x=>?_,λp a _=>(zI.1 a).1⟩;constructor
  ·rintro⟨p,a,i,g,d⟩;obtain⟨a,hf⟩:=zI.1 a;refine⟨⟨p,a,i,g,d⟩,?_⟩;rintro⟨rfl,b⟩;obtain⟨B,z,_⟩:=h.hf p a;have m:p.k<H.bX.length:=(cX.1 z).1;rw[g,d]at hf;simp[m,b]at hf
  ·rintro⟨⟨p,a,i,g,d⟩,hno⟩;refine⟨p,zI.2 ⟨a,?_⟩,i,g,d⟩;rw[g,d];by_cases hc:c=(k:Int)
   ·have:x∉xs:=λb=>hno ⟨hc,b⟩;simp[this]
   ·simp[hc]
 unfold HU;rw[u];simp only;by_cases hcond:(ZO H.bX xs own).length=xs.length/\Vn H.bX[own] (k:Int) xs=true
 ·rw[zC hcond];have s:∀x∈xs,XU H.bX x=(own:Int):=by
   have i:ZO H.bX xs own=xs:=by
    unfold ZO at hcond ⊢;exact List.filter_sublist.eq_of_length hcond.1
   intro x b;rw[←i]at b;unfold ZO at b;simpa using(zI.1 b).2
  have w:jk held own (k:Int) xs=true:=KG.2 ⟨λx b=>by
   obtain⟨p,a,i,g,d⟩:=hxs x b;have C:=y p a;rw[d,s x b]at C;exact⟨p,a,KK.2 ⟨O,g,d,i⟩⟩,hn⟩
  have j:=h.JT u w;rw[zC hcond.2]at j;exact⟨_,_,rfl,by simp[Hw.cD],j,Of h w,Pa⟩
 ·rw[zB hcond];have e:(if(ZO H.bX xs own).length=xs.length then H.cD own (Ke H.bX[own] (k:Int) xs)else H)=H:=by
   split
   ·rename_i r;have A:Vn H.bX[own] (k:Int) xs=false:=by
     apply nk.2;intro b;exact hcond ⟨r,b⟩
    have:Ke H.bX[own] (k:Int) xs=H.bX[own]:=by unfold Ke;rw[A];rfl
    rw[this];exact DE u
   ·rfl
  rw[e];exact all
def lA:Ph->Prop
 | .find _=>True
 | .put _ _=>True
 | .back=>True
 | .dC _ _=>True
 | .drain=>True
 | _=>False
def pS (g:Th):Ph->Nat
 | .find _=>101
 | .put _ _=>100
 | .drain=>100
 | .back=>g.bP.length
 | _=>0
def ng (H:Hw)(t:Nat)(g:Th)(p:Ph):Prop:=(Wt H t p).2.2.1=0 ∧
 ((∃p' g',(Wt H t p).2.1=some p'/\lA p'/\(∀x,p'≠.find x)/\(QE H t p).bQ[t]?=some g'/\pS g' p'<pS g p)\/(Wt H t p).2.1=none) ∧
 ((∀x,p≠.find x)->(Wt H t p).2.2.2=0/\(QE H t p).live=H.live) ∧
 (∀x,p=.find x->(bU H.live x=none->(Wt H t p).2.1=none/\(Wt H t p).2.2.2≠0/\(QE H t p).live=H.live)/\(∀b,bU H.live x=some b->(Wt H t p).2.2.2=0/\(QE H t p).live=cR H.live x))
theorem AW (hg:H.bQ[t]?=some g):j2 H t=if g.bP=[]then none else some .back:=by unfold j2;rw[hg]
theorem Rx (h:HI H held s0)(hg:H.bQ[t]?=some g){x:Int}(hph:g.ph=some (.find x)):iA H t (.find x)/\ng H t g (.find x):=by
 have J:=(cX.1 hg).1;have d:=h.th g (h.mem hg);obtain⟨P,C⟩:g.bP=[]/\iG x:=by have:=d.ph;unfold ir at this;rw[hph]at this;exact this
 have Q:∀A∈H.bX,iI A:=λA V=>by
  obtain⟨j,hj⟩:=zQ V;exact(h.wi.ga j A hj).pE
 cases hm:bU H.live x with
 | none=>
  have w:Wt H t (.find x)=({H with bQ:=H.bQ.set t g},none,0,lZ H x):=by
   have:H.bQ.set t g=H.bQ:=Qh hg;rw[this];simp only[Wt,U6,hm]
  have e:=Z4 J w;have F:=h.kj hg (g':={g with ph:=none}) (live':=H.live) (λL x=>by
   unfold gM;rw[hph];simp only[jD]) h.lk (λZ M=>.inl M) (λs a N=>by cases N) ⟨d.ll,d.lo,d.hb,d.hl,by
    unfold ir;exact P⟩
  refine⟨iA.mk' hg d.hl ⟨C,λ_=>Q,λb hb=>by rw[hm]at hb;cases hb⟩ e F (KS.refl _),?_⟩;unfold ng;rw[e,w];refine⟨rfl,.inr rfl,λi=>(i x rfl).elim,λy m=>?_⟩;cases m;refine⟨λ_=>⟨rfl,?_,rfl⟩,(λb hb=>by rw[hm]at hb;cases hb)⟩;show lZ H x≠0;unfold lZ
  repeat' split
  all_goals simp
 | some b=>
  have U:=Vb hm;obtain⟨_,p,N,h1,S,X,h4,Y⟩:=h.lv _ U;simp only at S X h4 Y;have R:0<=x:=by omega
  obtain⟨A,V,hd⟩:=h.wi.hf p N;have W:uS H t (.find x):=⟨C,(λi=>by rw[hm]at i;cases i),λ_ _=>R⟩;rcases hd with⟨c1,_,r,hr,c2,c3⟩|⟨j,c,c1,c2,c3,_⟩
  ·have E:b.2.2.1 = -1:=by rw[←S,c1]
   have w:Wt H t (.find x)=({{H with live:=cR H.live x}with bQ:=H.bQ.set t g},some (.dC (x/256) b.2.2.2),0,0):=by
    have:H.bQ.set t g=H.bQ:=Qh hg;rw[this];simp only[Wt,U6,hm];rw[zC O]
   have e:=Z4 (H1:={H with live:=cR H.live x}) J w;have u:x/256*256=x:=by omega
   have F:=h.kj hg (g':={g with ph:=some (.dC (x/256) b.2.2.2)}) (live':=cR H.live x) (λL y=>by
    have z:=A0 h.lk hm L y;rw[E]at z;unfold gM;rw[hph];simp only[jD,u];by_cases m:x=y
    ·subst m;rw[Ay]at z;by_cases hk : -1=L
     ·rw[zC hk]at z;rw[zC ⟨hk.symm,rfl⟩];omega
     ·rw[zB hk]at z;rw[zB (λC=>hk C.1.symm)];omega
    ·have:[x].count y=0:=xV.2 aE;rw[this]at z;rw[zB (λC=>m C.2.symm)];split at z<;>omega)
    (Go.Vc.jg h.lk) (λZ M=>.inl (GK.1 M).1) (λs a B=>by
     cases B;exact⟨p,N,h1,c1,by rw[u];exact X,Y⟩) ⟨d.ll,d.lo,d.hb,d.hl,by
      unfold ir;exact P⟩
   refine⟨iA.mk' hg d.hl W e F (KS.refl _),?_⟩;unfold ng;rw[e,w];refine⟨rfl,.inl ⟨_,_,rfl,trivial,(λy m=>by cases m),zM J,by simp[pS]⟩,λi=>(i x rfl).elim,λy m=>?_⟩;cases m;exact⟨(λi=>by rw[hm]at i;cases i),λ_ _=>⟨rfl,rfl⟩⟩
  ·have G:b.2.2.1=(j:Int):=by rw[←S,c1]
   have D:j<H.tb.length:=by
    rw[h.wi.tb _ _ V]at c2;exact(cX.1 c2).1
   have w:Wt H t (.find x)=({{H with live:=cR H.live x}with bQ:=H.bQ.set t {g with bP:=[(j,[x])]}},some (.put j x),0,0):=by
    simp only[Wt,U6,hm];rw[zB O,G,dD];unfold QO;rw[Zz (g:=g) (by exact hg),P];rfl
   have e:=Z4 (H1:={H with live:=cR H.live x}) J w;have F:=h.kj hg (g':={g with bP:=[(j,[x])],ph:=some (.put j x)}) (live':=cR H.live x) (λL y=>by
    have z:=A0 h.lk hm L y;rw[G]at z;unfold gM;rw[hph,P];simp only[jD,KN,VC];omega)
    (Go.Vc.jg h.lk) (λZ M=>.inl (GK.1 M).1) (λs a B=>by cases B) ⟨d.ll,d.lo,λb' K=>by
     simp only[zL]at K;subst K;exact⟨D,by simp,by simp⟩,by simp,by
     unfold ir;exact⟨rfl,D⟩⟩
   refine⟨iA.mk' hg d.hl W e F (KS.refl _),?_⟩;unfold ng;rw[e,w];refine⟨rfl,.inl ⟨_,_,rfl,trivial,(λy m=>by cases m),zM J,by simp[pS]⟩,λi=>(i x rfl).elim,λy m=>?_⟩;cases m;exact⟨(λi=>by rw[hm]at i;cases i),λ_ _=>⟨rfl,rfl⟩⟩
theorem C5 {f:bZ->Li->List Int×Li}{tb:List bZ}{ls:List Li}{b:Bt}(h:b∈Kg f tb ls):b.1<tb.length/\b.2≠[]/\∃c∈tb,∃l∈ls,b.2=(f c l).1:=by
 unfold Kg at h;obtain⟨k,d,a⟩:=wy.1 h;split at a
 ·rename_i c l hc hl;split at a
  ·cases a
  ·cases a;exact⟨zd.1 d,by assumption,c,zG hc,l,zG hl,rfl⟩
 ·cases a
theorem FD {f:bZ->Li->List Int×Li}{tb:List bZ}{ls:List Li}{l':Li}(h:l'∈Kc f tb ls):∃c∈tb,∃l∈ls,l'=(f c l).2:=by
 unfold Kc at h;obtain⟨i,a⟩:=zQ h;rw[CI]at a;split at a
 ·rename_i c l hc hl;cases a;exact⟨c,zG hc,l,zG hl,rfl⟩
 ·cases a
theorem Dl {f:bZ->Li->List Int×Li}{tb:List bZ}{ls:List Li}(h:ls.length=tb.length):(Kc f tb ls).length=tb.length:=by
 unfold Kc;rw[List.length_zipWith];omega
theorem FB (c:bZ)(l:Li):(KU c l).2.os.length<=l.os.length/\(KU c l).1.length<=l.os.length:=by
 simp only[KU,gC,ka,za];omega
theorem DK (c:bZ)(l:Li):(ZP c l).2.os.length<=l.os.length/\(ZP c l).1.length<=l.os.length:=by
 simp only[ZP,gC,ka,za];omega
theorem Tp (h:HI H held s0)(hg:H.bQ[t]?=some g)(hph:g.ph=some .drain):iA H t .drain/\ng H t g .drain:=by
 have m:=(cX.1 hg).1;have d:=h.th g (h.mem hg);have F:g.bP=[]:=by have:=d.ph;unfold ir at this;rw[hph]at this;exact this
 have w:=h.qG;have D:=CO ZP H.tb g.ls;have u:Wt H t .drain=({H with bQ:=H.bQ.set t {g with ls:=Kc ZP H.tb g.ls,bP:=Kg ZP H.tb g.ls}},(if Kg ZP H.tb g.ls=[]then none else some .back),0,0):=by
  simp only[Wt,Zz hg];rw[AW (g:={g with ls:=Kc ZP H.tb g.ls,bP:=Kg ZP H.tb g.ls}) (by simp[m])]
 have e:=Z4 m u;have z:=h.kj hg (g':={ls:=Kc ZP H.tb g.ls,bP:=Kg ZP H.tb g.ls,ph:=if Kg ZP H.tb g.ls=[]then none else some .back}) (live':=H.live) (λr x=>by
  have L:=IS (f:=ZP) Sb d.ll r x;unfold gM;rw[hph,F];have:jD (if Kg ZP H.tb g.ls=[]then none else some Ph.back) r x=0:=by split<;>rfl
  simp only[this,VC];simp only[jD];omega) h.lk (λM K=>.inl K) (λs a p=>by
   simp only at p;split at p<;>cases p) ⟨Dl d.ll,λl hl=>by
   obtain⟨c,_,j,i,rfl⟩:=FD hl;have:=d.lo j i;have:=DK c j;exact⟨RS (d.lo j i).1,O⟩,λb A=>by
   obtain⟨B,E,c,_,j,i,C⟩:=C5 A;have:=d.lo j i;have:=DK c j;exact⟨B,E,by rw[C];omega⟩,by simp only;omega,by
   unfold ir;by_cases ho:Kg ZP H.tb g.ls=[]
   ·rw[zC ho];exact ho
   ·rw[zB ho];exact ho⟩
 refine⟨iA.mk' hg d.hl trivial e z (KS.refl _),?_⟩;unfold ng;rw[e,u];refine⟨rfl,?_,λ_=>⟨rfl,rfl⟩,λx J=>by cases J⟩;by_cases ho:Kg ZP H.tb g.ls=[]
 ·exact .inr (by simp only;rw[zC ho])
 ·exact .inl ⟨.back,_,by simp only;rw[zB ho],trivial,(λy G=>by cases G),zM m,by simp only[pS];omega⟩
theorem JP (h:HI H held s0)(hg:H.bQ[t]?=some g){s a:Int}(hph:g.ph=some (.dC s a)):iA H t (.dC s a)/\ng H t g (.dC s a):=by
 have P:=(cX.1 hg).1;have b:=h.th g (h.mem hg);have U:g.bP=[]:=by have:=b.ph;unfold ir at this;rw[hph]at this;exact this
 obtain⟨p,C,X,R,Y,Z⟩:=h.gv g (h.mem hg) s a hph;obtain⟨A,z,_⟩:=h.wi.hf p C;have u:H.bX[p.k]?=some A:=z;have Q:=(cX.1 u).1;obtain⟨_,r,G,c2,W⟩:=h.wi.run C R z;have ga:=h.wi.ga _ _ z;have d:s=(r.1:Int):=by omega
 have L:K0 A s=0:=by
  unfold K0;rw[zC];unfold pT;rw[Aa];exact⟨r,G,by simp[d]⟩
 have E:jk held p.k (-1) [s*256]=true:=by rw[d];exact h.wi.mN z G
 have wi:=h.wi.vq z s;rw[zC L,h.wi.yT E]at wi;have w:a.toNat=p.k:=by omega
 have K:Wt H t (.dC s a)=({H.cD p.k (QD A s)with bQ:=H.bQ.set t g},none,0,0):=by
  have:H.bQ.set t g=H.bQ:=Qh hg;rw[this];simp only[Wt,w,u,Hw.cD]
 have e:=Z4 (H1:=H.cD p.k (QD A s)) P K;have N:=h.fo hg (g':={g with ph:=none}) (live':=H.live) wi h.mY rfl (by simp[Wd.put]) (λq F _=>.inl (zI.1 F).1) (λm x=>by
  have i:=Fb (held':=held.filter λD=>!dZ p.k (-1) [s*256] D) (l:=[s*256]) (cl:=-1) aA (RQ E) (RC h.wi E) m x;have i:kV held m x=kV (held.filter λD=>!dZ p.k (-1) [s*256] D) m x+(if -1=m then[s*256].count x else 0):=i
  unfold gM;rw[hph];simp only[jD];by_cases hy:s*256=x
  ·subst hy;rw[Ay]at i;by_cases hk : -1=m
   ·rw[zC hk]at i;rw[zC ⟨hk.symm,rfl⟩];omega
   ·rw[zB hk]at i;rw[zB (λy=>hk y.1.symm)];omega
  ·have:[s*256].count x=0:=xV.2 aE;rw[this]at i;rw[zB (λy=>hy y.2.symm)];split at i<;>omega) h.lk (λe' V=>.inl V) (λs a C=>by cases C) ⟨b.ll,b.lo,b.hb,b.hl,by
   unfold ir;exact U⟩
 refine⟨iA.mk' hg b.hl ⟨O,O,λB S q F=>?_⟩ e N (KS.refl _),?_⟩
 ·obtain⟨j,M⟩:=zQ S;have J:=h.wi.ga j B M;have:=J.fit F;have:=J.pg.n2;omega
 ·unfold ng;rw[e,K];exact⟨rfl,.inr rfl,λ_=>⟨rfl,rfl⟩,λx y=>by cases y⟩
theorem PU (h:HI H held s0)(hg:H.bQ[t]?=some g)(hph:g.ph=some .back):iA H t .back/\ng H t g .back:=by
 have D:=(cX.1 hg).1;have d:=h.th g (h.mem hg);have Q:g.bP≠[]:=by have:=d.ph;unfold ir at this;rw[hph]at this;exact this
 have B:=Gw hg;cases hhd:g.bP with
 | nil=>exact(Q hhd).elim
 | cons b r=>
  obtain⟨k,z⟩:=b;obtain⟨K,C,G⟩:=d.hb (k,z) (by rw[hhd];simp);simp only at K C G;have m:∀x,z.count x<=gM g (k:Int) x:=λx=>by
   unfold gM;rw[hhd,KN,zC rfl];simp only;omega
  have i:∀x∈z,Um held (k:Int) x:=λx u=>h.qE (h.mem hg) (zY (AG.2 u) (m x));have w:z.Nodup:=BE.2 λx=>by
   have P:=m x;have V:=h.oY (h.mem hg) (k:Int) x;have W:=Ez held (k:Int) x;omega
  obtain⟨j,F,M,E,wi,um,sub⟩:=To (H:={H with bQ:=H.bQ.set t {g with bP:=r}}) (tb:=H.tb) rfl h.wi (h.jN t) K i w;have L:Wt H t .back=({{H with bX:=j}with bQ:=H.bQ.set t {g with bP:=r}},(if r=[]then none else some .back),0,0):=by
   simp only[Wt,B,hhd,Zz hg,M];rw[AW (g:={g with bP:=r}) (by simp[D])]
  have e:=Z4 (H1:={H with bX:=j}) D L;have N:=h.fo hg (g':={g with bP:=r,ph:=if r=[]then none else some .back}) (live':=H.live) wi h.mY rfl E (λp A S=>.inl (sub p A S)) (λJ x=>by
   have P:=Fb w i um J x;unfold gM;rw[hph,hhd,KN];have:jD (if r=[]then none else some Ph.back) J x=0:=by split<;>rfl
   simp only[this];simp only[jD];omega) h.lk (λX U=>.inl U) (λs a A=>by
    simp only at A;split at A<;>cases A) ⟨d.ll,d.lo,λb hb=>d.hb b (by rw[hhd];exact mC _ hb),by have:=d.hl;rw[hhd]at this;simp at this ⊢;omega,by
    unfold ir;by_cases ho:r=[]
    ·rw[zC ho];exact ho
    ·rw[zB ho];exact ho⟩
  refine⟨iA.mk' hg d.hl ⟨k,z,r,by rw[B];exact hhd,λx u=>⟨(h.i63 (i x u)).1,(h.i63 (i x u)).2.2⟩,O⟩ e N (KS.refl _),?_⟩;unfold ng;rw[e,L];refine⟨rfl,?_,λ_=>⟨rfl,rfl⟩,λx u=>by cases u⟩;by_cases ho:r=[]
  ·exact .inr (by simp only;rw[zC ho])
  ·exact .inl ⟨.back,_,by simp only;rw[zB ho],trivial,(λy R=>by cases R),zM D,by simp only[pS];rw[hhd];simp⟩
theorem OF (h:HI H held s0)(hg:H.bQ[t]?=some g){x:Int}(hph:g.ph=some (.put k x)):iA H t (.put k x)/\ng H t g (.put k x):=by
 have B:=(cX.1 hg).1;have r:=h.th g (h.mem hg);obtain⟨K,L⟩:g.bP=[(k,[x])]/\k<H.tb.length:=by have:=r.ph;unfold ir at this;rw[hph]at this;exact this
 obtain⟨c,hc,D⟩:=h.cls L;obtain⟨l,hl,R,F,hlm⟩:=r.li L;have G:=Gw hg;have h40:=h.qG;have Q:=OU (x:=x) D F;have P:=Sy c x l O;have V:(dK c x l).1.length<=129/\(dK c x l).2.os.length<=128:=by
  have ac:=F.lim;have u:(eC [x] l).os=l.os++[x]:=by unfold eC;rw[zB aE]
  have W:(mh c (eC [x] l)).os=l.os++[x]:=by rw[←u];unfold mh;split<;>rfl
  unfold bZ.ok at D;unfold dK;rw[zB O];split
  ·rw[u];simp;omega
  ·simp only[gC,W,za,ka,zO,Am];omega
 obtain⟨M,N⟩:=r.gT (k:=k) Q V.2;have Z:∃hs:List Bt,(if(dK c x l).1=[]then[]else[(k,(dK c x l).1)])=hs:=⟨_,rfl⟩
 obtain⟨i,j⟩:=Z;have ab:i.length<=1:=by rw[←j];split<;>simp
 have z:∀b∈i,b.1<H.tb.length/\b.2≠[]/\b.2.length<=256:=λb m=>by
  rw[←j]at m;split at m
  ·simp at m
  ·simp only[zL]at m;subst m;exact⟨L,by assumption,by simp only;omega⟩
 have C:∀d y,lU i d y=if(k:Int)=d then(dK c x l).1.count y else 0:=λd y=>by
  rw[←j];split
  ·rename_i hn;rw[hn,VC];simp
  ·simp only[KN,VC,j9]
 let g3:Th:={g with ls:=g.ls.set k (dK c x l).2,bP:=i}
 let g4:Th:=if H.cf.dB<Q3 H.tb g3.ls then{g3 with ls:=Kc KU H.tb g3.ls,bP:=g3.bP++Kg KU H.tb g3.ls}else g3
 have Y:iw H t k x = {H with bQ:=H.bQ.set t g4}:=by
  have e2:(if(dK c x l).1=[]then H.dV t λh=>h.gT k (dK c x l).2 else QO (H.dV t λh=>h.gT k (dK c x l).2) t k (dK c x l).1) = {H with bQ:=H.bQ.set t {g with ls:=g.ls.set k (dK c x l).2,bP:=(k,[x])::i}}:=by
   rw[←j];split
   ·rw[Zz hg,←K];rfl
   ·rw[Zz hg];unfold QO;rw[Zz (g:=g.gT k (dK c x l).2) (by simp[B])];simp only[nH,Th.gT,K];rfl
  have e3:({H with bQ:=H.bQ.set t {g with ls:=g.ls.set k (dK c x l).2,bP:=(k,[x])::i}}:Hw).dV t (λh=>{h with bP:=h.bP.drop 1}) = {H with bQ:=H.bQ.set t g3}:=by
   rw[Zz (g:={g with ls:=g.ls.set k (dK c x l).2,bP:=(k,[x])::i}) (by simp[B])];simp only[nH,y5,List.drop_zero];rfl
  have w:({H with bQ:=H.bQ.set t g3}:Hw).bQ[t]?=some g3:=by simp[B]
  unfold iw;simp only[Ud hc,G,R,e2,e3,Gw w,Zz w,nH];show(if H.cf.dB<Q3 H.tb g3.ls then _ else _)=_
  simp only[g4];split<;>rfl
 have hg4:g4.ph=g.ph:=by simp only[g4];split<;>rfl
 have S:∀d y,lK g4.ls d y+lU g4.bP d y=lK g.ls d y+lU g.bP d y:=λd y=>by
  have U:=G2 hl (dK c x l).2 d y;have h2:=P y;have h3:lK g3.ls d y+lU g3.bP d y=lK g.ls d y+lU g.bP d y:=by
   simp only[g3];rw[C,K,KN,VC];by_cases hkk:(k:Int)=d
   ·simp only[hkk,zS]at U ⊢;omega
   ·simp only[hkk,j8]at U ⊢;omega
  simp only[g4];split
  ·have h4:=IS (f:=KU) SU (tb:=H.tb) (ls:=g3.ls) M d y;simp only[Fa];omega
  ·exact h3
 have p:g4.ls.length=H.tb.length/\(∀l∈g4.ls,fN l/\l.os.length<=128)/\(∀b∈g4.bP,b.1<H.tb.length/\b.2≠[]/\b.2.length<=256)/\g4.bP.length<=41:=by
  have hsl:=CO KU H.tb g3.ls;simp only[g4];split
  ·refine⟨Dl M,λl hl=>?_,λb m=>?_,by simp only[zO,g3]at *;omega⟩
   ·obtain⟨J,aa,E,A,rfl⟩:=FD hl;have h5:=N E A;have:=FB J E;exact⟨EA (h.ok J aa) h5.1,O⟩
   ·rcases zK.1 m with m|m
    ·exact z b m
    ·obtain⟨b1,b2,J,_,E,A,b3⟩:=C5 m;have h5:=N E A;have:=FB J E;exact⟨b1,b2,by rw[b3];omega⟩
  ·exact⟨M,N,z,by simp only[g3];omega⟩
 have hs:Wt H t (.put k x)=({H with bQ:=H.bQ.set t g4},(if g4.bP=[]then none else some .back),0,0):=by
  show(iw H t k x,j2 (iw H t k x) t,0,0)=_;rw[Y,AW (g:=g4) (by simp[B])]
 have e:=Z4 B hs;have hi:=h.kj hg (g':={g4 with ph:=if g4.bP=[]then none else some .back}) (live':=H.live) (λd y=>by
  have U:=S d y;unfold gM;rw[hph];have:jD (if g4.bP=[]then none else some Ph.back) d y=0:=by split<;>rfl
  simp only[this];simp only[jD];omega) h.lk (λe' he=>.inl he) (λs a X=>by
   simp only at X;split at X<;>cases X) ⟨p.1,p.2.1,p.2.2.1,p.2.2.2,by
   unfold ir;by_cases ho:g4.bP=[]
   ·simp only[ho,zS]
   ·simp only[ho,j8];exact ho⟩
 refine⟨iA.mk' hg r.hl ⟨L,by rw[G,K];simp⟩ e hi (KS.refl _),?_⟩;unfold ng;rw[e,hs];refine⟨rfl,?_,λ_=>⟨rfl,rfl⟩,λx hx=>by cases hx⟩;by_cases ho:g4.bP=[]
 ·exact .inr (by simp only;rw[zC ho])
 ·exact .inl ⟨.back,_,by simp only;rw[zB ho],trivial,(λy hy=>by cases hy),zM B,by simp only[pS];have:=p.2.2.2;omega⟩
end Go.Ar
namespace Go.Ar
open Go Go.Vc Go.Proofs
open Go.Bu (eV Vi UZ)
variable {U u w w':Hp}{F B P Q:Rg}{L:dI}{H H':Hw}{t n:Nat}{g:Th}
def xQ (size:Int):Int:=(size+255)/256*256
def oC (tb:List bZ)(size align:Int):Int×Int:=
 if size<=16384/\UR size align=true then(match gP tb size align with
  | some k=>((tb.getD k ⟨8,1,1⟩).size:Int)
  | none=>xQ size,0)else(0,1)
theorem PY {a:Int}(h1:1<=a)(h2:a<=256):(bits .and .i64 a (a-1) != 0) = !eV a:=by
 obtain⟨a,rfl⟩:=zc (show 0<=a by omega);rw[show(a:Int)-1=((a-1:Nat):Int) by omega,Go.Bu.iU O O,Vi,←UZ O O];simp only[bne,Bool.not_inj_iff];rw[l9];simp only[zT];omega
def QJ (sp:Sp)(x:Int):Int:=if dT sp x=0 then sp.wd (x.toNat/8)else 0
theorem Ck (h:HH U F L H)(x:Int)(hx:x<=9223372036854775807){R:Int->Int->Hp->Prop}(hR:∀σ',aG U σ'->R (QJ H.sp x) (dT H.sp x) σ'):Yq.c (aW L.p) x U R:=Lr h x hx hR
end Go.Ar
namespace Go.Ar
open Go Go.Vc Go.Proofs
variable {U u w w':Hp}{F B P Q:Rg}{L:dI}{H H':Hw}{t n:Nat}{g:Th}
def Kx (H:Hw)(x:Int):Option Int:=(bU H.live x).map λb=>b.2.1
theorem Er {tb:List bZ}{size align:Int}{k:Nat}(h:gP tb size align=some k):k<tb.length:=(List.findIdx?_eq_some_iff_findIdx_eq.1 h).1
theorem DC (h:HH U F L H)(x:Int){R:Int->Int->Hp->Prop}(hR:∀σ',aG U σ'->R ((Kx H x).getD 0) (if(Kx H x).isSome then 0 else 8) σ'):Xx.c (aW L.p) x U R:=by
 refine LP h x λσ' e=>?_;have:=hR σ' e;unfold Kx at this;cases hm:bU H.live x with
 | none=>rw[hm]at this;exact this
 | some b=>rw[hm]at this;exact this
end Go.Ar
namespace Go.Ar
open Go.Vc (bU dA cR)
variable {H H':Hw}{held:List Pc}{s0:Sp}{t k j:Nat}{g:Th}{A:AR}{c:bZ}
theorem KM (f:Th->Th)(hj:j≠t):(H.dV t f).bQ[j]?=H.bQ[j]? := by
 simp[Hw.dV,uf,Ne.symm hj]
theorem LH (x:Int)(hj:j≠t):(iw H t k x).bQ[j]?=H.bQ[j]? := by
 unfold iw QO;simp only;split<;>split<;>simp only[KM _ hj]
theorem PX (p:Ph)(hj:j≠t):(Wt H t p).1.bQ[j]?=H.bQ[j]? := by
 cases p with
 | take k=>simp only[Wt];split<;>simp only[VE,KM _ hj]
 | cI k w=>
  simp only[Wt];split
  ·split
   ·unfold QO;rw[KM _ hj];rfl
   ·rfl
  ·rfl
 | cJ k w=>
  simp only[Wt];split
  ·rfl
  ·unfold QO;rw[KM _ hj];rfl
 | grow k w=>simp only[Wt];split<;>rfl
 | fill=>simp only[Wt];split<;>simp only[VE,KM _ hj]
 | eJ m=>simp only[Wt];split<;>rfl
 | find x=>
  simp only[Wt,U6];split
  ·rfl
  ·split
   ·rfl
   ·unfold QO;rw[KM _ hj]
 | put k x=>exact LH x hj
 | back=>
  simp only[Wt];split
  ·rw[AU,KM _ hj]
  ·rfl
 | dC s a=>simp only[Wt];split<;>rfl
 | drain=>simp only[Wt,KM _ hj]
theorem UB (p:Ph)(hj:j≠t):(QE H t p).bQ[j]?=H.bQ[j]? := by
 unfold QE eO;rw[KM _ hj,PX p hj]
def fH (H:Hw)(j:Nat):Option Ph:=(H.bQ[j]?).bind (·.ph)
def wY (H H':Hw)(t:Nat):Prop:=fH H' t=none/\∀j,j≠t->fH H' j=fH H j
theorem Ae (h:HI H held s0)(hg:H.bQ[t]?=some g){p:Ph}(hp:g.ph=some p)(hf:¬lA p):∃cl sz,Rq H.tb g p cl sz:=by
 have b:=(h.th g (h.mem hg)).ph;unfold ir at b;rw[hp]at b;cases p with
 | take k=>obtain⟨c,d,_⟩:=h.cls b.2;exact⟨_,_,rfl,c,d,rfl⟩
 | cI k w=>obtain⟨c,d,_⟩:=h.cls b.2.1;exact⟨_,_,rfl,c,d,rfl⟩
 | cJ k w=>obtain⟨c,d,_⟩:=h.cls b.2.1;exact⟨_,_,rfl,c,d,rfl⟩
 | grow k w=>obtain⟨c,d,_⟩:=h.cls b.2.1;exact⟨_,_,rfl,c,d,rfl⟩
 | fill=>
  obtain⟨k,x,j,i,e,_⟩:=b;obtain⟨c,d,_⟩:=h.cls e;exact⟨_,_,k,_,[],c,i,rfl,d,rfl⟩
 | eJ m=>exact⟨_,_,rfl,rfl⟩
 | find x=>exact(hf trivial).elim
 | put k x=>exact(hf trivial).elim
 | back=>exact(hf trivial).elim
 | dC s a=>exact(hf trivial).elim
 | drain=>exact(hf trivial).elim
theorem qH (h:HI H held s0)(hg:H.bQ[t]?=some g){p:Ph}(hp:g.ph=some p){cl sz:Int}(hr:Rq H.tb g p cl sz):iA H t p/\sQ H t p cl sz:=by
 cases p with
 | take k=>exact LZ h hg hp hr
 | cI k w=>exact Oh h hg hp hr
 | cJ k w=>exact N3 h hg hp hr
 | grow k w=>exact SS h hg hp hr
 | fill=>exact Nd h hg hp hr
 | eJ m=>exact RB h hg hp hr
 | find x=>exact hr.elim
 | put k x=>exact hr.elim
 | back=>exact hr.elim
 | dC s a=>exact hr.elim
 | drain=>exact hr.elim
theorem qm (h:HI H held s0)(hg:H.bQ[t]?=some g){p:Ph}(hp:g.ph=some p)(hf:lA p):iA H t p/\ng H t g p:=by
 cases p with
 | take k=>exact hf.elim
 | cI k w=>exact hf.elim
 | cJ k w=>exact hf.elim
 | grow k w=>exact hf.elim
 | fill=>exact hf.elim
 | eJ m=>exact hf.elim
 | find x=>exact Rx h hg hp
 | put k x=>exact OF h hg hp
 | back=>exact PU h hg hp
 | dC s a=>exact JP h hg hp
 | drain=>exact Tp h hg hp
open Classical in
theorem HI.NA (h:HI H held s0)(hg:H.bQ[t]?=some g){p:Ph}(hp:g.ph=some p):iA H t p:=by
 by_cases hf:lA p
 ·exact(qm h hg hp hf).1
 ·obtain⟨cl,b,a⟩:=Ae h hg hp hf;exact(qH h hg hp a).1
theorem HD {p:Ph}(ht:t<H.bQ.length):∃g',(QE H t p).bQ[t]?=some g'/\g'.ph=(Wt H t p).2.1:=E5 ht
theorem DA {cl sz:Int}:∀(n:Nat) {H:Hw} {held:List Pc} {s0:Sp} {g:Th} {p:Ph},HI H held s0->H.bQ[t]?=some g->g.ph=some p->Rq H.tb g p cl sz->oB H t p<=n →
 ∃m H' a e,iE m H t p H' a e/\(∃held s0,HI H' held s0)/\KS H.sp H'.sp/\wY H H' t/\((e≠0/\a=0/\H'.live=H.live)\/(e=0/\bU H.live a=none/\H'.live=dA H.live a (a,sz,cl,XU H'.bX a)))
 | n,H,held,s0,g,p,h,hg,hp,hr,hn=>by
  have ht:=(cX.1 hg).1;obtain⟨s,D⟩:=qH h hg hp hr;have b:(Wt H t p).2.1=none->wY H (QE H t p) t:=λE=>by
   obtain⟨G,z,w⟩:=HD (p:=p) ht;exact⟨by unfold fH;rw[z];exact w.trans E,λj u=>by unfold fH;rw[UB p u]⟩
  rcases D with⟨p',G,e1,e2,e3,e4,e5⟩|⟨e1,e2,e3,e4⟩|⟨e1,e2,e3,e4⟩
  ·obtain⟨y,B,C⟩:=s.hi;obtain⟨J,d,kM⟩:=HD (p:=p) ht;rw[e3]at d;cases d;have x:(QE H t p).tb=H.tb:=(UE H t p).1;have F:oB (QE H t p) t p'<n:=by omega
   obtain⟨m,H',a,e,r,hi,ks,A,i⟩:=DA (oB (QE H t p) t p') C e3 (kM.trans e1) (by rw[x];exact e4) (zD _);refine⟨m+1,H',a,e,.next s.ok e1 r,hi,s.ks.trans ks,⟨A.1,λj u=>(A.2 j u).trans (by unfold fH;rw[UB p u])⟩,?_⟩;rw[e2]at i;exact i
  ·exact⟨1,_,_,_,.done s.ok e1,s.hi,s.ks,b e1,.inl ⟨e2,e3,e4⟩⟩
  ·exact⟨1,_,_,_,.done s.ok e1,s.hi,s.ks,b e1,.inr ⟨e2,e3,e4⟩⟩
termination_by n=>n
theorem Iq:∀(n:Nat) {H:Hw} {held:List Pc} {s0:Sp} {g:Th} {p:Ph},HI H held s0->H.bQ[t]?=some g->g.ph=some p->lA p->pS g p<=n →
 ∃m H' e,iE m H t p H' 0 e/\(∃held s0,HI H' held s0)/\KS H.sp H'.sp/\wY H H' t/\((∀x,p≠.find x)->e=0/\H'.live=H.live) ∧
  (∀x,p=.find x->(bU H.live x=none->e≠0/\H'.live=H.live)/\(∀b,bU H.live x=some b->e=0/\H'.live=cR H.live x))
 | n,H,held,s0,g,p,h,hg,hp,hf,hn=>by
  have ht:=(cX.1 hg).1;obtain⟨s,Q,M,F,a⟩:=qm h hg hp hf;rcases M with⟨p',D,e1,e2,e3,e4,e5⟩|e1
  ·obtain⟨A,K,L⟩:=s.hi;obtain⟨R,i,kM⟩:=HD (p:=p) ht;rw[e4]at i;cases i;have N:pS D p'<n:=by omega
   obtain⟨m,H',e,r,hi,ks,J,B,_⟩:=Iq (pS D p') L e4 (kM.trans e1) e2 (zD _);obtain⟨G,E⟩:=B e3;refine⟨m+1,H',e,.next s.ok e1 r,hi,s.ks.trans ks,⟨J.1,λj u=>(J.2 j u).trans (by unfold fH;rw[UB p u])⟩,λd=>⟨G,E.trans (F d).2⟩,λx d=>⟨λz=>?_,λb P=>⟨G,E.trans ((a x d).2 b P).2⟩⟩⟩;have:=((a x d).1 z).1;rw[e1]at this;cases this
  ·have y:wY H (QE H t p) t:=by
    obtain⟨D,C,w⟩:=HD (p:=p) ht;exact⟨by unfold fH;rw[C];exact w.trans e1,λj u=>by unfold fH;rw[UB p u]⟩
   have r:=iE.done (H:=H) (t:=t) s.ok e1;rw[Q]at r;exact⟨1,_,_,r,s.hi,s.ks,y,F,λx d=>⟨λz=>((a x d).1 z).2,(a x d).2⟩⟩
termination_by n=>n
structure gg (H H':Hw):Prop where
 hi:∃held s0,HI H' held s0
 ks:KS H.sp H'.sp
 kp:QA H' H
 ph:∀j,fH H' j=fH H j
theorem gg.refl (h:HI H held s0):gg H H:=⟨⟨held,s0,h⟩,KS.refl _,QA.refl _,λ_=>rfl⟩
theorem gg.trans {H1 H2 H3:Hw}(a:gg H1 H2)(b:gg H2 H3):gg H1 H3:=⟨b.hi,a.ks.trans b.ks,a.kp.trans b.kp,λj=>(b.ph j).trans (a.ph j)⟩
theorem F5 {tb:List bZ}{kind size align addr:Int}{p:Ph}(h:iM tb kind size align addr=some p)(hx:iG addr)(hh:g.bP=[]):ir tb.length {g with ph:=some p}:=by
 unfold iM at h;split at h
 ·split at h
  ·split at h
   ·split at h
    ·rename_i k hk;cases h;exact⟨hh,Er hk⟩
    ·cases h;exact⟨hh,O,O⟩
   ·cases h
  ·cases h
 ·split at h
  ·cases h;exact⟨hh,hx⟩
  ·split at h
   ·cases h;exact hh
   ·cases h
theorem HI.eO (h:HI H held s0)(hg:H.bQ[t]?=some g)(hn:g.ph=none){p:Ph}(hp:ir H.tb.length {g with ph:=some p})(hq:∀s a,p≠.dC s a):HI (eO H t (some p)) held s0:=by
 have b:=h.th g (h.mem hg);have e:Go.Ar.eO H t (some p) = {H with bQ:=H.bQ.set t {g with ph:=some p}}:=Zz hg _;rw[e];refine h.kj hg (live':=H.live) (λi x=>?_) h.lk (λj d=>.inl d) (λs a hp=>by cases hp;exact(hq s a rfl).elim) ⟨b.ll,b.lo,b.hb,b.hl,hp⟩;unfold gM;rw[hn];have:jD (some p) i x=0:=by
  cases p<;>first|rfl|exact(hq _ _ rfl).elim
 simp only[this];simp only[jD]
theorem FQ (h:HI H held s0)(hg:H.bQ[t]?=some g)(hn:g.ph=none):g.bP=[]:=by
 have:=(h.th g (h.mem hg)).ph;unfold ir at this;rw[hn]at this;exact this
theorem Gz (H:Hw)(thread kind size align addr:Int):(∃e,Kv H thread kind size align addr=.inl e/\e≠0)\/∃(t:Nat) (p:Ph) (g:Th),thread=(t:Int)/\H.bQ[t]?=some g/\g.ph=none/\iM H.tb kind size align addr=some p/\Kv H thread kind size align addr=.inr (t,p):=by
 unfold Kv;split
 ·split
  ·split
   ·split
    ·rename_i hth _ g hg hn _ p hp;exact .inr ⟨thread.toNat,p,g,O,hg,hn,hp,rfl⟩
    ·exact .inl ⟨1,rfl,by decide⟩
   ·exact .inl ⟨5,rfl,by decide⟩
  ·exact .inl ⟨1,rfl,by decide⟩
 ·exact .inl ⟨1,rfl,by decide⟩
theorem LI (hg:H.bQ[t]?=some g)(p:Option Ph)(hj:j≠t):fH (eO H t p) j=fH H j:=by
 unfold fH eO;rw[KM _ hj]
theorem Dr (hg:H.bQ[t]?=some g)(hn:g.ph=none){p:Ph}(ps:wY (eO H t (some p)) H' t):∀j,fH H' j=fH H j:=λj=>by
 by_cases hj:j=t
 ·subst hj;rw[ps.1];unfold fH;rw[hg];exact hn.symm
 ·rw[ps.2 j hj,LI hg _ hj]
def qL (H:Hw)(size align:Int)(H':Hw)(a e:Int):Prop:=(e≠0/\a=0/\H'.live=H.live) ∨
 (e=0/\bU H.live a=none/\(1<=size/\size<=16384/\UR size align=true)/\∃cl,H'.live=dA H.live a (a,(oC H.tb size align).1,cl,XU H'.bX a)/\((∃k:Nat,cl=k/\gP H.tb size align=some k)\/cl = -1/\gP H.tb size align=none))
theorem Te (h:HI H held s0)(thread size align:Int):∃H' a e,Uh H thread 0 size align 0 H' a e/\gg H H'/\qL H size align H' a e:=by
 rcases Gz H thread 0 size align 0 with⟨e,hs,hne⟩|⟨t,p,g,rfl,hg,hn,hq,hs⟩
 ·exact⟨H,0,e,.inl ⟨hs,hne,rfl,rfl⟩,gg.refl h,.inl ⟨hne,rfl,rfl⟩⟩
 ·have A:=FQ h hg hn;have y:=F5 (g:=g) hq (by unfold iG;decide) A;unfold iM at hq;rw[zC rfl]at hq;split at hq
  ·rename_i hsz;split at hq
   ·rename_i hok;have b:oC H.tb size align=(match gP H.tb size align with
     | some k=>((H.tb.getD k ⟨8,1,1⟩).size:Int)
     | none=>xQ size,0):=by
     unfold oC;rw[zC ⟨hsz.2,hok⟩]
     first|done | (cases gP H.tb size align<;>rfl)
    obtain⟨cl,d,i⟩:∃cl,Rq H.tb {g with ph:=some p} p cl (oC H.tb size align).1/\((∃k:Nat,cl=k/\gP H.tb size align=some k)\/cl = -1/\gP H.tb size align=none):=by
     cases hcv:gP H.tb size align with
     | some k=>
      rw[hcv]at hq b;cases hq;have u:=Er hcv;have z:H.tb[k]?=some H.tb[k]:=cU u;refine⟨k,⟨rfl,H.tb[k],z,?_⟩,.inl ⟨k,rfl,rfl⟩⟩;rw[b];simp only;rw[zP,z];rfl
     | none=>
      rw[hcv]at hq b;cases hq;refine⟨-1,⟨rfl,?_⟩,.inr ⟨rfl,rfl⟩⟩;rw[b];simp only;unfold xQ;omega
    have w:∀s a,p≠.dC s a:=λs a e=>by subst e;exact d.elim
    have E:=h.eO hg hn y w;have j:(Go.Ar.eO H t (some p)).bQ[t]?=some {g with ph:=some p}:=by
     have C:=(cX.1 hg).1;have e:Go.Ar.eO H t (some p) = {H with bQ:=H.bQ.set t {g with ph:=some p}}:=Zz hg _;rw[e];simp[C]
    obtain⟨m,H',a,e,r,B,ks,D,x⟩:=DA _ E j rfl d (zD _);refine⟨H',a,e,.inr ⟨t,p,m,hs,r⟩,⟨B,ks,(KP _ _ _).trans (F8 r),Dr hg hn D⟩,?_⟩;rcases x with⟨r1,r2,r3⟩|⟨r1,r2,r3⟩
    ·exact .inl ⟨r1,r2,r3⟩
    ·exact .inr ⟨r1,r2,⟨hsz.1,hsz.2,hok⟩,cl,r3,i⟩
   ·cases hq
  ·cases hq
def pa (H:Hw)(thread addr:Int)(H':Hw)(e:Int):Prop:=
 (e≠0/\H'=H/\Kv H thread 1 0 0 addr=.inl e)\/((∃p,Kv H thread 1 0 0 addr=.inr p)/\bU H.live addr=none/\e≠0/\H'.live=H.live)\/((∃p,Kv H thread 1 0 0 addr=.inr p)/\∃b,bU H.live addr=some b/\e=0/\H'.live=cR H.live addr)
theorem MW (h:HI H held s0)(hg:H.bQ[t]?=some g)(hn:g.ph=none){p:Ph}(hp:ir H.tb.length {g with ph:=some p})(hf:lA p)(hq:∀s a,p≠.dC s a):∃m H' e,iE m (eO H t (some p)) t p H' 0 e/\gg H H'/\((∀x,p≠.find x)->e=0/\H'.live=H.live) ∧
 (∀x,p=.find x->(bU H.live x=none->e≠0/\H'.live=H.live)/\(∀b,bU H.live x=some b->e=0/\H'.live=cR H.live x)):=by
 have z:=h.eO hg hn hp hq;have d:(Go.Ar.eO H t (some p)).bQ[t]?=some {g with ph:=some p}:=by
  have j:=(cX.1 hg).1;have e:Go.Ar.eO H t (some p) = {H with bQ:=H.bQ.set t {g with ph:=some p}}:=Zz hg _;rw[e];simp[j]
 obtain⟨m,H',e,r,i,ks,y,w,u⟩:=Iq _ z d rfl hf (zD _);exact⟨m,H',e,r,⟨i,ks,(KP _ _ _).trans (F8 r),Dr hg hn y⟩,w,u⟩
theorem LG (h:HI H held s0)(thread addr:Int)(hx:iG addr):∃H' e,Uh H thread 1 0 0 addr H' 0 e/\gg H H'/\pa H thread addr H' e:=by
 rcases Gz H thread 1 0 0 addr with⟨e,hs,hne⟩|⟨t,p,g,rfl,hg,hn,hq,hs⟩
 ·exact⟨H,e,.inl ⟨hs,hne,rfl,rfl⟩,gg.refl h,.inl ⟨hne,rfl,hs⟩⟩
 ·have d:=F5 (g:=g) hq hx (FQ h hg hn);have j:p=.find addr:=by unfold iM at hq;simp at hq;exact hq.symm
  subst j;obtain⟨m,H',e,r,op,_,i⟩:=MW h hg hn d trivial (λs a e=>by cases e);refine⟨H',e,.inr ⟨t,_,m,hs,r⟩,op,?_⟩;cases hm:bU H.live addr with
  | none=>exact .inr (.inl ⟨⟨_,hs⟩,hm,(i addr rfl).1 hm⟩)
  | some b=>exact .inr (.inr ⟨⟨_,hs⟩,b,hm,(i addr rfl).2 b hm⟩)
end Go.Ar
namespace Go.Ar
open Go Go.Vc Go.Proofs
variable {U u w w':Hp}{F B P Q:Rg}{L:dI}{H H':Hw}{t n k:Nat}{A:AR}{Y:Lay}
theorem Fr.refl (A:AR):Fr A A:=⟨rfl,rfl,rfl⟩
theorem Fr.trans {A B C:AR}(h:Fr B A)(k:Fr C B):Fr C A:=⟨k.1.trans h.1,k.2.1.trans h.2.1,k.2.2.trans h.2.2⟩
end Go.Ar
namespace Go.Ar
variable {A:AR}
def qk (tb:List bZ)(n room m:Nat):Wd:=⟨tb,Vr n,List.replicate m (fB n room tb),[]⟩
theorem JC {n room:Nat}{tb:List bZ}(h1:32<=n)(h2:n<=1024)(h3:n%16=0)(h6:tb.length<=40)(h7:∀c∈tb,c.ok):GA (fB n room tb)/\∀p,(fB n room tb).f p=0:=by
 have i:∀p,(fB n room tb).f p=0:=λp=>by
  show(List.replicate n 0).getD p 0=0;rw[zP,mH];split<;>rfl
 have b:∀{k:Nat} {g:List cF},(List.replicate tb.length ([]:List cF))[k]?=some g->g=[]:=λh=>by
  rw[mH]at h;split at h<;>simp at h;exact h
 have a:∀{k:Nat} {t:gI},(List.replicate tb.length (⟨0,[]⟩:gI))[k]?=some t->t.bs=[]:=λh=>by
  rw[mH]at h;split at h<;>simp at h;rw[←h]
 refine⟨⟨⟨by simp[fB],h1,h2,h3,λp=>by rw[i];omega,λp=>by rw[i];simp[fB],λp=>by rw[i];simp[fB,Go.Bu.iy],λp=>by rw[i,i]⟩,h6,by simp[fB],by simp[fB],λk c g d=>?_,λk c g d s m=>?_,λk c g d p=>?_,λp=>?_,λp=>.inr (Nat.zero_le _),by simp[fB],by simp[fB],λk t j=>?_,λk c g t d j=>?_,λk c t d j=>?_⟩,i⟩
 ·have e:=b d.2;subst e;exact⟨h7 c (zG d.1),by simp,by simp⟩
 ·have e:=b d.2;subst e;simp at m
 ·have e:=b d.2;subst e;constructor
  ·intro h;cases h
  ·rintro⟨s,m,_⟩;simp at m
 ·constructor
  ·intro h;cases h
  ·rintro⟨r,hr,_⟩;simp[fB]at hr
 ·have:=a j;rw[this];exact sx
 ·have:=a j;rw[this];simp
 ·have:=a j;rw[this];simp
theorem NZ {tb:List bZ}{n room m:Nat}(h1:32<=n)(h2:n<=1024)(h3:n%16=0)(h6:tb.length<=40)(h7:∀c∈tb,c.ok):WI (qk tb n room m):=by
 obtain⟨w,d⟩:=JC (room:=room) h1 h2 h3 h6 h7;have get:∀{k:Nat} {A:AR},(qk tb n room m).bX[k]?=some A->A=fB n room tb:=λ{k A} h=>by
  have h:(List.replicate m (fB n room tb))[k]?=some A:=h;rw[mH]at h;split at h<;>simp at h;exact h.symm
 have b:∀p,gf (Vr n).st p=0:=λp=>by
  show(List.replicate n 0).getD p 0=0;rw[zP,mH];split<;>rfl
 refine⟨λk A h=>by rw[get h];exact w,λk A h=>?_,λk A h=>by rw[get h];rfl,λk A h p a=>by rw[get h];exact d p,λp a=>(a (b p)).elim,λp k l A B E F h1 h2=>?_,sx,λp a=>by simp[qk]at a,λk A h j y u=>?_,λk A h r g=>?_⟩
 ·rw[get h];exact⟨by simp[qk,Vr,fB],λp a=>(a (d p)).elim,λp a=>by rw[d p]at a;omega,λp=>by show gf (Vr n).st p<=2;rw[b];omega⟩
 ·rw[get E]at h1;exact(h1 (d p)).elim
 ·rw[get h]at u;obtain⟨c,z,x,D⟩:=u;have e:z=[]:=by
   have h2:=x.2;simp only[fB]at h2;rw[mH]at h2;split at h2<;>simp at h2;exact h2
  subst e;obtain⟨G,s,i,C,_⟩:=(VH (w.cE _ _ _ x)).1 D;simp at C
 ·rw[get h]at g;simp[fB]at g
end Go.Ar
namespace Go.Ar
open Go.Vc (bU dA cR)
variable {H H':Hw}{held:List Pc}{s0:Sp}{t k j:Nat}{g:Th}{A:AR}{c:bZ}
theorem Oi {tb:List bZ}{cf:Cf}(h1:32<=cf.aF)(h2:cf.aF<=1024)(h3:cf.aF%16=0)(h4:1<=cf.ib)(h6:tb.length<=40)(h7:∀c∈tb,c.ok):HI (V0 tb cf) [] (Vr cf.aF):=by
 have A:=NZ (tb:=tb) (n:=cf.aF) (room:=cf.room) (m:=cf.ib) h1 h2 h3 h6 h7;have i:∀g∈(V0 tb cf).bQ,g=⟨List.replicate tb.length il,[],none⟩:=λg d=>(xC.1 d).2;have r:∀k,(List.replicate tb.length il).getD k il=il:=λk=>by
  rw[zP,mH];split<;>rfl
 refine⟨A,jx.refl _,λk x=>?_,sx,λe B=>by simp[V0]at B,λg d s a j=>?_,λg d=>?_,h7,?_,?_⟩
 ·have u:∀(n:Nat) (f:Th->Nat) (g:Th),f g=0->((List.replicate n g).map f).sum=0:=λn f g h=>by
   rw[uH,h]
   induction n with
   | zero=>rfl
   | succ n ih=>rw[vz,nf,ih]
  have w:gM ⟨List.replicate tb.length il,[],none⟩ k x=0:=by
   unfold gM lK;split
   ·simp only[r];rfl
   ·rfl
  have:qR (V0 tb cf) k x=0:=by
   unfold qR;show mb [] k x+((List.replicate cf.threads (⟨List.replicate tb.length il,[],none⟩:Th)).map λg=>gM g k x).sum=0;rw[u _ _ _ w];rfl
  rw[this,Ko];rintro⟨p,j,_⟩;simp at j
 ·rw[i g d]at j;cases j
 ·rw[i g d];refine⟨by simp[V0],λl z=>?_,λb y=>by simp at y,by simp,by unfold ir;rfl⟩;rw[(xC.1 z).2];exact⟨fN.nil,by simp[il]⟩
 ·show 1<=(List.replicate cf.ib (fB cf.aF cf.room tb)).length;simpa using h4
 ·show(List.replicate cf.aF 0).length=cf.aF;simp
def KL (H H':Hw):Prop:=∀e∈H.live,∀w:Nat,e.1<=((8*w:Nat):Int)->((8*w:Nat):Int)<e.1+e.2.2.1->H'.sp.wd w=H.sp.wd w
theorem HI.yl (h:HI H held s0):WI ⟨H.tb,s0,H.bX,held⟩:=h.wi
theorem HI.mapped (h:HI H held s0){p:Pc}(hp:p∈held){x:Nat}(h1:p.addr<=x)(h2:x<p.addr+p.size):gf H.sp.st (x/256)≠0:=by
 obtain⟨A,a,_⟩:=h.wi.hf p hp;have e1:=h.wi.oz hp a h1 h2;have:=(h.wi.ow _ A a).own (x/256) O;intro hz;exact this ((h.mY.z _).1 hz)
theorem HI.kl (h:HI H held s0)(k:KS H.sp H'.sp):KL H H':=λe d w m i=>by
 obtain⟨_,p,a,_,_,g,j,_⟩:=h.lv e d;have b:=h.mapped a (x:=8*w) O O;exact(k.k _ b).2 w O
theorem KL.refl (H:Hw):KL H H:=λ_ _ _ _ _=>rfl
theorem KL.trans {H1 H2 H3:Hw}(a:KL H1 H2)(b:KL H2 H3)(hl:∀e∈H1.live,e∈H2.live):KL H1 H3:=λe g w i d=>(b e (hl e g) w i d).trans (a e g w i d)
structure mA (H H':Hw):Prop where
 hi:∃held s0,HI H' held s0
 live:H'.live=H.live
 bQ:H'.bQ=H.bQ
 kp:QA H' H
 kl:KL H H'
theorem mA.refl (h:HI H held s0):mA H H:=⟨⟨_,_,h⟩,rfl,rfl,QA.refl _,KL.refl _⟩
theorem mA.trans {H1 H2 H3:Hw}(a:mA H1 H2)(b:mA H2 H3):mA H1 H3:=⟨b.hi,b.live.trans a.live,b.bQ.trans a.bQ,a.kp.trans b.kp,a.kl.trans b.kl λe d=>by rw[a.live];exact d⟩
theorem HI.n (h:HI H held s0)(hk:H.bX[k]?=some A):A.n=H.cf.aF:=by
 have:=(h.wi.ow k A hk).l;have a:=h.mY.l;have b:=h.sl;simp only at this;omega
theorem WI.wd {W:Wd}(h:WI W)(f:Nat->Int):WI {W with sp:={W.sp with wd:=f}}:=
 ⟨h.ga,λk A hk=>⟨(h.ow k A hk).l,(h.ow k A hk).own,(h.ow k A hk).cl,(h.ow k A hk).le⟩,h.tb,h.low,h.own,h.one,h.hk,h.hf,h.ht,h.hr⟩
theorem IQ {sp:Sp}{x:Int}(h:dT sp x=0):0<=x/\x%8=0/\gf sp.st (x.toNat/256)≠0:=by
 unfold dT at h;split at h
 ·cases h
 ·split at h
  ·cases h
  ·exact⟨O,O,by assumption⟩
theorem Un (sp:Sp)(x v:Int):(W5 sp x v).st.length=sp.st.length/\(∀p,gf (W5 sp x v).st p=0↔gf sp.st p=0)/\∀w,(W5 sp x v).wd w=if dT sp x=0/\w=x.toNat/8 then v else sp.wd w:=by
 unfold W5;split
 ·rename_i h0;have a:=IQ h0;refine⟨by simp[nu],λp=>?_,λw=>?_⟩
  ·show gf (sp.st.set (x.toNat/8/32) 2) p=0↔_;have b:x.toNat/8/32=x.toNat/256:=by omega
   rw[b];unfold gf at a ⊢;rw[zP]at a ⊢;rw[zP,m7];split
   ·rename_i he;split
    ·rw[←he];simp only[pZ];exact⟨λh=>O,λh=>(a.2.2 h).elim⟩
    ·rename_i hl;rw[zW O]at a;exact(a.2.2 rfl).elim
   ·exact Iff.rfl
  ·show(if w=x.toNat/8 then v else sp.wd w)=_
   by_cases hw:w=x.toNat/8
   ·rw[zC hw,zC ⟨h0,hw⟩]
   ·rw[zB hw,zB λh=>hw h.2]
 ·exact⟨rfl,λ_=>Iff.rfl,λw=>by rw[zB λh=>by have:=h.1;contradiction]⟩
theorem HI.write (h:HI H held s0)(x v:Int):HI {H with sp:=W5 H.sp x v} held {s0 with wd:=(W5 H.sp x v).wd}:=by
 obtain⟨a,b,_⟩:=Un H.sp x v;exact⟨h.wi.wd _,⟨a.trans h.mY.l,λp=>(b p).trans (h.mY.z p),rfl⟩,h.cn,h.lk,h.lv,h.gv,h.th,h.ok,h.a1,a.trans h.sl⟩
end Go.Ar
namespace Go.Ar
open Go Go.Vc Go.Proofs
variable {U u w w':Hp}{F B P Q:Rg}{L:dI}{H H':Hw}{t n:Nat}{g:Th}
end Go.Ar
namespace Go.Proofs
open Go.Vc
set_option maxRecDepth 100000
def WT.h:Hn:=.q .o2 (.q (.q (.cQ (.seq [.op,.op,.op,.cW false 2 [.op,.op]])) .aJ) (.q .o1 (.q .o1 (.q (.k (.loop [(4,.one .s),(5,.I)] (.q (.q .o2 (.c .l .l)) (.k (.q .o7 .o6))))) (.q .o6 (.q .o1 (.q (.q .o1 (.k (.loop [(6,.one .s),(7,.I)] (.q (.q .o4 (.c .l .l)) (.q (.k (.q (.cQ (.gR true [] [(70,.one .b)] (.tk [0,1,2,3,4,5] (.split 43 (.tk [6,7,8,9,10,11,12,13,14,15,16,17,18,19,20,21,22,23,24,25,26,27,28,29,30,31,32] (.done)) (.tk [6,7,8,9,10,11,12,13,14,15,16,17,18,19] (.split 57 (.tk [20,21,22,23,24,25,26,27,28,29,30,31,32] (.done)) (.tk [20,21,22,23,25,26,27,28,29] (.all [(24,.all [(30,.take 31 (.take 32 (.done)))])])))))))) (.c .o8 .l))) .o3))))) (.q .o3 .l))))))))
def WT.v (a:Int)(b:Hp)(c:Sl->Int->Hp->Prop):Prop:=bW (λd e=>If d (c ⟨none,0,0⟩ 1 e) (XW [.s,bN] (λf=>f ⟨none,0,0⟩ 8 e) λg (h:Sl) (i:Int) j=>If (i<512) (Xg.c i a j λk l m n=>aV #[.I k,.I l,.I m] 137 n λo p=>App h 3 24 137 [.I 0,.I 0,.I 0] ⟨some o,1,1⟩ p λq r=>XS.c i a r λs t=>bL (i+s) λu=>g q u t) (Xg.c 512 a j λv w x y=>aV #[.I v,.I w,.I x] 137 y λz aa=>App h 3 24 137 [.I 0,.I 0,.I 0] ⟨some z,1,1⟩ aa λab ac=>XW [.s,bN] (λad=>ad ⟨none,0,0⟩ 0 ac) λae (af:Sl) (ag:Int) ah=>If (ag<((ab.len:Nat):Int)) (Jn [.b] (λ(ai:Bool) aj=>If ai (Ix ab.a ab.len ag 3 λak=>aQ ak 0 aj λal=>aQ ak 1 aj λam=>aQ ak 2 aj λan=>aV #[.I al,.I am,.I an] 137 aj λao ap=>App af 3 24 137 [.I 0,.I 0,.I 0] ⟨some ao,1,1⟩ ap λaq ar=>bL (ag+1) λau=>ae aq au ar) (bL (ag+1) λav=>ae af av aj)) λaw=>dY ah λax=>bL (((ab.len:Nat):Int)-1) λay=>If (ag==ay) (aw true ah) (Ix ab.a ab.len ag 3 λaz=>aS ax az 1 λa0=>bL (ag+1) λa1=>Ix ab.a ab.len a1 3 λa2=>aS ax a2 1 λa3=>If (a0 != a3) (aw true ah) (Ix ab.a ab.len ag 3 λa4=>aS ax a4 0 λa5=>aS ax a4 1 λa6=>aS ax a4 2 λa7=>bL (ag+1) λa8=>Ix ab.a ab.len a8 3 λa9=>aS ax a9 0 λba=>aS ax a9 1 λbb=>aS ax a9 2 λbc=>WM.c a5 a6 a7 ah λbd be=>
 And (ax be) <| WM.c ba bb bc be λbf bg=>And (ax bg) <| aw (bd != bf) bg))) (c af 0 ah)))) λbh=>If (a<2) (bh true b) (bh (decide (a>16)) b)
theorem WT.o {a b c}(d:WT.v a b c):WT.c a b c:=Wa Tryz.func100 (x:=WT.h) (R0 d)
def Xg.h:Hn:=.q .o1 (.q .o8 (.q (.q .o1 (.k (.loop [(6,.I)] (.q (.q .o2 (.c .l .l)) (.q (.k (.q (.cQ (.seq [.op,.op,.op,.op,.op,.cW true 9 (RI.ops 9)])) (.c .o3 .l))) .o3))))) .aL))
def Xg.v (a b:Int)(c:Hp)(d:Int->Int->Int->Hp->Prop):Prop:=aV #[.I 0,.I 0,.I 0] 137 c λe f=>Nz a<|bL ((512:Int).tdiv a) λg=>aV #[.I 0,.I 0,.I 0] 137 f λh i=>aR h 0 (.I a) i λj=>aR h 1 (.I 4) j λk=>aR h 2 (.I (if 32<(if 2>g then 2 else g)then 32 else(if 2>g then 2 else g))) k λl=>XW [bN] (λm=>m 4 l) λn (o:Int) p=>If (o≥1) (bL (o*256) λq=>bW (λr s=>If r (aR h 1 (.I o) s λt=>bL (o-1) λu=>n u t) (bL (o-1) λv=>n v s)) λw=>If (q≥a) (bL (o*256) λx=>Nz a <| bL (b*(x.tmod a)) λy=>bL (o*256) λz=>w (decide (y<=z)) p) (w false p)) (aQ h 0 p λaa=>aQ h 1 p λab=>aQ h 2 p λac=>aR e 0 (.I aa) p λad=>aR e 1 (.I ab) ad λae=>aR e 2 (.I ac) ae λaf=>aQ e 0 af λag=>aQ e 1 af λah=>aQ e 2 af λai=>d ag ah ai af)
theorem Xg.o {a b c d}(e:Xg.v a b c d):Xg.c a b c d:=Wa Tryz.func137 (x:=Xg.h) (R0 e)
def XS.h:Hn:=.q .o1 (.q .o1 (.q (.k (.loop [(5,.I)] (.q (.q .o6 (.c .l .l)) (.k .o3)))) .aL))
def XS.v (a b:Int)(c:Hp)(d:aN):Prop:=XW [bN] (λe=>e 8 c) λf (g:Int) h=>bL (2*g) λi=>Nz b<|bL (a.tdiv b) λj=>If (i<=j) (bL (2*g) λk=>f k h) (d g h)
theorem XS.o {a b c d}(e:XS.v a b c d):XS.c a b c d:=Wa Tryz.func138 (x:=XS.h) (R0 e)
def WM.h:Hn:=.q .o2 (.q .o1 (.q (.k (.loop [(3,.I)] (.q (.q .o9 (.c .l .l)) (.k .o3)))) .aL))
def WM.v (a b c:Int)(d:Hp)(e:aN):Prop:=aV #[.I a,.I b,.I c] 137 d λf g=>XW [bN] (λh=>h 0 g) λi (j:Int) k=>bL (j+1) λl=>aQ f 0 k λm=>bL (l*m) λn=>aQ f 1 k λo=>bL (o*256) λp=>If (n<=p) (bL (j+1) λq=>i q k) (e j k)
theorem WM.o {a b c d e}(f:WM.v a b c d e):WM.c a b c d e:=Wa Tryz.func139 (x:=WM.h) (R0 f)
end Go.Proofs
namespace Go.Ar
open Go Go.Vc Go.Proofs
variable {U w:Hp}
abbrev T3:=Int×Int×Int
def v3 (x:T3):List Value:=[.int .i64 x.1,.int .i64 x.2.1,.int .i64 x.2.2]
def kg (l:List T3):List Value:=l.flatMap v3
theorem VS (l:List T3):(kg l).length=l.length*3:=by
 induction l with
 | nil=>rfl
 | cons x l ih=>simp only[kg,nJ,zO,v3,zX,lz]at *;omega
theorem BZ (l:List T3)(x:T3):kg (l++[x])=kg l++v3 x:=by simp[kg]
theorem HN:∀{l:List T3} {i:Nat} {x:T3},l[i]?=some x->∀{d:Nat},d<3->(kg l)[i*3+d]?=(v3 x)[d]?
 | [],_,_,h,_,_=>by simp at h
 | y::l,0,x,h,d,hd=>by
  simp at h;subst h;have e:kg (y::l)=v3 y++kg l:=rfl;rw[e,zh (by simp[v3];omega)];congr 1;omega
 | y::l,i+1,x,h,d,hd=>by
  have e:kg (y::l)=v3 y++kg l:=rfl;have a:(v3 y).length=3:=rfl;rw[e,zt O,a,show(i+1)*3+d-3=i*3+d by omega];exact HN (by simpa using h) hd
theorem E0 {Q:Rg}{s:Sl}{l:List T3}(h:Go.Vc.Own Q U s 3 (kg l)):ig U s l:=by
 have p:=h.1;rw[VS]at p;refine⟨O,λi x y z e=>?_⟩;obtain⟨b,d,g⟩:=h.cell (j:=i*3+0) (v:=.int .i64 x) ((HN e O).trans rfl);obtain⟨m,a,u⟩:=h.cell (j:=i*3+1) (v:=.int .i64 y) ((HN e O).trans rfl);rw[d]at a;cases a;obtain⟨m,a,r⟩:=h.cell (j:=i*3+2) (v:=.int .i64 z) ((HN e O).trans rfl);rw[d]at a;cases a;refine⟨b,0,d,Kr g,?_,?_,?_⟩
 ·rw[show 0+i*3=i*3+0 by omega];exact g
 ·rw[show 0+i*3+1=i*3+1 by omega];exact u
 ·rw[show 0+i*3+2=i*3+2 by omega];exact r
def tB (s w:Int)(n:Nat):Int:=([4,3,2,1].take n).foldl (λ(r p:Int)=>if s<=p*256/\w*((p*256)%s)<=p*256 then p else r) 4
def xZ (s:Int):Int:=min 32 (max 2 (512/s))
def k8 (s w:Int):T3:=(s,tB s w 4,xZ s)
def wu:Nat->Int->Int->Int
 | 0,d,_=>d
 | n+1,d,q=>if 2*d<=q then wu n (2*d) q else d
def vG (s w:Int):Int:=wu 8 8 (s/w)
def mF (x:T3):Int:=x.2.1*256/x.1
theorem Pj (s w:Int)(n:Nat):1<=tB s w n/\tB s w n<=4:=by
 have key:∀(l:List Int) (r:Int),(∀p∈l,1<=p/\p<=4)->1<=r/\r<=4->1<=l.foldl (λ(r p:Int)=>if s<=p*256/\w*((p*256)%s)<=p*256 then p else r) r/\l.foldl (λ(r p:Int)=>if s<=p*256/\w*((p*256)%s)<=p*256 then p else r) r<=4:=by
  intro l
  induction l with
  | nil=>intro r _ h;exact h
  | cons p l ih=>
   intro r hl hr;rw[qW];refine ih _ (λq b=>hl q (mC _ b)) ?_;split
   ·exact hl p oh
   ·exact hr
 refine key _ _ (λp a=>?_) O;have:=vn a;simp at this;omega
theorem D7 (s w:Int)(h1:8<=s)(h2:s<=512)(hw1:2<=w)(hw2:w<=16){R:Int->Int->Int->Hp->Prop}(hR:∀σ',aG U σ'->R (k8 s w).1 (k8 s w).2.1 (k8 s w).2.2 σ'):Xg.c s w U R:=by
 refine Xg.o ?_;unfold Xg.v;have S:1<=512/s/\512/s<=64:=⟨by rw[Int.le_ediv_iff_mul_le O];omega,Int.ediv_le_of_le_mul O O⟩;refine nw (cs:=[.int .i64 0,.int .i64 0,.int .i64 0]) λv hz e L=>nz O (ar (by rw[XX O];omega) (by rw[XX O];omega) ?_);rw[XX O];refine nw (cs:=[.int .i64 0,.int .i64 0,.int .i64 0]) λv1 H e1 E=>E.s1 aA λv2 o2 C=>C.s1 aA λZ o3 j=>j.s1 aA λv4 o4 b4=>?_;have d:U.size≠v.size:=by omega
 have A:=Ws o4 (Ws o3 (Ws o2 (e1.bT L id) d) d) d;have Y:aG U v4:=((((e.trans e1).only o2 (.inr O)).only o3 (.inr O)).only o4 (.inr O));have m:(if 32<(if 2>512/s then 2 else 512/s)then 32 else(if 2>512/s then 2 else 512/s))=xZ s:=by unfold xZ;omega
 rw[m]at b4;refine Qc (a:=bN) (λ(z:Int) u=>∃n:Nat,n<=4/\z=4-(n:Int)/\aG U u/\bY u U.size [.int .i64 0,.int .i64 0,.int .i64 0]/\bY u v.size [.int .i64 s,.int .i64 (tB s w n),.int .i64 (xZ s)]) (λz _=>z.toNat) ⟨0,O,rfl,Y,A,b4⟩ ?_;rintro(z:Int) u ⟨n,hn,rfl,eu,hu,bu⟩;refine cP (λaa=>?_) λP=>?_
 ·have M:n<4:=by omega
  have b:tB s w (n+1)=if s<=(4-(n:Int))*256/\w*(((4-(n:Int))*256)%s)<=(4-(n:Int))*256 then 4-(n:Int)else tB s w n:=by
   have K:([4,3,2,1]:List Int)[n]?=some (4-(n:Int)):=by
    rcases(show n=0\/n=1\/n=2\/n=3 by omega)with rfl|rfl|rfl|rfl<;>rfl
   unfold tB;rw[kN,K,wU];rfl
  refine ar O O ?_;refine KY (λr G=>G=u/\r=decide (s<=(4-(n:Int))*256/\w*(((4-(n:Int))*256)%s)<=(4-(n:Int))*256)) (λr G ⟨y,x⟩=>?_) λJ F=>?_
  ·subst y;by_cases hc:s<=(4-(n:Int))*256/\w*(((4-(n:Int))*256)%s)<=(4-(n:Int))*256
   ·rw[zJ hc]at x;rw[zC hc]at b;refine cC x (bu.s1 aA λX o1 B=>ar O O ⟨⟨n+1,O,O,eu.only o1 (.inr O),Ws o1 hu d,by rw[b];exact B⟩,O⟩)
   ·rw[zN hc]at x;rw[zB hc]at b;exact cB x (ar O O ⟨⟨n+1,O,O,eu,hu,by rw[b];exact bu⟩,O⟩)
  ·have g:=Int.emod_nonneg ((4-(n:Int))*256) (show s≠0 by omega);have N:=CA ((4-(n:Int))*256) (show 0<s by omega);have W:w*(((4-(n:Int))*256)%s)<=16*512:=Int.mul_le_mul hw2 O g O;have Q:0<=w*(((4-(n:Int))*256)%s):=Int.mul_nonneg O g;refine cP (λh1=>ar O O (nz O ?_)) λh1=>F _ _ ⟨rfl,(zN λp=>h1 p.1).symm⟩;rw[Qq O];refine ar O O (ar O O (F _ _ ⟨rfl,?_⟩));rw[decide_eq_decide];exact⟨λp=>⟨h1,p⟩,λp=>p.2⟩
 ·have D:n=4:=by omega
  subst D;refine bu.rI rfl (bu.rI rfl (bu.rI rfl (hu.s1 aA λX o1 B=>B.s1 aA λu2 o2 C=>C.s1 aA λV o3 j=>j.rI rfl (j.rI rfl (j.rI rfl (hR V ?_))))));exact((eu.only o1 (.inr O)).only o2 (.inr O)).only o3 (.inr O)
theorem P9 (s w:Int)(h1:8<=s)(h2:s<=512)(hw1:2<=w){R:aN}(hR:8<=vG s w->vG s w<=256->R (vG s w) U):XS.c s w U R:=by
 refine XS.o ?_;unfold XS.v;have j:0<=s/w/\s/w<=256:=⟨Int.ediv_nonneg O O,by
  have:s/w<=s/2:=by
   apply Int.le_ediv_of_mul_le O;have:=Int.ediv_mul_le s (show w≠0 by omega);have g:s/w*2<=s/w*w:=Int.mul_le_mul_of_nonneg_left hw1 (Int.ediv_nonneg O O);omega
  omega⟩
 refine Qc (a:=bN) (λ(d:Int) u=>u=U/\∃n:Nat,wu n d (s/w)=vG s w/\8<=d/\d<=256/\512<=d*2^n) (λd _=>1000-d.toNat) ⟨rfl,8,rfl,O,O,by decide⟩ ?_;rintro(d:Int) u ⟨rfl,n,hst,hd1,hd2,hdn⟩;refine ar O O (nz O (ar (by rw[XX O];omega) (by rw[XX O];omega) ?_));rw[XX O];cases n with
 | zero=>simp at hdn;omega
 | succ n=>
  refine cP (λe=>ar O O ⟨⟨rfl,n,?_,O,O,?_⟩,O⟩) λb=>?_
  ·rw[wu,zC e]at hst;exact hst
  ·rw[Int.pow_succ]at hdn;have:2*d*2^n=d*(2^n*2):=by rw[Int.mul_comm 2 d,Int.mul_assoc,Int.mul_comm 2 (2^n)]
   omega
  ·rw[wu,zB b]at hst;rw[←hst]at hR;exact hR hd1 hd2
theorem Dy (x:T3)(h1:8<=x.1)(h2:x.1<=512)(h3:1<=x.2.1)(h4:x.2.1<=4){R:aN}(hR:∀σ',aG U σ'->R (mF x) σ'):WM.c x.1 x.2.1 x.2.2 U R:=by
 refine WM.o ?_;unfold WM.v;refine nw (cs:=[.int .i64 x.1,.int .i64 x.2.1,.int .i64 x.2.2]) λv s e m=>?_;refine Qc (a:=bN) (λ(n:Int) u=>aG U u/\bY u U.size [.int .i64 x.1,.int .i64 x.2.1,.int .i64 x.2.2]/\0<=n/\n<=128/\n*x.1<=x.2.1*256) (λn _=>1000-n.toNat) ⟨e,m,O,O,O⟩ ?_;rintro(n:Int) u ⟨eu,bu,hn0,hn1,hn⟩;have w:(n+1)*x.1<=129*512:=Int.mul_le_mul O h2 O O;have j:0<=(n+1)*x.1:=Int.mul_nonneg O O;refine ar O O (bu.rI rfl (ar O O (bu.rI rfl (ar O O ?_))));refine cP (λb=>ar O O ⟨⟨eu,bu,O,?_,b⟩,O⟩) λg=>?_
 ·have:(n+1)*8<=(n+1)*x.1:=Int.mul_le_mul_of_nonneg_left h1 O;omega
 ·have:mF x=n:=by
   unfold mF;have r:n<=x.2.1*256/x.1:=(Int.le_ediv_iff_mul_le O).2 hn;have p:x.2.1*256/x.1<n+1:=(Int.ediv_lt_iff_lt_mul O).2 O;omega
  have d:=hR u eu;rw[this]at d;exact d
end Go.Ar