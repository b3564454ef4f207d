/- Texts joined by a program: Data, Tools, AwLib. -/
import Derived.Test.YtbcfajfngdmgnaaGreatDoorZd12
import Derived.Test.YtbcfajfngdmgnaaGreatDoorZd13

section
set_option linter.unusedSimpArgs false
namespace Go.Aw.D
open Go.Aw
def encInt (n : Int) : List AV := [.v (.int .i64 n)]
def encBool (b : Bool) : List AV := [.v (.bool b)]
def encStr (s : ByteArray) : List AV := [.v (.string s)]
theorem encInt_len (x : Int) : (encInt x).length = 1 := rfl
theorem encInt_0 (x : Int) : (encInt x).getD 0 .any = .v (.int .i64 x) := rfl
theorem encBool_len (x : Bool) : (encBool x).length = 1 := rfl
theorem encBool_0 (x : Bool) : (encBool x).getD 0 .any = .v (.bool x) := rfl
theorem encStr_len (x : ByteArray) : (encStr x).length = 1 := rfl
theorem encStr_0 (x : ByteArray) : (encStr x).getD 0 .any = .v (.string x) := rfl
structure Point where
  t : Int
  a : Int
  deriving DecidableEq
def encPoint (x : Point) : List AV := [.v (.int .i64 x.t), .v (.int .i64 x.a)]
theorem encPoint_len (x : Point) : (encPoint x).length = 2 := rfl
theorem encPoint_0 (x : Point) : (encPoint x).getD 0 .any = .v (.int .i64 x.t) := rfl
theorem encPoint_1 (x : Point) : (encPoint x).getD 1 .any = .v (.int .i64 x.a) := rfl
theorem encPoint_all (x : Point) : (encPoint x).take 2 = encPoint x := rfl
structure Arc where
  src : Int
  dst : Int
  profile : Int
  miles : Int
  travel : List Point
  slow : List Point
  deriving DecidableEq
def encArc (x : Arc) : List AV := [.v (.int .i64 x.src), .v (.int .i64 x.dst), .v (.int .i64 x.profile), .v (.int .i64 x.miles), .sl (x.travel.map encPoint), .sl (x.slow.map encPoint)]
theorem encArc_len (x : Arc) : (encArc x).length = 6 := rfl
theorem encArc_0 (x : Arc) : (encArc x).getD 0 .any = .v (.int .i64 x.src) := rfl
theorem encArc_1 (x : Arc) : (encArc x).getD 1 .any = .v (.int .i64 x.dst) := rfl
theorem encArc_2 (x : Arc) : (encArc x).getD 2 .any = .v (.int .i64 x.profile) := rfl
theorem encArc_3 (x : Arc) : (encArc x).getD 3 .any = .v (.int .i64 x.miles) := rfl
theorem encArc_4 (x : Arc) : (encArc x).getD 4 .any = .sl (x.travel.map encPoint) := rfl
theorem encArc_5 (x : Arc) : (encArc x).getD 5 .any = .sl (x.slow.map encPoint) := rfl
theorem encArc_all (x : Arc) : (encArc x).take 6 = encArc x := rfl
structure Network where
  places : List ByteArray
  arcs : List Arc
  deriving DecidableEq
def encNetwork (x : Network) : List AV := [.sl (x.places.map encStr), .sl (x.arcs.map encArc)]
theorem encNetwork_len (x : Network) : (encNetwork x).length = 2 := rfl
theorem encNetwork_0 (x : Network) : (encNetwork x).getD 0 .any = .sl (x.places.map encStr) := rfl
theorem encNetwork_1 (x : Network) : (encNetwork x).getD 1 .any = .sl (x.arcs.map encArc) := rfl
theorem encNetwork_all (x : Network) : (encNetwork x).take 2 = encNetwork x := rfl
structure VType where
  name : ByteArray
  count : Int
  src : Int
  dst : Int
  cap : List Int
  skills : Int
  profile : Int
  start : Int
  close : Int
  drive : Int
  rest : Int
  fixed : Int
  perMile : Int
  perTick : Int
  deriving DecidableEq
def encVType (x : VType) : List AV := [.v (.string x.name), .v (.int .i64 x.count), .v (.int .i64 x.src), .v (.int .i64 x.dst), .sl (x.cap.map encInt), .v (.int .i64 x.skills), .v (.int .i64 x.profile), .v (.int .i64 x.start), .v (.int .i64 x.close), .v (.int .i64 x.drive), .v (.int .i64 x.rest), .v (.int .i64 x.fixed), .v (.int .i64 x.perMile), .v (.int .i64 x.perTick)]
theorem encVType_len (x : VType) : (encVType x).length = 14 := rfl
theorem encVType_0 (x : VType) : (encVType x).getD 0 .any = .v (.string x.name) := rfl
theorem encVType_1 (x : VType) : (encVType x).getD 1 .any = .v (.int .i64 x.count) := rfl
theorem encVType_2 (x : VType) : (encVType x).getD 2 .any = .v (.int .i64 x.src) := rfl
theorem encVType_3 (x : VType) : (encVType x).getD 3 .any = .v (.int .i64 x.dst) := rfl
theorem encVType_4 (x : VType) : (encVType x).getD 4 .any = .sl (x.cap.map encInt) := rfl
theorem encVType_5 (x : VType) : (encVType x).getD 5 .any = .v (.int .i64 x.skills) := rfl
theorem encVType_6 (x : VType) : (encVType x).getD 6 .any = .v (.int .i64 x.profile) := rfl
theorem encVType_7 (x : VType) : (encVType x).getD 7 .any = .v (.int .i64 x.start) := rfl
theorem encVType_8 (x : VType) : (encVType x).getD 8 .any = .v (.int .i64 x.close) := rfl
theorem encVType_9 (x : VType) : (encVType x).getD 9 .any = .v (.int .i64 x.drive) := rfl
theorem encVType_10 (x : VType) : (encVType x).getD 10 .any = .v (.int .i64 x.rest) := rfl
theorem encVType_11 (x : VType) : (encVType x).getD 11 .any = .v (.int .i64 x.fixed) := rfl
theorem encVType_12 (x : VType) : (encVType x).getD 12 .any = .v (.int .i64 x.perMile) := rfl
theorem encVType_13 (x : VType) : (encVType x).getD 13 .any = .v (.int .i64 x.perTick) := rfl
theorem encVType_all (x : VType) : (encVType x).take 14 = encVType x := rfl
structure Stop where
  place : Int
  start : Int
  close : Int
  service : Int
  deriving DecidableEq
def encStop (x : Stop) : List AV := [.v (.int .i64 x.place), .v (.int .i64 x.start), .v (.int .i64 x.close), .v (.int .i64 x.service)]
theorem encStop_len (x : Stop) : (encStop x).length = 4 := rfl
theorem encStop_0 (x : Stop) : (encStop x).getD 0 .any = .v (.int .i64 x.place) := rfl
theorem encStop_1 (x : Stop) : (encStop x).getD 1 .any = .v (.int .i64 x.start) := rfl
theorem encStop_2 (x : Stop) : (encStop x).getD 2 .any = .v (.int .i64 x.close) := rfl
theorem encStop_3 (x : Stop) : (encStop x).getD 3 .any = .v (.int .i64 x.service) := rfl
theorem encStop_all (x : Stop) : (encStop x).take 4 = encStop x := rfl
structure Order where
  name : ByteArray
  load : List Int
  pick : Stop
  drop : Stop
  skills : Int
  penalty : Int
  split : Int
  last : Int
  now : Int
  off : Bool
  deriving DecidableEq
def encOrder (x : Order) : List AV := [.v (.string x.name), .sl (x.load.map encInt), .v (.int .i64 x.pick.place), .v (.int .i64 x.pick.start), .v (.int .i64 x.pick.close), .v (.int .i64 x.pick.service), .v (.int .i64 x.drop.place), .v (.int .i64 x.drop.start), .v (.int .i64 x.drop.close), .v (.int .i64 x.drop.service), .v (.int .i64 x.skills), .v (.int .i64 x.penalty), .v (.int .i64 x.split), .v (.int .i64 x.last), .v (.int .i64 x.now), .v (.bool x.off)]
theorem encOrder_len (x : Order) : (encOrder x).length = 16 := rfl
theorem encOrder_0 (x : Order) : (encOrder x).getD 0 .any = .v (.string x.name) := rfl
theorem encOrder_1 (x : Order) : (encOrder x).getD 1 .any = .sl (x.load.map encInt) := rfl
theorem encOrder_2 (x : Order) : (encOrder x).getD 2 .any = .v (.int .i64 x.pick.place) := rfl
theorem encOrder_3 (x : Order) : (encOrder x).getD 3 .any = .v (.int .i64 x.pick.start) := rfl
theorem encOrder_4 (x : Order) : (encOrder x).getD 4 .any = .v (.int .i64 x.pick.close) := rfl
theorem encOrder_5 (x : Order) : (encOrder x).getD 5 .any = .v (.int .i64 x.pick.service) := rfl
theorem encOrder_6 (x : Order) : (encOrder x).getD 6 .any = .v (.int .i64 x.drop.place) := rfl
theorem encOrder_7 (x : Order) : (encOrder x).getD 7 .any = .v (.int .i64 x.drop.start) := rfl
theorem encOrder_8 (x : Order) : (encOrder x).getD 8 .any = .v (.int .i64 x.drop.close) := rfl
theorem encOrder_9 (x : Order) : (encOrder x).getD 9 .any = .v (.int .i64 x.drop.service) := rfl
theorem encOrder_10 (x : Order) : (encOrder x).getD 10 .any = .v (.int .i64 x.skills) := rfl
theorem encOrder_11 (x : Order) : (encOrder x).getD 11 .any = .v (.int .i64 x.penalty) := rfl
theorem encOrder_12 (x : Order) : (encOrder x).getD 12 .any = .v (.int .i64 x.split) := rfl
theorem encOrder_13 (x : Order) : (encOrder x).getD 13 .any = .v (.int .i64 x.last) := rfl
theorem encOrder_14 (x : Order) : (encOrder x).getD 14 .any = .v (.int .i64 x.now) := rfl
theorem encOrder_15 (x : Order) : (encOrder x).getD 15 .any = .v (.bool x.off) := rfl
theorem encOrder_all (x : Order) : (encOrder x).take 16 = encOrder x := rfl
theorem encOrder_pick (x : Order) : ((encOrder x).drop 2).take 4 = encStop x.pick := rfl
theorem encOrder_drop (x : Order) : ((encOrder x).drop 6).take 4 = encStop x.drop := rfl
structure Pair where
  a : Int
  b : Int
  deriving DecidableEq
def encPair (x : Pair) : List AV := [.v (.int .i64 x.a), .v (.int .i64 x.b)]
theorem encPair_len (x : Pair) : (encPair x).length = 2 := rfl
theorem encPair_0 (x : Pair) : (encPair x).getD 0 .any = .v (.int .i64 x.a) := rfl
theorem encPair_1 (x : Pair) : (encPair x).getD 1 .any = .v (.int .i64 x.b) := rfl
theorem encPair_all (x : Pair) : (encPair x).take 2 = encPair x := rfl
structure Instance where
  net : Network
  types : List VType
  orders : List Order
  apart : List Pair
  before : List Pair
  deriving DecidableEq
def encInstance (x : Instance) : List AV := [.sl (x.net.places.map encStr), .sl (x.net.arcs.map encArc), .sl (x.types.map encVType), .sl (x.orders.map encOrder), .sl (x.apart.map encPair), .sl (x.before.map encPair)]
theorem encInstance_len (x : Instance) : (encInstance x).length = 6 := rfl
theorem encInstance_0 (x : Instance) : (encInstance x).getD 0 .any = .sl (x.net.places.map encStr) := rfl
theorem encInstance_1 (x : Instance) : (encInstance x).getD 1 .any = .sl (x.net.arcs.map encArc) := rfl
theorem encInstance_2 (x : Instance) : (encInstance x).getD 2 .any = .sl (x.types.map encVType) := rfl
theorem encInstance_3 (x : Instance) : (encInstance x).getD 3 .any = .sl (x.orders.map encOrder) := rfl
theorem encInstance_4 (x : Instance) : (encInstance x).getD 4 .any = .sl (x.apart.map encPair) := rfl
theorem encInstance_5 (x : Instance) : (encInstance x).getD 5 .any = .sl (x.before.map encPair) := rfl
theorem encInstance_all (x : Instance) : (encInstance x).take 6 = encInstance x := rfl
theorem encInstance_net (x : Instance) : (encInstance x).take 2 = encNetwork x.net := rfl
structure Visit where
  order : Int
  drop : Bool
  deriving DecidableEq
def encVisit (x : Visit) : List AV := [.v (.int .i64 x.order), .v (.bool x.drop)]
theorem encVisit_len (x : Visit) : (encVisit x).length = 2 := rfl
theorem encVisit_0 (x : Visit) : (encVisit x).getD 0 .any = .v (.int .i64 x.order) := rfl
theorem encVisit_1 (x : Visit) : (encVisit x).getD 1 .any = .v (.bool x.drop) := rfl
theorem encVisit_all (x : Visit) : (encVisit x).take 2 = encVisit x := rfl
structure Route where
  type : Int
  start : Int
  rests : List Bool
  visits : List Visit
  deriving DecidableEq
def encRoute (x : Route) : List AV := [.v (.int .i64 x.type), .v (.int .i64 x.start), .sl (x.rests.map encBool), .sl (x.visits.map encVisit)]
theorem encRoute_len (x : Route) : (encRoute x).length = 4 := rfl
theorem encRoute_0 (x : Route) : (encRoute x).getD 0 .any = .v (.int .i64 x.type) := rfl
theorem encRoute_1 (x : Route) : (encRoute x).getD 1 .any = .v (.int .i64 x.start) := rfl
theorem encRoute_2 (x : Route) : (encRoute x).getD 2 .any = .sl (x.rests.map encBool) := rfl
theorem encRoute_3 (x : Route) : (encRoute x).getD 3 .any = .sl (x.visits.map encVisit) := rfl
theorem encRoute_all (x : Route) : (encRoute x).take 4 = encRoute x := rfl
structure Plan where
  routes : List Route
  unserved : List Int
  deriving DecidableEq
def encPlan (x : Plan) : List AV := [.sl (x.routes.map encRoute), .sl (x.unserved.map encInt)]
theorem encPlan_len (x : Plan) : (encPlan x).length = 2 := rfl
theorem encPlan_0 (x : Plan) : (encPlan x).getD 0 .any = .sl (x.routes.map encRoute) := rfl
theorem encPlan_1 (x : Plan) : (encPlan x).getD 1 .any = .sl (x.unserved.map encInt) := rfl
theorem encPlan_all (x : Plan) : (encPlan x).take 2 = encPlan x := rfl
structure Fault where
  err : Int
  at_ : ByteArray
  deriving DecidableEq
def encFault (x : Fault) : List AV := [.v (.int .i64 x.err), .v (.string x.at_)]
theorem encFault_len (x : Fault) : (encFault x).length = 2 := rfl
theorem encFault_0 (x : Fault) : (encFault x).getD 0 .any = .v (.int .i64 x.err) := rfl
theorem encFault_1 (x : Fault) : (encFault x).getD 1 .any = .v (.string x.at_) := rfl
theorem encFault_all (x : Fault) : (encFault x).take 2 = encFault x := rfl
structure Decision where
  kind : Int
  a : Int
  b : Int
  n : Int
  deriving DecidableEq
def encDecision (x : Decision) : List AV := [.v (.int .i64 x.kind), .v (.int .i64 x.a), .v (.int .i64 x.b), .v (.int .i64 x.n)]
theorem encDecision_len (x : Decision) : (encDecision x).length = 4 := rfl
theorem encDecision_0 (x : Decision) : (encDecision x).getD 0 .any = .v (.int .i64 x.kind) := rfl
theorem encDecision_1 (x : Decision) : (encDecision x).getD 1 .any = .v (.int .i64 x.a) := rfl
theorem encDecision_2 (x : Decision) : (encDecision x).getD 2 .any = .v (.int .i64 x.b) := rfl
theorem encDecision_3 (x : Decision) : (encDecision x).getD 3 .any = .v (.int .i64 x.n) := rfl
theorem encDecision_all (x : Decision) : (encDecision x).take 4 = encDecision x := rfl
structure Column where
  type : Int
  set : Int
  price : Int
  route : Route
  deriving DecidableEq
def encColumn (x : Column) : List AV := [.v (.int .i64 x.type), .v (.int .i64 x.set), .v (.int .i64 x.price), .v (.int .i64 x.route.type), .v (.int .i64 x.route.start), .sl (x.route.rests.map encBool), .sl (x.route.visits.map encVisit)]
theorem encColumn_len (x : Column) : (encColumn x).length = 7 := rfl
theorem encColumn_0 (x : Column) : (encColumn x).getD 0 .any = .v (.int .i64 x.type) := rfl
theorem encColumn_1 (x : Column) : (encColumn x).getD 1 .any = .v (.int .i64 x.set) := rfl
theorem encColumn_2 (x : Column) : (encColumn x).getD 2 .any = .v (.int .i64 x.price) := rfl
theorem encColumn_3 (x : Column) : (encColumn x).getD 3 .any = .v (.int .i64 x.route.type) := rfl
theorem encColumn_4 (x : Column) : (encColumn x).getD 4 .any = .v (.int .i64 x.route.start) := rfl
theorem encColumn_5 (x : Column) : (encColumn x).getD 5 .any = .sl (x.route.rests.map encBool) := rfl
theorem encColumn_6 (x : Column) : (encColumn x).getD 6 .any = .sl (x.route.visits.map encVisit) := rfl
theorem encColumn_all (x : Column) : (encColumn x).take 7 = encColumn x := rfl
theorem encColumn_route (x : Column) : ((encColumn x).drop 3).take 4 = encRoute x.route := rfl
structure Score where
  cost : Int
  moved : Int
  other : Int
  work : Int
  deriving DecidableEq
def encScore (x : Score) : List AV := [.v (.int .i64 x.cost), .v (.int .i64 x.moved), .v (.int .i64 x.other), .v (.int .i64 x.work)]
theorem encScore_len (x : Score) : (encScore x).length = 4 := rfl
theorem encScore_0 (x : Score) : (encScore x).getD 0 .any = .v (.int .i64 x.cost) := rfl
theorem encScore_1 (x : Score) : (encScore x).getD 1 .any = .v (.int .i64 x.moved) := rfl
theorem encScore_2 (x : Score) : (encScore x).getD 2 .any = .v (.int .i64 x.other) := rfl
theorem encScore_3 (x : Score) : (encScore x).getD 3 .any = .v (.int .i64 x.work) := rfl
theorem encScore_all (x : Score) : (encScore x).take 4 = encScore x := rfl
structure Cut where
  kind : Int
  set : Int
  n : Int
  deriving DecidableEq
def encCut (x : Cut) : List AV := [.v (.int .i64 x.kind), .v (.int .i64 x.set), .v (.int .i64 x.n)]
theorem encCut_len (x : Cut) : (encCut x).length = 3 := rfl
theorem encCut_0 (x : Cut) : (encCut x).getD 0 .any = .v (.int .i64 x.kind) := rfl
theorem encCut_1 (x : Cut) : (encCut x).getD 1 .any = .v (.int .i64 x.set) := rfl
theorem encCut_2 (x : Cut) : (encCut x).getD 2 .any = .v (.int .i64 x.n) := rfl
theorem encCut_all (x : Cut) : (encCut x).take 3 = encCut x := rfl
structure TimeT where
  arrive : Int
  start : Int
  depart : Int
  rest : Bool
  deriving DecidableEq
def encTimeT (x : TimeT) : List AV := [.v (.int .i64 x.arrive), .v (.int .i64 x.start), .v (.int .i64 x.depart), .v (.bool x.rest)]
theorem encTimeT_len (x : TimeT) : (encTimeT x).length = 4 := rfl
theorem encTimeT_0 (x : TimeT) : (encTimeT x).getD 0 .any = .v (.int .i64 x.arrive) := rfl
theorem encTimeT_1 (x : TimeT) : (encTimeT x).getD 1 .any = .v (.int .i64 x.start) := rfl
theorem encTimeT_2 (x : TimeT) : (encTimeT x).getD 2 .any = .v (.int .i64 x.depart) := rfl
theorem encTimeT_3 (x : TimeT) : (encTimeT x).getD 3 .any = .v (.bool x.rest) := rfl
theorem encTimeT_all (x : TimeT) : (encTimeT x).take 4 = encTimeT x := rfl
structure Weight where
  yes : Int
  no : Int
  noneYes : Bool
  noneNo : Bool
  deriving DecidableEq
def encWeight (x : Weight) : List AV := [.v (.int .i64 x.yes), .v (.int .i64 x.no), .v (.bool x.noneYes), .v (.bool x.noneNo)]
theorem encWeight_len (x : Weight) : (encWeight x).length = 4 := rfl
theorem encWeight_0 (x : Weight) : (encWeight x).getD 0 .any = .v (.int .i64 x.yes) := rfl
theorem encWeight_1 (x : Weight) : (encWeight x).getD 1 .any = .v (.int .i64 x.no) := rfl
theorem encWeight_2 (x : Weight) : (encWeight x).getD 2 .any = .v (.bool x.noneYes) := rfl
theorem encWeight_3 (x : Weight) : (encWeight x).getD 3 .any = .v (.bool x.noneNo) := rfl
theorem encWeight_all (x : Weight) : (encWeight x).take 4 = encWeight x := rfl
structure StepT where
  inst : Instance
  plan : Plan
  now : Int
  deriving DecidableEq
def encStepT (x : StepT) : List AV := [.sl (x.inst.net.places.map encStr), .sl (x.inst.net.arcs.map encArc), .sl (x.inst.types.map encVType), .sl (x.inst.orders.map encOrder), .sl (x.inst.apart.map encPair), .sl (x.inst.before.map encPair), .sl (x.plan.routes.map encRoute), .sl (x.plan.unserved.map encInt), .v (.int .i64 x.now)]
theorem encStepT_len (x : StepT) : (encStepT x).length = 9 := rfl
theorem encStepT_0 (x : StepT) : (encStepT x).getD 0 .any = .sl (x.inst.net.places.map encStr) := rfl
theorem encStepT_1 (x : StepT) : (encStepT x).getD 1 .any = .sl (x.inst.net.arcs.map encArc) := rfl
theorem encStepT_2 (x : StepT) : (encStepT x).getD 2 .any = .sl (x.inst.types.map encVType) := rfl
theorem encStepT_3 (x : StepT) : (encStepT x).getD 3 .any = .sl (x.inst.orders.map encOrder) := rfl
theorem encStepT_4 (x : StepT) : (encStepT x).getD 4 .any = .sl (x.inst.apart.map encPair) := rfl
theorem encStepT_5 (x : StepT) : (encStepT x).getD 5 .any = .sl (x.inst.before.map encPair) := rfl
theorem encStepT_6 (x : StepT) : (encStepT x).getD 6 .any = .sl (x.plan.routes.map encRoute) := rfl
theorem encStepT_7 (x : StepT) : (encStepT x).getD 7 .any = .sl (x.plan.unserved.map encInt) := rfl
theorem encStepT_8 (x : StepT) : (encStepT x).getD 8 .any = .v (.int .i64 x.now) := rfl
theorem encStepT_all (x : StepT) : (encStepT x).take 9 = encStepT x := rfl
theorem encStepT_inst (x : StepT) : (encStepT x).take 6 = encInstance x.inst := rfl
theorem encStepT_plan (x : StepT) : ((encStepT x).drop 6).take 2 = encPlan x.plan := rfl
structure PRow where
  coef : List Int
  kind : Int
  right : Int
  deriving DecidableEq
def encPRow (x : PRow) : List AV := [.sl (x.coef.map encInt), .v (.int .i64 x.kind), .v (.int .i64 x.right)]
theorem encPRow_len (x : PRow) : (encPRow x).length = 3 := rfl
theorem encPRow_0 (x : PRow) : (encPRow x).getD 0 .any = .sl (x.coef.map encInt) := rfl
theorem encPRow_1 (x : PRow) : (encPRow x).getD 1 .any = .v (.int .i64 x.kind) := rfl
theorem encPRow_2 (x : PRow) : (encPRow x).getD 2 .any = .v (.int .i64 x.right) := rfl
theorem encPRow_all (x : PRow) : (encPRow x).take 3 = encPRow x := rfl
structure PLin where
  cost : List Int
  rows : List PRow
  deriving DecidableEq
def encPLin (x : PLin) : List AV := [.sl (x.cost.map encInt), .sl (x.rows.map encPRow)]
theorem encPLin_len (x : PLin) : (encPLin x).length = 2 := rfl
theorem encPLin_0 (x : PLin) : (encPLin x).getD 0 .any = .sl (x.cost.map encInt) := rfl
theorem encPLin_1 (x : PLin) : (encPLin x).getD 1 .any = .sl (x.rows.map encPRow) := rfl
theorem encPLin_all (x : PLin) : (encPLin x).take 2 = encPLin x := rfl
structure Ask where
  x : Instance
  l : List Column
  cuts : List Cut
  d : List Decision
  deriving DecidableEq
def encAsk (x : Ask) : List AV := [.sl (x.x.net.places.map encStr), .sl (x.x.net.arcs.map encArc), .sl (x.x.types.map encVType), .sl (x.x.orders.map encOrder), .sl (x.x.apart.map encPair), .sl (x.x.before.map encPair), .sl (x.l.map encColumn), .sl (x.cuts.map encCut), .sl (x.d.map encDecision)]
theorem encAsk_len (x : Ask) : (encAsk x).length = 9 := rfl
theorem encAsk_0 (x : Ask) : (encAsk x).getD 0 .any = .sl (x.x.net.places.map encStr) := rfl
theorem encAsk_1 (x : Ask) : (encAsk x).getD 1 .any = .sl (x.x.net.arcs.map encArc) := rfl
theorem encAsk_2 (x : Ask) : (encAsk x).getD 2 .any = .sl (x.x.types.map encVType) := rfl
theorem encAsk_3 (x : Ask) : (encAsk x).getD 3 .any = .sl (x.x.orders.map encOrder) := rfl
theorem encAsk_4 (x : Ask) : (encAsk x).getD 4 .any = .sl (x.x.apart.map encPair) := rfl
theorem encAsk_5 (x : Ask) : (encAsk x).getD 5 .any = .sl (x.x.before.map encPair) := rfl
theorem encAsk_6 (x : Ask) : (encAsk x).getD 6 .any = .sl (x.l.map encColumn) := rfl
theorem encAsk_7 (x : Ask) : (encAsk x).getD 7 .any = .sl (x.cuts.map encCut) := rfl
theorem encAsk_8 (x : Ask) : (encAsk x).getD 8 .any = .sl (x.d.map encDecision) := rfl
theorem encAsk_all (x : Ask) : (encAsk x).take 9 = encAsk x := rfl
theorem encAsk_x (x : Ask) : (encAsk x).take 6 = encInstance x.x := rfl
structure Sheet where
  rest : Bool
  depart : Int
  times : List TimeT
  stop : Int
  miles : Int
  deriving DecidableEq
def encSheet (x : Sheet) : List AV := [.v (.bool x.rest), .v (.int .i64 x.depart), .sl (x.times.map encTimeT), .v (.int .i64 x.stop), .v (.int .i64 x.miles)]
theorem encSheet_len (x : Sheet) : (encSheet x).length = 5 := rfl
theorem encSheet_0 (x : Sheet) : (encSheet x).getD 0 .any = .v (.bool x.rest) := rfl
theorem encSheet_1 (x : Sheet) : (encSheet x).getD 1 .any = .v (.int .i64 x.depart) := rfl
theorem encSheet_2 (x : Sheet) : (encSheet x).getD 2 .any = .sl (x.times.map encTimeT) := rfl
theorem encSheet_3 (x : Sheet) : (encSheet x).getD 3 .any = .v (.int .i64 x.stop) := rfl
theorem encSheet_4 (x : Sheet) : (encSheet x).getD 4 .any = .v (.int .i64 x.miles) := rfl
theorem encSheet_all (x : Sheet) : (encSheet x).take 5 = encSheet x := rfl
attribute [go_sem] encInt_len encInt_0 encBool_len encBool_0 encStr_len encStr_0 encPoint_len encPoint_0 encPoint_1 encPoint_all encArc_len encArc_0 encArc_1 encArc_2 encArc_3 encArc_4 encArc_5 encArc_all encNetwork_len encNetwork_0 encNetwork_1 encNetwork_all encVType_len encVType_0 encVType_1 encVType_2 encVType_3 encVType_4 encVType_5 encVType_6 encVType_7 encVType_8 encVType_9 encVType_10 encVType_11 encVType_12 encVType_13 encVType_all encStop_len encStop_0 encStop_1 encStop_2 encStop_3 encStop_all encOrder_len encOrder_0 encOrder_1 encOrder_2 encOrder_3 encOrder_4 encOrder_5 encOrder_6 encOrder_7 encOrder_8 encOrder_9 encOrder_10 encOrder_11 encOrder_12 encOrder_13 encOrder_14 encOrder_15 encOrder_all encOrder_pick encOrder_drop encPair_len encPair_0 encPair_1 encPair_all encInstance_len encInstance_0 encInstance_1 encInstance_2 encInstance_3 encInstance_4 encInstance_5 encInstance_all encInstance_net encVisit_len encVisit_0 encVisit_1 encVisit_all encRoute_len encRoute_0 encRoute_1 encRoute_2 encRoute_3 encRoute_all encPlan_len encPlan_0 encPlan_1 encPlan_all encFault_len encFault_0 encFault_1 encFault_all encDecision_len encDecision_0 encDecision_1 encDecision_2 encDecision_3 encDecision_all encColumn_len encColumn_0 encColumn_1 encColumn_2 encColumn_3 encColumn_4 encColumn_5 encColumn_6 encColumn_all encColumn_route encScore_len encScore_0 encScore_1 encScore_2 encScore_3 encScore_all encCut_len encCut_0 encCut_1 encCut_2 encCut_all encTimeT_len encTimeT_0 encTimeT_1 encTimeT_2 encTimeT_3 encTimeT_all encWeight_len encWeight_0 encWeight_1 encWeight_2 encWeight_3 encWeight_all encStepT_len encStepT_0 encStepT_1 encStepT_2 encStepT_3 encStepT_4 encStepT_5 encStepT_6 encStepT_7 encStepT_8 encStepT_all encStepT_inst encStepT_plan encPRow_len encPRow_0 encPRow_1 encPRow_2 encPRow_all encPLin_len encPLin_0 encPLin_1 encPLin_all encAsk_len encAsk_0 encAsk_1 encAsk_2 encAsk_3 encAsk_4 encAsk_5 encAsk_6 encAsk_7 encAsk_8 encAsk_all encAsk_x encSheet_len encSheet_0 encSheet_1 encSheet_2 encSheet_3 encSheet_4 encSheet_all
theorem getD_map {α : Type} {f : α → List AV} {l : List α} {k : Nat} {x : α} (h : l[k]? = some x) : (l.map f).getD k [] = f x := by simp [List.getD, h]
theorem map_len {α : Type} (f : α → List AV) (l : List α) : (l.map f).length = l.length := List.length_map f
theorem nat_toNat (n : Nat) : ((n : Int)).toNat = n := Int.toNat_natCast n
attribute [go_sem] map_len nat_toNat
theorem wrap_in {n : Int} (h : -9223372036854775808 ≤ n ∧ n ≤ 9223372036854775807) : IntKind.i64.wrap n = n := IntWalk.i64_in n h
end Go.Aw.D
end

section
set_option linter.unusedSimpArgs false
set_option linter.unusedVariables false
namespace Go.Proofs.YtbcfajfngdmgnaaGreatDoor
open Go.Aw Go.Aw.D Go.Proofs Ty
abbrev int (n : Int) : AV := .v (.int .i64 n)
abbrev str (s : ByteArray) : AV := .v (.string s)
abbrev boo (b : Bool) : AV := .v (.bool b)
theorem take_succ {α : Type} {l : List α} {k : Nat} {x : α} (h : l[k]? = some x) : l.take (k + 1) = l.take k ++ [x] := by
  rw [List.take_add_one, h]; rfl
theorem getIn {α : Type} {l : List α} {k : Nat} (h : k < l.length) : ∃ x, l[k]? = some x := ⟨l[k], List.getElem?_eq_getElem h⟩
theorem inB {k n : Nat} (h : k < n) : 0 ≤ (k : Int) ∧ (k : Int) < (n : Int) := by omega
theorem wrapS {k : Nat} (h : k ≤ 4611686018427387904) : IntKind.i64.wrap ((k : Int) + 1) = ((k + 1 : Nat) : Int) := by rw [wrap_in (by omega)]; omega
theorem wrapP {k : Nat} (h : k ≤ 4611686018427387904) : (IntKind.i64.wrap ((k : Int) - 1)).toNat = k - 1 := by rw [wrap_in (by omega)]; omega
theorem wrapQ {k : Nat} (h : k ≤ 4611686018427387904) : IntKind.i64.wrap ((k : Int) - 1) = (k : Int) - 1 := wrap_in (by omega)
/-- an append onto own row j, its row type known -/
def wappE (e : TypeId × Nat × Nat) (d : Option Tmp) (j : Nat) (x : AV) (ρ : Env) (H : Heap) (K : Env → Heap → Prop) : Prop := match H j with
  | some r => asrc H x fun news => (r.e = e.1 ∧ r.sz = e.2.1 ∧ allLen e.2.1 news ∧ (r.es.length + news.length) * e.2.2 ≤ 140737488355328) ∧
        ∀ k', H k' = none → K (upd ρ d (.os k')) (updH (updH H j none) k' (some ⟨e.1, e.2.1, r.es ++ news⟩))
  | none => False
theorem wapp_E {P : Program} {d : Option Tmp} {t : TypeId} {j : Nat} {x : AV} {ρ : Env} {H : Heap} {K : Env → Heap → Prop} : wapp P d t (.os j) x ρ H K = withO (elemT P t) (fun e => wappE e d j x ρ H K) := by
  unfold wapp aappend wappE
  cases elemT P t with
  | none => rfl
  | some e => obtain ⟨a, b, c⟩ := e; rfl
@[congr] theorem wappE_c {e d j x x' ρ H K} (h' : x = x') : wappE e d j x ρ H K = wappE e d j x' ρ H K := h' ▸ rfl
@[congr] theorem FCalls_c {P f a a' H R} (h' : a = a') : FCalls P f a H R = FCalls P f a' H R := h' ▸ rfl
theorem wappE_i {e : TypeId × Nat × Nat} {d : Option Tmp} {j : Nat} {news : List (List AV)} {ρ : Env} {H : Heap} {K : Env → Heap → Prop} {r : Row} (hj : H j = some r)
    (h1 : r.e = e.1 ∧ r.sz = e.2.1) (h2 : allLen e.2.1 news) (h3 : (r.es.length + news.length) * e.2.2 ≤ 140737488355328)
    (h : ∀ j', H j' = none → K (upd ρ d (.os j')) (updH (updH H j none) j' (some ⟨e.1, e.2.1, r.es ++ news⟩))) : wappE e d j (.sl news) ρ H K := by
  unfold wappE
  simp only [hj]
  exact ⟨⟨h1.1, h1.2, h2, h3⟩, h⟩
theorem wappE_o {e : TypeId × Nat × Nat} {d : Option Tmp} {j i : Nat} {r' : Row} {ρ : Env} {H : Heap} {K : Env → Heap → Prop} {r : Row} (hj : H j = some r) (hi : H i = some r')
    (h1 : r.e = e.1 ∧ r.sz = e.2.1) (h2 : allLen e.2.1 r'.es) (h3 : (r.es.length + r'.es.length) * e.2.2 ≤ 140737488355328)
    (h : ∀ j', H j' = none → K (upd ρ d (.os j')) (updH (updH H j none) j' (some ⟨e.1, e.2.1, r.es ++ r'.es⟩))) : wappE e d j (.os i) ρ H K := by
  unfold wappE
  simp only [hj, asrc, hi]
  exact ⟨⟨h1.1, h1.2, h2, h3⟩, h⟩
/-- where the two ways of a branch come together: what holds there is J -/
theorem acond_join {P : Program} {C : CallP} {PC : FuncId → List AV → Heap → AV → Prop} {mt : Nat → Bool} {a b : Code} {x : AV} {K : Env → Heap → Prop} {Q : Ex → Env → Heap → Prop} {ρ : Env} {H : Heap} (J : Env → Heap → Prop) (h1 : ∀ ρ H, J ρ H → K ρ H)
    (h2 : ∀ K : Env → Heap → Prop, (∀ ρ H, J ρ H → K ρ H) → acond x (awp P C PC mt a (Ex.seq K Q)) (awp P C PC mt b (Ex.seq K Q)) ρ H) : acond x (awp P C PC mt a (Ex.seq K Q)) (awp P C PC mt b (Ex.seq K Q)) ρ H := h2 K h1
theorem acond_cut {x : AV} {A B : Env → Heap → Prop} {ρ : Env} {H : Heap} (J : Env → Heap → Prop) (h1 : J ρ H) (h2 : ∀ ρ H, J ρ H → acond x A B ρ H) : acond x A B ρ H := h2 ρ H h1
/-- where the ways out of a loop come together: what holds there is J -/
theorem aloop_join {P : Program} {C : CallP} {PC : FuncId → List AV → Heap → AV → Prop} {mt : Nat → Bool} {c : Code} {id : Nat} {Q : Ex → Env → Heap → Prop} {ρ : Env} {H : Heap} (J : Env → Heap → Prop) (h1 : ∀ ρ H, J ρ H → Q .normal ρ H)
    (h2 : ∀ Q' : Ex → Env → Heap → Prop, (∀ ρ H, J ρ H → Q' (.exit id) ρ H) → (∀ ρ H, Q .ret ρ H → Q' .ret ρ H) → aloop (awp P C PC mt c) Q' ρ H) : aloop (awp P C PC mt c) (Ex.blk id Q) ρ H :=
  h2 (Ex.blk id Q) (fun ρ H h => by rw [blk_same]; exact h1 ρ H h) (fun ρ H h => by rw [blk_ret]; exact h)
/-- the same, the branch being the last of its block -/
theorem acond_joinL {P : Program} {C : CallP} {PC : FuncId → List AV → Heap → AV → Prop} {mt : Nat → Bool} {a b : Code} {x : AV} {Q : Ex → Env → Heap → Prop} {ρ : Env} {H : Heap} (J : Env → Heap → Prop) (h1 : ∀ ρ H, J ρ H → Q .normal ρ H)
    (h2 : ∀ Q' : Ex → Env → Heap → Prop, (∀ ρ H, J ρ H → Q' .normal ρ H) → (∀ i ρ H, Q (.exit i) ρ H → Q' (.exit i) ρ H) → (∀ ρ H, Q .ret ρ H → Q' .ret ρ H) → acond x (awp P C PC mt a Q') (awp P C PC mt b Q') ρ H) : acond x (awp P C PC mt a Q) (awp P C PC mt b Q) ρ H :=
  h2 Q h1 (fun _ _ _ h => h) (fun _ _ h => h)
/-- a store into own row j, the cells' number known -/
def wputB (P : Program) (t : TypeId) (l : Option Nat) (d : Option Tmp) (j i f : Nat) (cs : List AV) (ρ : Env) (H : Heap) (K : Env → Heap → Prop) : Prop := match H j with
  | some r => (i < r.es.length ∧ cs.length = l.getD 1 ∧ f + cs.length ≤ r.sz ∧ (l = none → ∃ i, P.info? t = some i ∧ i.size = 1)) ∧ K (upd ρ d .any) (updH H j (some { r with es := r.es.set i (setAt (r.es.getD i []) f cs) }))
  | none => False
def wputE (P : Program) (t : TypeId) (l : Option Nat) (d : Option Tmp) (j i f : Nat) (cs : List AV) (ρ : Env) (H : Heap) (K : Env → Heap → Prop) : Prop :=
  wputB P t l d j i f cs ρ H K ∨ ∃ nl : List (Nat × TypeId × Nat), (∀ x ∈ nl, cs[x.1]? = some (.v (.slice none 0 0)) ∧ 0 < x.2.2) ∧ ownNils nl cs H fun cs H => wputB P t l d j i f cs ρ H K
theorem wput_E {P : Program} {d : Option Tmp} {t : TypeId} {j i f : Nat} {cs : List AV} {ρ : Env} {H : Heap} {K : Env → Heap → Prop} : wput P d t (.op j i f) cs ρ H K = withO (ldT P t) (fun l => wputE P t l d j i f cs ρ H K) := by
  have hB : ∀ cs H, astore P ⟨d, .move (.tmp 0), 0, "", #[], none⟩ t (.op j i f) cs ρ H K = withO (ldT P t) (fun l => wputB P t l d j i f cs ρ H K) := by
    intro cs H
    unfold astore wputB
    cases h1 : H j <;> cases h2 : ldT P t <;> simp [withO, h1]
  unfold wput astoreN wputE
  simp only [hB]
  cases h2 : ldT P t <;> simp [withO]
@[congr] theorem wputE_c {P t l d j i f cs cs' ρ H K} (h' : cs = cs') : wputE P t l d j i f cs ρ H K = wputE P t l d j i f cs' ρ H K := h' ▸ rfl
theorem wputE_n {P : Program} {t : TypeId} {m : Nat} {d : Option Tmp} {j i f : Nat} {cs : List AV} {ρ : Env} {H : Heap} {K : Env → Heap → Prop} {r : Row} (hj : H j = some r) (h1 : i < r.es.length ∧ cs.length = m ∧ f + cs.length ≤ r.sz)
    (h : K (upd ρ d .any) (updH H j (some { r with es := r.es.set i (setAt (r.es.getD i []) f cs) }))) : wputE P t (some m) d j i f cs ρ H K := by
  refine .inl ?_
  unfold wputB
  simp only [hj]
  exact ⟨⟨h1.1, h1.2.1, h1.2.2, by simp⟩, h⟩
theorem wputE_1 {P : Program} {t : TypeId} {d : Option Tmp} {j i f : Nat} {cs : List AV} {ρ : Env} {H : Heap} {K : Env → Heap → Prop} {r : Row} (ht : ∃ i, P.info? t = some i ∧ i.size = 1) (hj : H j = some r) (h1 : i < r.es.length ∧ cs.length = 1 ∧ f + cs.length ≤ r.sz)
    (h : K (upd ρ d .any) (updH H j (some { r with es := r.es.set i (setAt (r.es.getD i []) f cs) }))) : wputE P t none d j i f cs ρ H K := by
  refine .inl ?_
  unfold wputB
  simp only [hj]
  exact ⟨⟨h1.1, h1.2.1, h1.2.2, fun _ => ht⟩, h⟩
theorem toNat0 : Int.toNat 0 = 0 := rfl
theorem imp_and2 {a b : Prop} : (a → b → a ∧ b) = True := by simp; exact fun h1 h2 => ⟨h1, h2⟩
attribute [go_sem ↓] wapp_E wput_E
attribute [go_sem] wput_E List.set_cons_zero List.set_cons_succ
attribute [go_sem] Int.reduceToNat toNat0 beq_true beq_false Bool.not_eq_true' Bool.and_eq_true imp_and2
attribute [go_sem] wapp_E retQ aresL oneOr Bool.or_true Bool.true_or Bool.false_or Bool.or_false
theorem keep_app {H : Heap} {i j j' : Nat} {r r' : Row} (hi : H i = some r) (hji : j ≠ i) (hj' : H j' = none) : updH (updH H j none) j' (some r') i = some r := by
  have h1 : i ≠ j' := fun e => by subst e; rw [hi] at hj'; simp at hj'
  rw [updH_ne _ _ _ _ h1, updH_ne _ _ _ _ (Ne.symm hji), hi]
theorem keep_new {H : Heap} {i j : Nat} {r r' : Row} (hi : H i = some r) (hj : H j = none) : updH H j (some r') i = some r := by
  have h1 : i ≠ j := fun e => by subst e; rw [hi] at hj; simp at hj
  rw [updH_ne _ _ _ _ h1, hi]
theorem ne_new {H : Heap} {i j : Nat} {r : Row} (hi : H i = some r) (hj : H j = none) : i ≠ j := fun e => by subst e; rw [hi] at hj; simp at hj
def opt {α : Type} (b : Bool) (f : α) : List α := match b with | true => [f] | false => []
theorem opt_t {α : Type} {b : Bool} {f : α} (h : b = true) : opt b f = [f] := by rw [h]; rfl
theorem opt_f {α : Type} {b : Bool} {f : α} (h : b = false) : opt b f = [] := by rw [h]; rfl
theorem opt_len {α : Type} (b : Bool) (f : α) : (opt b f).length ≤ 1 := by cases b <;> simp [opt]
theorem row_appG {α : Type} {e : TypeId} {sz : Nat} {enc : α → List AV} {H : Heap} {k : Nat} {l l' : List α} {cs : List (List AV)} (h : cs = l'.map enc) : updH H k (some ⟨e, sz, l.map enc ++ cs⟩) k = some (⟨e, sz, (l ++ l').map enc⟩ : Row) := by rw [updH_same, h, List.map_append]
theorem row_app {e : TypeId} {sz : Nat} {enc : Fault → List AV} {H : Heap} {k : Nat} {l l' : List Fault} {cs : List (List AV)} (h : cs = l'.map enc) : updH H k (some ⟨e, sz, l.map enc ++ cs⟩) k = some (⟨e, sz, (l ++ l').map enc⟩ : Row) := row_appG h
theorem row_appI {e : TypeId} {sz : Nat} {enc : Int → List AV} {H : Heap} {k : Nat} {l l' : List Int} {cs : List (List AV)} (h : cs = l'.map enc) : updH H k (some ⟨e, sz, l.map enc ++ cs⟩) k = some (⟨e, sz, (l ++ l').map enc⟩ : Row) := row_appG h
abbrev typeRow (t : VType) : Row := ⟨105, 14, [encVType t]⟩
abbrev orderRow (o : Order) : Row := ⟨96, 16, [encOrder o]⟩
abbrev arcRow (a : Arc) : Row := ⟨240, 6, [encArc a]⟩
abbrev errRow (l : List Int) : Row := ⟨29, 1, l.map encInt⟩
abbrev faultRow (l : List Fault) : Row := ⟨153, 2, l.map encFault⟩
end Go.Proofs.YtbcfajfngdmgnaaGreatDoor
end

section
set_option linter.unusedSimpArgs false
set_option linter.unusedVariables false
namespace Go.Aw
open Go.RowKit
section
variable {P : Program} {S : Sg} {w : World} {H : Heap} {f : FuncId} {args args' : List AV} {K : AV → Heap → Prop}
/-- the listed own rows are from now on read-only data -/
theorem St.frz (hS : St S w H) (l : List Nat) : St (S.froze fun k => if k ∈ l then H k else none) w (fun k => if k ∈ l then none else H k) ∧ Grow S w (S.froze fun k => if k ∈ l then H k else none) w ∧ St S w fun k => if k ∈ l then H k else none := by
  let Hf : Heap := fun k => if k ∈ l then H k else none
  let Hr : Heap := fun k => if k ∈ l then none else H k
  have hf : ∀ k r', Hf k = some r' → k ∈ l ∧ H k = some r' := fun k r' hk => by
    by_cases e : k ∈ l
    · exact ⟨e, by simpa [Hf, e] using hk⟩
    · simp [Hf, e] at hk
  have hrr : ∀ k r', Hr k = some r' → ¬ k ∈ l ∧ H k = some r' := fun k r' hk => by
    by_cases e : k ∈ l
    · simp [Hr, e] at hk
    · exact ⟨e, by simpa [Hr, e] using hk⟩
  refine ⟨⟨?_, ?_, fun k r' hk => (hS.rows k r' (hrr k r' hk).2).keep (S.le_froze Hf) (Kept.refl S w) (fun _ _ => rfl), ?_, fun k k' r1 r2 hk hk' hne g hg hg' => hS.disj k k' r1 r2 (hrr k r1 hk).2 (hrr k' r2 hk').2 hne g hg hg', hS.tabs.keep (S.le_froze Hf) (Kept.refl S w)⟩, ⟨S.le_froze Hf, fun k hk => .inl hk, rfl, rfl, rfl, Nat.le_refl _, fun _ _ => rfl, ?_⟩, hS.drop fun k r' hk => (hf k r' hk).2⟩
  · rintro g (hg | hg)
    · exact .inl (hS.ro_fz g hg)
    · exact .inr hg
  · rintro g (hg | ⟨k, r', hk, hg⟩)
    · exact hS.fz_lt g hg
    · exact (hS.rows k r' (hf k r' hk).2).block_lt hg
  · rintro k r' hk g hg (h1 | ⟨i, r2, hi, h2⟩)
    · exact hS.free k r' (hrr k r' hk).2 g hg h1
    · exact hS.disj k i r' r2 (hrr k r' hk).2 (hf i r2 hi).2 (fun e => (hrr k r' hk).1 (e ▸ (hf i r2 hi).1)) g hg h2
  · rintro g (hg | ⟨k, r', hk, hg⟩)
    · exact .inl hg
    · exact .inr (hS.free k r' (hf k r' hk).2 g hg)
/-- own rows are handed to a call as data -/
theorem FCalls.frz (l : List Nat) (hc : ConvL (fun k => if k ∈ l then H k else none) args args') (h : FCalls P f args' (fun k => if k ∈ l then none else H k) K) : FCalls P f args H K := by
  intro S w vals hS ha
  obtain ⟨h1, h2, h3⟩ := hS.frz l
  refine (h _ w vals h1 (hc.rep h3 ha)).mono fun e w' ⟨v, r, H', S', he, hr, hS', hv, hg, hn⟩ => ⟨v, r, H', S', he, hr, hS', hv, h2.trans hg, fun k hk h0 => hn k hk ?_⟩
  by_cases e : k ∈ l
  · simp [e]
  · simpa [e] using h0
theorem PC.useF {r : AV} (l : List Nat) (hc : ConvL (fun k => if k ∈ l then H k else none) args args') (h : PC P f args' r) (hK : K r (fun k => if k ∈ l then none else H k)) : FCalls P f args H K := FCalls.frz l hc (PC.use h hK)
theorem NC.useF {row : Row} {mk : Nat → AV} (l : List Nat) (hc : ConvL (fun k => if k ∈ l then H k else none) args args') (h : NC P f args' row mk) (hK : ∀ k, (if k ∈ l then none else H k) = none → K (mk k) (updH (fun k => if k ∈ l then none else H k) k (some row))) : FCalls P f args H K := FCalls.frz l hc (NC.use h hK)
/-- a function of the library: its arguments and its result are plain -/
theorem PC.lib {a : List Value} {r : AV} {v : Value} (hr : ∀ S w, rep S w r v) (h : ∀ w, (∀ t ∈ tabL, varCells w t.1 = some t.2) → Calls P f a.toArray w fun e w' => e = .returned v ∧ Below w.heap.size w w') : PC P f (a.map .v) r := by
  intro S w vals hS hf ha
  obtain rfl : vals = a := by
    clear h
    induction a generalizing vals with
    | nil =>
      cases vals with
      | nil => rfl
      | cons x r => simp [repL] at ha
    | cons x a ih =>
      simp only [List.map_cons, repL] at ha
      obtain ⟨u, t, rfl, h1, h2⟩ := ha
      simp only [rep] at h1
      subst h1
      rw [ih t h2]
  refine (h w fun t ht => (hS.tabs t ht).2).mono fun e w' ⟨he, hb⟩ => ?_
  exact ⟨v, r, noRows, S, he, rfl, hS.after hb.size fun k hk => hb.block k hk, hr S w', hS.grow hb.os hb.tape hb.output hb.size fun k hk => hb.block k hk, NewK.refl _ _⟩
end
end Go.Aw
end
